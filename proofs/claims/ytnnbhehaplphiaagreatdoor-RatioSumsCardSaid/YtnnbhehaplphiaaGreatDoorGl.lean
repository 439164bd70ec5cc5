/-
  A strings.Builder of the call's own: an object; its methods, with a frame that keeps all other blocks.
-/
import Derived.Test.YtnnbhehaplphiaaGreatDoorGe
import Derived.Shelf.Strings.BuilderK
namespace Go.Gw
open Go Go.RowKit Go.Pu Go.Proofs Go.Shelf
variable {Dw : Prop}
set_option linter.unusedSimpArgs false
set_option linter.unusedVariables false

/-- only these blocks may have changed -/
structure Ch (f : List Nat) (w w' : World) : Prop where
  os : w'.os = w.os
  tape : w'.tape = w.tape
  output : w'.output = w.output
  size : w.heap.size ≤ w'.heap.size
  blk : ∀ k, k < w.heap.size → k ∉ f → w'.heap[k]? = w.heap[k]?
theorem Ch.refl (f : List Nat) (w : World) : Ch f w w := ⟨rfl, rfl, rfl, Nat.le_refl _, fun _ _ _ => rfl⟩
theorem Ch.trans {f : List Nat} {a b c : World} (h : Ch f a b) (k : Ch f b c) : Ch f a c :=
  ⟨k.os.trans h.os, k.tape.trans h.tape, k.output.trans h.output, Nat.le_trans h.size k.size, fun i hi hf => (k.blk i (Nat.lt_of_lt_of_le hi h.size) hf).trans (h.blk i hi hf)⟩
theorem Ch.set {f : List Nat} {w : World} (a : Addr) (v : Value) (h : a.block ∈ f) : Ch f w (w.setCell a v) :=
  ⟨rfl, rfl, rfl, by simp [World.setCell], fun k _ hf => Below.heap_setCell _ _ _ _ (fun e => hf (e ▸ h))⟩
theorem Ch.grown {f : List Nat} {w w' : World} {row : Option Nat} (h : w.grownBy w' row) (hr : ∀ g, row = some g → g ∈ f) : Ch f w w' :=
  ⟨h.os, h.tape, h.output, h.size, fun k hk hf => h.block k hk fun e => hf (hr k e.symm)⟩
theorem Ch.freeze {f : List Nat} {w : World} (p : Addr) (n : Nat) (h : p.block ∈ f) : Ch f w (w.drew.freeze p n) := by
  unfold World.freeze
  split
  · exact ⟨rfl, rfl, rfl, Nat.le_refl _, fun _ _ _ => rfl⟩
  · exact ⟨rfl, rfl, rfl, by simp, fun k _ hf => by
      simp only [Array.getElem?_modify]
      rw [if_neg fun (e : p.block = k) => hf (e ▸ h)]
      rfl⟩

section
variable {P : Program} {w : World}
theorem app_str_row (t u ty e : TypeId) (i : TypeInfo) (ht : P.underlying t = some (.slice e)) (hu : P.underlying u = some .string) (hi : P.info? e = some i) (hz : i.zero = some (.int .u8 0)) (hsize : i.size = 1) (hby : i.bytes = 1)
    (v : Value) (n : Nat) (xs : List Value) (hown : w.ownsRowF 0 e 1 v n xs) (s : ByteArray) (h63 : n + s.size ≤ maxLen) (hbytes : n + s.size ≤ 140737488355328) {v' : Value} {w' : World}
    (hr : (Builtin.append_ #[t, u] ty #[v, .string s]).run P w = .ok v' w') : ∀ g, v'.ownBlock = some g → v.ownBlock = some g ∨ w.heap.size ≤ g := by
  intro g' hg'
  rcases hown.2 with ⟨rfl, rfl⟩ | ⟨g, cap, cur, fz, rfl, hbg, hg, hfz, hnc, hcm, hcs, htake⟩
  · obtain ⟨v2, w2, h1, h2, _⟩ := Lib.run_append_own_string (P := P) w w.heap.size t u ty e i ht hu hi hz hsize hby (.slice none 0 0) 0 xs ⟨hown.1, .inl ⟨rfl, rfl⟩⟩ s h63 hbytes (Nat.le_refl _)
    rw [hr] at h1
    injection h1 with e1 e2
    subst e1
    exact .inr ((World.ownsRowF_of h2).lt g' hg').1
  · have hsmall : n + s.size ≤ 9223372036854775807 := by simp only [maxLen] at h63; omega
    have hxl : xs.length = n := by simpa using hown.1
    by_cases hroom : n + s.size ≤ cap
    · have hcs' : cur.size = cap := by simpa using hcs
      have h1 := Lib.run_append_room_stringF (P := P) w t u ty e i ht hu hi hsize g n cap cur fz hg (by simpa using hfz) s hroom (by omega)
      rw [hr] at h1
      injection h1 with e1 e2
      subst e1
      exact .inl hg'
    · have h1 := Lib.run_append_grow_string (P := P) w t u ty e i (.int .u8 0) ht hu hi hz ⟨g, 0, none⟩ n cap xs (by rw [hsize]; simpa using hxl) (hown.cells (g := g) rfl) s (by omega) (by omega) (by rw [hby]; exact growslice_fits (by omega) (by omega))
      rw [hr] at h1
      injection h1 with e1 e2
      subst e1
      simp [Value.ownBlock] at hg'
      exact .inr (by omega)
variable (w)
theorem wp_app_str {ops : Array Oper} {rest : List Oper} {o : Oper} {a : Act} {Q : Exit → Act → World → Prop} (hgd : o.guard = none) (sl x : Operand) (t u : TypeId)
    (ho : o.op = .call { callee := .builtin .append, args := #[sl, x], argTypes := #[t, u] })
    (e : TypeId) (i : TypeInfo) (ht : P.underlying t = some (.slice e)) (hu : P.underlying u = some .string) (hi : P.info? e = some i) (hz : i.zero = some (.int .u8 0)) (hsize : i.size = 1) (hby : i.bytes = 1)
    (v : Value) (n : Nat) (xs : List Value) (hs : a.eval sl = v) (hown : w.ownsRowF 0 e 1 v n xs) (s : ByteArray) (hx : a.eval x = .string s) (h63 : n + s.size ≤ maxLen) (hbytes : n + s.size ≤ 140737488355328)
    (h : ∀ v' w', w'.ownsRowF 0 e 1 v' (n + s.size) (xs ++ Lib.strCells s) → w.grownBy w' v.ownBlock → (v' = .slice none 0 0 ↔ v = .slice none 0 0 ∧ s.size = 0) → (∀ g, v'.ownBlock = some g → v.ownBlock = some g ∨ w.heap.size ≤ g) → wpList P ops Q rest (a.put o.dst v') w') : wpList P ops Q (o :: rest) a w := by
  refine wpList_plain hgd fun K hK => ?_
  obtain ⟨v', w', hr, h2, h3, h4⟩ := Lib.run_append_own_stringF (P := P) w 0 t u o.type e i ht hu hi hz hsize hby v n xs hown s h63 hbytes (Nat.zero_le _)
  have h5 := app_str_row (P := P) t u o.type e i ht hu hi hz hsize hby v n xs hown s h63 hbytes hr
  unfold Oper.wp execOp
  simp only [ho, resolve, invoke, builtin, Sem.run_bind, Sem.run_pure, Result.andThen_ok, List.map_toArray, List.map_cons, List.map_nil, hs, hx, hr]
  exact hK _ _ (h v' w' h2 h3 h4 h5)
end

/-- what a builder is: its own variable, and its row of bytes -/
structure Bd (T e : TypeId) (b : Nat) (p v : Value) (xs : List Value) (w : World) : Prop where
  nil : p = .pointer none ∨ p = .pointer (some ⟨b, 0, none⟩)
  var : w.heap[b]? = some (.cells #[p, v] T (0, 0))
  own : w.ownsRowF 0 e 1 v xs.length xs
  ne : v.ownBlock ≠ some b
  none : v = .slice none 0 0 ∨ xs ≠ []
theorem Bd.lt {T e : TypeId} {b : Nat} {p v : Value} {xs : List Value} {w : World} (h : Bd T e b p v xs w) : b < w.heap.size := (Array.getElem?_eq_some_iff.1 h.var).1

section
variable {P : Program} {ρ : Ren}
theorem bd_copy (L : Lays.n240 P ρ) (X : Builder.X72 P ρ) (b : Nat) (p v : Value) (w : World) (hp : p = .pointer none ∨ p = .pointer (some ⟨b, 0, none⟩)) (hb : w.heap[b]? = some (.cells #[p, v] (ρ.t 72) (0, 0))) :
    Calls P (ρ.f 240) #[.pointer (some ⟨b, 0, none⟩)] w fun e w' => e = .returned (.tuple #[]) ∧ w'.heap[b]? = some (.cells #[.pointer (some ⟨b, 0, none⟩), v] (ρ.t 72) (0, 0)) ∧ Ch [b] w w' ∧ w'.heap.size = w.heap.size := by
  rcases hp with rfl | rfl
  · refine (Any.Builder_copyCheck_fresh L X b w (by rw [Lib.cell_of_heap hb]; rfl) (by simp [World.shape?, hb]) (by simp [World.frozen?, hb])).mono ?_
    rintro e w' ⟨rfl, rfl⟩
    exact ⟨rfl, by simp [World.setCell, Array.getElem?_modify, hb], .set _ _ (by simp), by simp [World.setCell]⟩
  · refine (Any.Builder_copyCheck_used L X b w (by rw [Lib.cell_of_heap hb]; rfl)).mono ?_
    rintro e w' ⟨rfl, rfl⟩
    exact ⟨rfl, hb, .refl _ _, rfl⟩
theorem ownsRowF_same {w w' : World} {e : TypeId} {n : Nat} {v : Value} {xs : List Value} (h : w.ownsRowF 0 e 1 v n xs) (hs : ∀ g, v.ownBlock = some g → w'.heap[g]? = w.heap[g]?) : w'.ownsRowF 0 e 1 v n xs := by
  refine ⟨h.1, ?_⟩
  rcases h.2 with hn | ⟨g, cap, cur, fz, rfl, hb, hgg, rest⟩
  · exact .inl hn
  · exact .inr ⟨g, cap, cur, fz, rfl, hb, (hs g rfl).trans hgg, rest⟩

set_option maxHeartbeats 2000000 in
set_option maxRecDepth 100000 in
theorem bd_write (L : Lays.n166 P ρ) (X : Builder.Extra P ρ) (b : Nat) (p v : Value) (xs : List Value) (s : ByteArray) (w : World) (h : Bd (ρ.t 72) (ρ.t 5) b p v xs w) (hlen : xs.length + s.size ≤ 140737488355328) :
    Calls P (ρ.f 166) #[.pointer (some ⟨b, 0, none⟩), .string s] w fun e w' => e = .returned (.tuple #[.int .i64 s.size, .nilIface]) ∧ ∃ p' v', Bd (ρ.t 72) (ρ.t 5) b p' v' (xs ++ Lib.strCells s) w' ∧ Ch (b :: v.ownBlock.toList) w w' ∧ ∀ g, v'.ownBlock = some g → v.ownBlock = some g ∨ w.heap.size ≤ g := by
  obtain ⟨i0, hi, hz0, hz1, hz2⟩ := info_parts X.infoByte
  have mixed := L.mixed
  have t72 := L.t72; have a72 := L.a72; have z72 := L.z72; have v72 := L.v72; have u72 := run_underlying L.t72
  have t70 := L.t70; have a70 := L.a70; have z70 := L.z70; have v70 := L.v70; have u70 := run_underlying L.t70
  have t37 := L.t37; have a37 := L.a37; have z37 := L.z37; have v37 := L.v37; have u37 := run_underlying L.t37
  have t3 := L.t3; have a3 := L.a3; have z3 := L.z3; have v3 := L.v3; have u3 := run_underlying L.t3
  have t9 := L.t9; have a9 := L.a9; have z9 := L.z9; have v9 := L.v9; have u9 := run_underlying L.t9
  have t4 := L.t4; have a4 := L.a4; have z4 := L.z4; have v4 := L.v4; have u4 := run_underlying L.t4
  have t164 := L.t164; have a164 := L.a164; have z164 := L.z164; have v164 := L.v164; have u164 := run_underlying L.t164
  have t5 := X.t5; have a5 := X.a5; have z5 := X.z5; have v5 := X.v5; have u5 := run_underlying X.t5
  have e240 : ∀ args w, (callFunc (ρ.f 240) args).run P w = .ok (.enter (ρ.f 240) args) w := enters_of L.f240 (by kernel_rfl) rfl
  obtain ⟨hp, hvar, hown, hne, hnone⟩ := h
  go_enter L.f166, Body.n166_ntmps ρ
  go_wp2_with (go_at_fn (ρ.f 240); refine (bd_copy { L with } X.toX72 b p v _ hp hvar).mono ?_)
  rintro e w1 ⟨rfl, hbk, hc1, hsz⟩
  have hsz' := hc1.size
  clear hsz
  have hlt : b < w1.heap.size := (Array.getElem?_eq_some_iff.1 hbk).1
  have hown1 : w1.ownsRowF 0 (ρ.t 5) 1 v xs.length xs := ownsRowF_same hown fun g hg => hc1.blk g ((hown.lt g hg).2) (by simp; rintro rfl; exact hne hg)
  have c0 : w1.cell? ⟨b, 0, none⟩ = some (.pointer (some ⟨b, 0, none⟩)) := by rw [Lib.cell_of_heap hbk]; rfl
  have c1 : w1.cell? ⟨b, 1, none⟩ = some v := by rw [Lib.cell_of_heap hbk]; rfl
  go_wp2_with (at_builtin; refine wp_app_str _ rfl _ _ (ρ.t 37) (ρ.t 9) rfl (ρ.t 5) i0 L.t37 L.t9 hi hz0 hz1 hz2 _ _ _ rfl hown1 s rfl ?c3 ?c4 ?_)
  case c3 => unfold maxLen; omega
  case c4 => omega
  intro v' w2 hown' hgrow hnil hrow
  have hb2 : w2.heap[b]? = some (.cells #[.pointer (some ⟨b, 0, none⟩), v] (ρ.t 72) (0, 0)) := by
    rw [hgrow.block b hlt (fun e => hne e.symm)]
    exact hbk
  have d0 : w2.cell? ⟨b, 0, none⟩ = some (.pointer (some ⟨b, 0, none⟩)) := by rw [Lib.cell_of_heap hb2]; rfl
  have d1 : w2.cell? ⟨b, 1, none⟩ = some v := by rw [Lib.cell_of_heap hb2]; rfl
  have f1 : w2.frozen? ⟨b, 1, none⟩ = false := Lib.frozen_of_heap hb2 1
  have hne2 : v'.ownBlock ≠ some b := fun e => by
    rcases hrow b e with h1 | h1
    · exact hne h1
    · omega
  obtain ⟨ao, n', cap, rfl⟩ : ∃ ao n' cap, v' = .slice ao n' cap := by
    rcases hown'.2 with ⟨hv, _⟩ | ⟨g, cap, cur, fz, hv, _⟩
    · exact ⟨_, _, _, hv⟩
    · exact ⟨_, _, _, hv⟩
  go_wp2
  go_ret2
  have hx : xs.length + s.size = (xs ++ Lib.strCells s).length := by rw [List.length_append, Lib.strCells_length]
  refine ⟨rfl, _, _, ⟨.inr rfl, ?_, ?_, hne2, ?_⟩, ?_, fun g hg => ?_⟩
  · simp [World.setCell, Array.getElem?_modify, hb2]
  · rw [hx] at hown'
    exact ownsRowF_same hown' fun g hg => Below.heap_setCell _ _ _ _ (fun e => hne2 (hg.trans (congrArg some e)))
  · by_cases h0 : xs ++ Lib.strCells s = []
    · left
      have h1 : xs = [] ∧ s.size = 0 := by rw [h0, List.length_nil] at hx; exact ⟨(List.append_eq_nil_iff.1 h0).1, by omega⟩
      refine hnil.2 ⟨?_, by simpa using h1.2⟩
      rcases hnone with h2 | h2
      · exact h2
      · exact absurd h1.1 h2
    · exact .inr h0
  · refine (Ch.trans ⟨hc1.os, hc1.tape, hc1.output, hc1.size, fun k hk hf => hc1.blk k hk (by simp at hf ⊢; exact hf.1)⟩ (.trans (.grown hgrow fun g hg => by simp [hg]) (.set _ _ (by simp))))
  · rcases hrow g hg with h1 | h1
    · exact .inl h1
    · exact .inr (by omega)

set_option maxHeartbeats 2000000 in
set_option maxRecDepth 100000 in
theorem bd_string (L : Lays.n169 P ρ) (X : Builder.Extra P ρ) (b : Nat) (p v : Value) (l : List UInt8) (w : World) (h : Bd (ρ.t 72) (ρ.t 5) b p v (Lib.byteCells l) w) :
    Calls P (ρ.f 169) #[.pointer (some ⟨b, 0, none⟩)] w fun e w' => e = .returned (.string ⟨l.toArray⟩) ∧ Bd (ρ.t 72) (ρ.t 5) b p v (Lib.byteCells l) w' ∧ Ch (b :: v.ownBlock.toList) w w' := by
  have mixed := L.mixed
  have t72 := L.t72; have a72 := L.a72; have z72 := L.z72; have v72 := L.v72; have u72 := run_underlying L.t72
  have t70 := L.t70; have a70 := L.a70; have z70 := L.z70; have v70 := L.v70; have u70 := run_underlying L.t70
  have t37 := L.t37; have a37 := L.a37; have z37 := L.z37; have v37 := L.v37; have u37 := run_underlying L.t37
  have t127 := L.t127; have a127 := L.a127; have z127 := L.z127; have v127 := L.v127; have u127 := run_underlying L.t127
  have t3 := L.t3; have a3 := L.a3; have z3 := L.z3; have v3 := L.v3; have u3 := run_underlying L.t3
  have t9 := L.t9; have a9 := L.a9; have z9 := L.z9; have v9 := L.v9; have u9 := run_underlying L.t9
  have t5 := X.t5; have a5 := X.a5; have z5 := X.z5; have v5 := X.v5; have u5 := run_underlying X.t5
  have h0 := h
  obtain ⟨hp, hvar, hown, hne, hnone⟩ := h
  by_cases hl : l = []
  · subst hl
    have hv : v = .slice none 0 0 := hnone.resolve_right (by simp [Lib.byteCells])
    subst hv
    have hUS := Any.unsafeString_none L X
    have c1 : w.drew.cell? ⟨b, 1, none⟩ = some (.slice none 0 0) := by
      have : w.drew.heap[b]? = some (.cells #[p, .slice none 0 0] (ρ.t 72) (0, 0)) := hvar
      rw [Lib.cell_of_heap this]; rfl
    have hSD : (Builtin.unsafeSliceData_ #[(ρ.t 37)] (ρ.t 127) #[.slice none 0 0]).run P w.drew = .ok (.pointer none) w.drew := rfl
    go_enter L.f169, Body.n169_ntmps ρ
    go_wp2
    go_region_o
    all_goals (go_wp2; go_ret; exact ⟨rfl, ⟨hp, hvar, hown, hne, .inl rfl⟩, ⟨rfl, rfl, rfl, Nat.le_refl _, fun _ _ _ => rfl⟩⟩)
  · have hl0 : l.length ≠ 0 := by simpa using hl
    rw [Lib.byteCells_length] at hown
    obtain ⟨g, cap, cur, fz, rfl, hbg, hg, hfz, hnc, hcm, hcs, htake⟩ : ∃ g cap cur fz, v = .slice (some ⟨g, 0, none⟩) l.length cap ∧ 0 ≤ g ∧ w.heap[g]? = some (.cells cur (ρ.t 5) fz) ∧ fz.2 ≤ l.length * 1 ∧ l.length ≤ cap ∧ cap ≤ maxLen ∧ cur.size = cap * 1 ∧ cur.toList.take (l.length * 1) = Lib.byteCells l := by
      rcases hown.2 with ⟨_, hz⟩ | ⟨g, cap, cur, fz, hv, r⟩
      · exact absurd hz hl0
      · exact ⟨g, cap, cur, fz, hv, r⟩
    have c1 : w.drew.cell? ⟨b, 1, none⟩ = some (.slice (some ⟨g, 0, none⟩) l.length cap) := by
      have : w.drew.heap[b]? = some (.cells #[p, .slice (some ⟨g, 0, none⟩) l.length cap] (ρ.t 72) (0, 0)) := hvar
      rw [Lib.cell_of_heap this]; rfl
    have hSD : (Builtin.unsafeSliceData_ #[(ρ.t 37)] (ρ.t 127) #[.slice (some ⟨g, 0, none⟩) l.length cap]).run P w.drew = .ok (.pointer (some ⟨g, 0, none⟩)) w.drew :=
      Lib.run_unsafeSliceData_row _ _ _ _ _ _ (by omega)
    have hUS : (Builtin.unsafeString_ #[(ρ.t 127), (ρ.t 3)] (ρ.t 9) #[.pointer (some ⟨g, 0, none⟩), .int .i64 l.length]).run P w.drew = .ok (.string ⟨l.toArray⟩) (w.drew.freeze ⟨g, 0, none⟩ l.length) := by
      refine Lib.run_unsafeString_row w.drew (ρ.t 127) (ρ.t 3) (ρ.t 9) (ρ.t 5) L.t127 X.cellsByte g cur.size (by have hg' : w.drew.heap[g]? = some (.cells cur (ρ.t 5) fz) := hg; simp [World.shape?, hg']) l hl (by omega) (by unfold maxLen at hcm; omega) ?_
      intro j x hx
      exact hown.cells (g := g) rfl j (.int .u8 x.toNat) (by simp [Lib.byteCells, hx])
    have hkeep : Bd (ρ.t 72) (ρ.t 5) b p (.slice (some ⟨g, 0, none⟩) l.length cap) (Lib.byteCells l) (w.drew.freeze ⟨g, 0, none⟩ l.length) := by
      have hA : Lib.BuilderAtF (ρ.t 72) (ρ.t 5) 0 b p (Lib.byteCells l) w.drew := ⟨Nat.zero_le _, _, hvar, by rw [Lib.byteCells_length]; exact hown, hne⟩
      have hF := hA.froze (g := g) (cap := cap) (by rw [Lib.byteCells_length]; exact c1)
      rw [Lib.byteCells_length] at hF
      obtain ⟨_, v2, k1, k2, k3⟩ := hF
      have e1 : (w.drew.freeze ⟨g, 0, none⟩ l.length).heap[b]? = w.heap[b]? := (Ch.freeze (f := [g]) ⟨g, 0, none⟩ l.length (by simp)).blk b (Array.getElem?_eq_some_iff.1 hvar).1 (by simp; rintro rfl; exact hne rfl)
      rw [hvar, k1] at e1
      simp at e1
      subst e1
      exact ⟨hp, k1, k2, k3, .inr (by simpa [Lib.byteCells] using hl)⟩
    go_enter L.f169, Body.n169_ntmps ρ
    go_wp2
    go_region_o
    all_goals (go_wp2; go_ret; exact ⟨rfl, hkeep, Ch.freeze _ _ (by simp [Value.ownBlock])⟩)
end

theorem Bd.same {T e : TypeId} {b : Nat} {p v : Value} {xs : List Value} {w w' : World} (h : Bd T e b p v xs w) (hs : ∀ k ∈ b :: v.ownBlock.toList, w'.heap[k]? = w.heap[k]?) : Bd T e b p v xs w' :=
  ⟨h.nil, (hs b (by simp)).trans h.var, ownsRowF_same h.own fun g hg => hs g (by simp [hg]), h.ne, h.none⟩
/-- a builder that holds these bytes -/
def obBd (T e : TypeId) (b : Nat) (s : ByteArray) : Ob where
  P f _ w := ∃ p v, f = b :: v.ownBlock.toList ∧ Bd T e b p v (Lib.strCells s) w
  keep h _ hb := by
    obtain ⟨p, v, rfl, h⟩ := h
    exact ⟨p, v, rfl, h.same hb⟩
  lt h k hk := by
    obtain ⟨p, v, rfl, h⟩ := h
    rcases List.mem_cons.1 hk with rfl | hk
    · exact h.lt
    · exact (h.own.lt k (by simpa using hk)).2
section
variable {B : Nat} {A : Nat → Prop} {w w1 : World} {L : List Ob} {O O' : Ob}
/-- the first object changes, and nothing else -/
theorem Hp.chg (h : Hp B A w (O :: L)) (hA : ∀ b, w.heap.size ≤ b → A b) (hB : B ≤ w.heap.size) {f f' : List Nat} (hu : ∀ g, O.P g A w → g = f) (hc : Ch f w w1) (hp : ∀ A1, O'.P f' A1 w1) (hf : ∀ b ∈ f', b ∈ f ∨ w.heap.size ≤ b) :
    ∃ A1 : Nat → Prop, Hp B A1 w1 (O' :: L) ∧ Tr False B A w A1 w1 := by
  obtain ⟨U, ⟨f0, g, rfl, hd, h0, hs⟩, hb⟩ := h
  obtain rfl := hu _ h0
  have hx : Ex A w (fun k => A k ∧ k ∉ f') w1 := ⟨hc.size, fun k hk ha => by
    have hn : k ∉ f0 := fun hk2 => (hb k (List.mem_append_left _ hk2)).2.2 ha
    refine ⟨⟨ha, fun hk3 => ?_⟩, hc.blk k hk hn⟩
    rcases hf k hk3 with h1 | h1
    · exact hn h1
    · omega⟩
  have hg : ∀ k ∈ g, w1.heap[k]? = w.heap[k]? := fun k hk => hc.blk k (hs.lt k hk) fun h2 => hd k h2 hk
  refine ⟨fun k => A k ∧ k ∉ f', ⟨f' ++ g, ⟨f', g, rfl, fun k hk hk2 => ?_, hp _, hs.keep hx hg⟩, fun k hk => ?_⟩, ⟨hx, ⟨hc.os, hc.tape, hc.output, hc.size, fun h => h.elim, fun k hk => hc.blk k (by omega) fun h2 => ?_⟩, fun k hk => .inl hk.1, fun k hk => ⟨hA k (Nat.le_trans hc.size hk), fun h2 => ?_⟩⟩⟩
  · rcases hf k hk with h1 | h1
    · exact hd k h1 hk2
    · have := hs.lt k hk2
      omega
  · rcases List.mem_append.1 hk with h1 | h1
    · refine ⟨?_, O'.lt (hp (fun _ => True)) k h1, fun h2 => h2.2 h1⟩
      rcases hf k h1 with h2 | h2
      · exact (hb k (List.mem_append_left _ h2)).1
      · omega
    · exact ⟨(hb k (List.mem_append_right _ h1)).1, Nat.lt_of_lt_of_le (hs.lt k h1) hc.size, fun h2 => (hb k (List.mem_append_right _ h1)).2.2 h2.1⟩
  · have := (hb k (List.mem_append_left _ h2)).1
    omega
  · have := O'.lt (hp (fun _ => True)) k h2
    omega
/-- a new variable of the type is a builder without bytes -/
theorem Hp.bdOf {b : Nat} {T e : TypeId} (h : Hp B A w (obC b [.pointer none, .slice none 0 0] T :: L)) : Hp B A w (obBd T e b ByteArray.empty :: L) := by
  obtain ⟨U, ⟨f, g, rfl, hd, ⟨rfl, h0⟩, hs⟩, hb⟩ := h
  exact ⟨_, ⟨[b], g, rfl, hd, ⟨.pointer none, .slice none 0 0, rfl, ⟨.inl rfl, h0, World.ownsRowF_nil _ _ _ _, by simp [Value.ownBlock], .inl rfl⟩⟩, hs⟩, hb⟩
end

section
variable {P : Program} {ρ : Ren} {B : Nat} {A : Nat → Prop} {w : World} {L : List Ob} {b : Nat} {s : ByteArray}
theorem strCells_cat (s t : ByteArray) : Lib.strCells s ++ Lib.strCells t = Lib.strCells (s ++ t) := by
  simp [Lib.strCells, ByteArray.data_append]
theorem bd_open (h : Hp B A w (obBd (ρ.t 72) (ρ.t 5) b s :: L)) : ∃ p v, Bd (ρ.t 72) (ρ.t 5) b p v (Lib.strCells s) w ∧ ∀ g, (obBd (ρ.t 72) (ρ.t 5) b s).P g A w → g = b :: v.ownBlock.toList := by
  obtain ⟨U, ⟨f, g, rfl, hd, ⟨p, v, rfl, h0⟩, hs⟩, hb⟩ := h
  refine ⟨p, v, h0, ?_⟩
  rintro g' ⟨p', v', rfl, h1⟩
  have := h0.var.symm.trans h1.var
  simp at this
  rw [this.2]
theorem Hp.bdWrite {fid : FuncId} (t : ByteArray) (hcall : ∀ (p v : Value) (xs : List Value), Bd (ρ.t 72) (ρ.t 5) b p v xs w → xs.length + t.size ≤ 140737488355328 → Calls P fid #[.pointer (some ⟨b, 0, none⟩), .string t] w fun e w' => e = .returned (.tuple #[.int .i64 t.size, .nilIface]) ∧ ∃ p' v', Bd (ρ.t 72) (ρ.t 5) b p' v' (xs ++ Lib.strCells t) w' ∧ Ch (b :: v.ownBlock.toList) w w' ∧ ∀ g, v'.ownBlock = some g → v.ownBlock = some g ∨ w.heap.size ≤ g)
    (hB : B ≤ w.heap.size) (hA : ∀ b, w.heap.size ≤ b → A b) (hH : Hp B A w (obBd (ρ.t 72) (ρ.t 5) b s :: L)) (hs : s.size + t.size ≤ 140737488355328) :
    Ret P fid #[.pointer (some ⟨b, 0, none⟩), .string t] w fun v w' => ∃ A1 : Nat → Prop, v = .tuple #[.int .i64 t.size, .nilIface] ∧ Hp B A1 w' (obBd (ρ.t 72) (ρ.t 5) b (s ++ t) :: L) ∧ Tr False B A w A1 w' := by
  obtain ⟨p, v, h0, hu⟩ := bd_open hH
  refine (hcall p v _ h0 (by rw [Lib.strCells_length]; exact hs)).mono ?_
  rintro _ w' ⟨rfl, p', v', h1, hc, hr⟩
  obtain ⟨A1, h2, h3⟩ := hH.chg hA hB (O' := obBd (ρ.t 72) (ρ.t 5) b (s ++ t)) (f' := b :: v'.ownBlock.toList) hu hc (fun _ => ⟨p', v', rfl, by rw [strCells_cat] at h1; exact h1⟩) (fun k hk => by
    rcases List.mem_cons.1 hk with rfl | hk
    · exact .inl (by simp)
    · rcases hr k (by simpa using hk) with h | h
      · exact .inl (by simp [h])
      · exact .inr h)
  exact ⟨_, rfl, A1, rfl, h2, h3⟩
theorem Hp.bdString {fid : FuncId} (hcall : ∀ (p v : Value) (l : List UInt8), Bd (ρ.t 72) (ρ.t 5) b p v (Lib.byteCells l) w → Calls P fid #[.pointer (some ⟨b, 0, none⟩)] w fun e w' => e = .returned (.string ⟨l.toArray⟩) ∧ Bd (ρ.t 72) (ρ.t 5) b p v (Lib.byteCells l) w' ∧ Ch (b :: v.ownBlock.toList) w w')
    (hB : B ≤ w.heap.size) (hA : ∀ b, w.heap.size ≤ b → A b) (hH : Hp B A w (obBd (ρ.t 72) (ρ.t 5) b s :: L)) :
    Ret P fid #[.pointer (some ⟨b, 0, none⟩)] w fun v w' => ∃ A1 : Nat → Prop, v = .string s ∧ Hp B A1 w' (obBd (ρ.t 72) (ρ.t 5) b s :: L) ∧ Tr False B A w A1 w' := by
  obtain ⟨p, v, h0, hu⟩ := bd_open hH
  refine (hcall p v s.data.toList (by rw [← Lib.strCells_eq]; exact h0)).mono ?_
  rintro _ w' ⟨rfl, h1, hc⟩
  obtain ⟨A1, h2, h3⟩ := hH.chg hA hB (O' := obBd (ρ.t 72) (ρ.t 5) b s) (f' := b :: v.ownBlock.toList) hu hc (fun _ => ⟨p, v, rfl, by rw [Lib.strCells_eq]; exact h1⟩) (fun k hk => .inl hk)
  exact ⟨_, rfl, A1, by simp, h2, h3⟩
end
end Go.Gw
