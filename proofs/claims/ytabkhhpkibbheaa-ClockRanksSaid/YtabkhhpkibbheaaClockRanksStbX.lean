import Derived.Test.YtabkhhpkibbheaaClockRanksM
import Derived.Test.YtabkhhpkibbheaaPl
namespace Go.Proofs.Ytabkhhpkibbheaa.M
open Go Go.Pu
set_option linter.unusedSimpArgs false
set_option linter.unusedVariables false
theorem sb_whileB {S R : Type} (body : S → Option (Ctl S R)) (s : S) : whileB body s = Option.bind (body s) fun x => match x with
    | .nx s' => whileB body s'
    | .bk s' => some (.fin s')
    | .rt r => some (.rt r) := by
  ext r
  rw [whileB_iff]
  constructor
  · rintro ⟨n, hn⟩
    cases n with
    | zero => cases hn
    | succ n =>
      rw [whileN] at hn
      rcases hb : body s with _ | (s' | s' | q)
      · rw [hb] at hn; cases hn
      · rw [hb] at hn
        exact (whileB_iff (body := body)).2 ⟨n, hn⟩
      · rw [hb] at hn; exact hn
      · rw [hb] at hn; exact hn
  · intro h
    rcases hb : body s with _ | (s' | s' | q)
    · rw [hb] at h; cases h
    · rw [hb] at h
      obtain ⟨n, hn⟩ := (whileB_iff (body := body)).1 h
      exact ⟨n + 1, by rw [whileN, hb]; exact hn⟩
    · rw [hb] at h; exact ⟨1, by rw [whileN, hb]; exact h⟩
    · rw [hb] at h; exact ⟨1, by rw [whileN, hb]; exact h⟩
theorem at_idx {α : Type} (L R : List α) (x : α) {i : Int} (hi : i = (L.length : Int)) : idx (L ++ x :: R) i = some x := by
  rw [hi, idx_nat, List.getElem?_append_right (Nat.le_refl _), Nat.sub_self]
  rfl
theorem at_set {α : Type} (L R : List α) (x y : α) {i : Int} (hi : i = (L.length : Int)) : setI (L ++ x :: R) i y = some (L ++ y :: R) := by
  unfold setI
  rw [hi, if_pos (by simp), Int.toNat_natCast, List.set_append_right _ _ (Nat.le_refl _), Nat.sub_self]
  rfl
theorem sb_mid {s : Int} (h0 : 0 ≤ s) (h1 : s ≤ 1000000) : shr .u64 (IntKind.wrap .u64 (w64 s)) 1 = some (s / 2) ∧ IntKind.wrap .i64 (s / 2) = s / 2 := by
  have e1 : w64 s = s := w64_id (by omega) (by omega)
  have e2 : IntKind.wrap .u64 s = s := by
    simp only [IntKind.wrap, IntKind.bits, IntKind.signed]
    simp
    omega
  refine ⟨?_, w64_id (by omega) (by omega)⟩
  rw [e1, e2, shr, if_neg (by decide)]
  have : s.fdiv 2 = s / 2 := Int.fdiv_eq_ediv_of_nonneg _ (by decide)
  exact congrArg some this
theorem swap_val (cmp : Int × Int → Option Int) (P A B C Q : List Int) (hAC : A.length = C.length) {a b n : Int} (ha : a = (P.length : Int)) (hb : b = ((P.length + A.length + B.length : Nat) : Int)) (hn : n = (A.length : Int)) (hl : P.length + A.length + B.length + C.length ≤ 1000000) :
    slices_swapRangeCmpFunc_int (P ++ A ++ B ++ C ++ Q) a b n cmp = some (P ++ C ++ B ++ A ++ Q) := by
  have key : ∀ (A2 C2 A1 C1 : List Int), A2.length = C2.length → A1.length = C1.length → A1.length + A2.length = A.length →
      whileB (R := List Int) (fun s10 => if (decide (s10.1 < n)) = true then Option.bind (idx s10.2 (w64 (b + s10.1))) fun x25 => Option.bind (idx s10.2 (w64 (a + s10.1))) fun x30 => Option.bind (setI s10.2 (w64 (a + s10.1)) x25) fun x39 => Option.bind (idx x39 (w64 (b + s10.1))) fun x43 => Option.bind (setI x39 (w64 (b + s10.1)) x30) fun x48 => some (.nx (w64 (s10.1 + 1), x48)) else some (.bk (s10.1, s10.2)))
        ((A1.length : Int), P ++ C1 ++ A2 ++ B ++ A1 ++ C2 ++ Q) = some (.fin (n, P ++ C1 ++ C2 ++ B ++ A1 ++ A2 ++ Q)) := by
    intro A2
    induction A2 with
    | nil =>
      intro C2 A1 C1 h1 h2 h3
      obtain rfl : C2 = [] := List.eq_nil_of_length_eq_zero (by simpa using h1.symm)
      have e : n = (A1.length : Int) := by simp at h3; omega
      rw [sb_whileB, if_neg (by simp; omega), e]
      rfl
    | cons x A2 ih =>
      intro C2 A1 C1 h1 h2 h3
      obtain ⟨y, C2, rfl⟩ : ∃ y C', C2 = y :: C' := by
        cases C2 with
        | nil => simp at h1
        | cons y C' => exact ⟨y, C', rfl⟩
      simp at h1 h3
      rw [sb_whileB, if_pos (decide_eq_true (by show (A1.length : Int) < n; omega))]
      have wb : w64 (b + (A1.length : Int)) = ((P ++ C1 ++ x :: A2 ++ B ++ A1).length : Int) := by
        rw [w64_id (by omega) (by omega)]
        simp
        omega
      have wb' : w64 (b + (A1.length : Int)) = ((P ++ C1 ++ y :: A2 ++ B ++ A1).length : Int) := by
        rw [wb]
        simp
      have wa : w64 (a + (A1.length : Int)) = ((P ++ C1).length : Int) := by
        rw [w64_id (by omega) (by omega)]
        simp
        omega
      have e1 : P ++ C1 ++ x :: A2 ++ B ++ A1 ++ y :: C2 ++ Q = (P ++ C1 ++ x :: A2 ++ B ++ A1) ++ y :: (C2 ++ Q) := by simp
      have e2 : P ++ C1 ++ x :: A2 ++ B ++ A1 ++ y :: C2 ++ Q = (P ++ C1) ++ x :: (A2 ++ B ++ A1 ++ y :: C2 ++ Q) := by simp
      have e3 : (P ++ C1) ++ y :: (A2 ++ B ++ A1 ++ y :: C2 ++ Q) = (P ++ C1 ++ y :: A2 ++ B ++ A1) ++ y :: (C2 ++ Q) := by simp
      have i1 : idx (P ++ C1 ++ x :: A2 ++ B ++ A1 ++ y :: C2 ++ Q) (w64 (b + (A1.length : Int))) = some y := by rw [e1]; exact at_idx _ _ _ wb
      have i2 : idx (P ++ C1 ++ x :: A2 ++ B ++ A1 ++ y :: C2 ++ Q) (w64 (a + (A1.length : Int))) = some x := by rw [e2]; exact at_idx _ _ _ wa
      have s1 : setI (P ++ C1 ++ x :: A2 ++ B ++ A1 ++ y :: C2 ++ Q) (w64 (a + (A1.length : Int))) y = some ((P ++ C1 ++ y :: A2 ++ B ++ A1) ++ y :: (C2 ++ Q)) := by rw [e2, at_set _ _ _ _ wa, e3]
      have i3 : idx ((P ++ C1 ++ y :: A2 ++ B ++ A1) ++ y :: (C2 ++ Q)) (w64 (b + (A1.length : Int))) = some y := at_idx _ _ _ wb'
      have s2 : setI ((P ++ C1 ++ y :: A2 ++ B ++ A1) ++ y :: (C2 ++ Q)) (w64 (b + (A1.length : Int))) x = some ((P ++ C1 ++ y :: A2 ++ B ++ A1) ++ x :: (C2 ++ Q)) := at_set _ _ _ _ wb'
      simp only [i1, i2, s1, i3, s2, Option.bind_some]
      have e4 : (P ++ C1 ++ y :: A2 ++ B ++ A1) ++ x :: (C2 ++ Q) = P ++ (C1 ++ [y]) ++ A2 ++ B ++ (A1 ++ [x]) ++ C2 ++ Q := by simp
      have e5 : w64 ((A1.length : Int) + 1) = ((A1 ++ [x]).length : Int) := by
        rw [w64_id (by omega) (by omega)]
        simp
      rw [e4, e5, ih C2 (A1 ++ [x]) (C1 ++ [y]) (by omega) (by simp [h2]) (by simp; omega)]
      simp
  unfold slices_swapRangeCmpFunc_int
  have h := key A C [] [] hAC rfl (by simp)
  simp only [List.length_nil, List.append_nil] at h
  have h' : ((0 : Nat) : Int) = 0 := rfl
  rw [h'] at h
  rw [h]
  rfl
theorem rotate_val (cmp : Int × Int → Option Int) (Q0 : List Int) : ∀ (N : Nat) (P U V Q : List Int), U.length + V.length ≤ N → 0 < U.length → 0 < V.length → ∀ {a m b : Int}, P.length + U.length + V.length + Q.length ≤ 1000000 → m = ((P.length + U.length : Nat) : Int) →
    (Option.bind (whileB (R := List Int) (fun s10 => if (s10.1 != s10.2.1) = true then Option.bind (Option.bind (if (decide (s10.2.1 < s10.1)) = true then Option.bind (slices_swapRangeCmpFunc_int s10.2.2 (w64 (m - s10.1)) m s10.2.1 cmp) fun x39 => some (w64 (s10.1 - s10.2.1), s10.2.1, x39) else Option.bind (slices_swapRangeCmpFunc_int s10.2.2 (w64 (m - s10.1)) (w64 ((w64 (m + s10.2.1)) - s10.1)) s10.1 cmp) fun x45 => some (s10.1, w64 (s10.2.1 - s10.1), x45)) fun s31 => some (s31.1, s31.2.1, s31.2.2)) fun s23 => some (.nx (s23.1, s23.2.1, s23.2.2)) else some (.bk (s10.1, s10.2.1, s10.2.2))) ((U.length : Int), (V.length : Int), P ++ U ++ V ++ Q)) fun o1 => o1.andThen (fun y => some y) fun s2 =>
      Option.bind (slices_swapRangeCmpFunc_int s2.2.2 (w64 (m - s2.1)) m s2.1 cmp) fun x55 => some x55) = some (P ++ V ++ U ++ Q) := by
  intro N
  induction N with
  | zero => intro P U V Q h h1; omega
  | succ N ih =>
    intro P U V Q hN hU hV a m b hl hm
    rw [sb_whileB]
    rcases Nat.lt_trichotomy U.length V.length with h | h | h
    · -- the left one is shorter
      obtain ⟨V1, V2, rfl, hV2⟩ : ∃ V1 V2, V = V1 ++ V2 ∧ V2.length = U.length := ⟨V.take (V.length - U.length), V.drop (V.length - U.length), (List.take_append_drop _ _).symm, by rw [List.length_drop]; omega⟩
      simp at h hN hl
      rw [if_pos (by simp; omega), if_neg (by simp; omega)]
      have e0 : P ++ U ++ (V1 ++ V2) ++ Q = P ++ U ++ V1 ++ V2 ++ Q := by simp
      have w1 : w64 (m - (U.length : Int)) = (P.length : Int) := by rw [w64_id (by omega) (by omega)]; omega
      have w2 : w64 (w64 (m + ((V1 ++ V2).length : Int)) - (U.length : Int)) = ((P.length + U.length + V1.length : Nat) : Int) := by
        rw [w64_id (n := m + _) (by simp; omega) (by simp; omega), w64_id (by simp; omega) (by simp; omega)]
        simp
        omega
      have w3 : w64 (((V1 ++ V2).length : Int) - (U.length : Int)) = (V1.length : Int) := by rw [w64_id (by simp; omega) (by simp; omega)]; simp; omega
      simp only [e0, w1, w2, w3]
      rw [swap_val cmp P U V1 V2 Q hV2.symm rfl rfl rfl (by omega)]
      simp only [Option.bind_some]
      have e1 : P ++ V2 ++ V1 ++ U ++ Q = P ++ V2 ++ V1 ++ (U ++ Q) := by simp
      have hz := ih P V2 V1 (U ++ Q) (by omega) (by omega) (by omega) (a := a) (m := m) (b := b) (by simp; omega) (by rw [hV2]; exact hm)
      rw [hV2] at hz
      rw [e1, hz]
      simp
    · rw [if_neg (by simp; omega)]
      have w1 : w64 (m - (U.length : Int)) = (P.length : Int) := by rw [w64_id (by omega) (by omega)]; omega
      simp only [Option.bind_some, Lp.andThen_fin, w1]
      have e0 : P ++ U ++ V ++ Q = P ++ U ++ [] ++ V ++ Q := by simp
      rw [e0, swap_val cmp P U [] V Q h rfl (by simp; exact hm) rfl (by simp; omega)]
      simp
    · -- the right one is shorter
      obtain ⟨U1, U2, rfl, hU1⟩ : ∃ U1 U2, U = U1 ++ U2 ∧ U1.length = V.length := ⟨U.take V.length, U.drop V.length, (List.take_append_drop _ _).symm, by rw [List.length_take]; omega⟩
      simp at h hN hl hm
      rw [if_pos (by simp; omega), if_pos (by simp; omega)]
      have e0 : P ++ (U1 ++ U2) ++ V ++ Q = P ++ U1 ++ U2 ++ V ++ Q := by simp
      have w1 : w64 (m - ((U1 ++ U2).length : Int)) = (P.length : Int) := by rw [w64_id (by simp; omega) (by simp; omega)]; simp; omega
      have w3 : w64 (((U1 ++ U2).length : Int) - (V.length : Int)) = (U2.length : Int) := by rw [w64_id (by simp; omega) (by simp; omega)]; simp; omega
      simp only [e0, w1, w3]
      rw [swap_val cmp P U1 U2 V Q hU1 rfl (by omega) (by omega) (by omega)]
      simp only [Option.bind_some]
      have e1 : P ++ V ++ U2 ++ U1 ++ Q = (P ++ V) ++ U2 ++ U1 ++ Q := by simp
      have hz := ih (P ++ V) U2 U1 Q (by omega) (by omega) (by omega) (a := a) (m := m) (b := b) (by simp; omega) (by simp; omega)
      rw [hU1] at hz
      rw [e1, hz]
      simp
end Go.Proofs.Ytabkhhpkibbheaa.M
namespace Go.Proofs.Ytabkhhpkibbheaa.M
open Go Go.Pu
set_option linter.unusedSimpArgs false
set_option linter.unusedVariables false
structure Wk (D : Int → Prop) (c : Int → Int → Int) (cmp : Int × Int → Option Int) : Prop where
  val : ∀ x y, D x → D y → cmp (x, y) = some (c x y)
  irr : ∀ x, D x → ¬ c x x < 0
  trans : ∀ x y z, D x → D y → D z → c x y < 0 → c y z < 0 → c x z < 0
  ntrans : ∀ x y z, D x → D y → D z → ¬ c x y < 0 → ¬ c y z < 0 → ¬ c x z < 0
def S2 (c : Int → Int → Int) (x y : Int) : Prop := c x y < 0 ∨ (¬ c y x < 0 ∧ x < y)
theorem S2.trans {D : Int → Prop} {c : Int → Int → Int} {cmp : Int × Int → Option Int} (hw : Wk D c cmp) {x y z : Int} (hx : D x) (hy : D y) (hz : D z) (h1 : S2 c x y) (h2 : S2 c y z) : S2 c x z := by
  rcases h1 with h1 | ⟨h1, h1'⟩
  · rcases h2 with h2 | ⟨h2, h2'⟩
    · exact .inl (hw.trans x y z hx hy hz h1 h2)
    · refine .inl (Decidable.byContradiction fun h => ?_)
      exact hw.ntrans x z y hx hz hy h h2 h1
  · rcases h2 with h2 | ⟨h2, h2'⟩
    · refine .inl (Decidable.byContradiction fun h => ?_)
      exact hw.ntrans y x z hy hx hz h1 h h2
    · exact .inr ⟨hw.ntrans z y x hz hy hx h2 h1, by omega⟩
theorem srt_ins {D : Int → Prop} {c : Int → Int → Int} {cmp : Int × Int → Option Int} (hw : Wk D c cmp) {L1 L2 : List Int} {x : Int} (hs : (L1 ++ L2).Pairwise (S2 c)) (hD : ∀ y ∈ L1 ++ L2, D y) (hx : D x) (hlt : ∀ y ∈ L1 ++ L2, y < x)
    (h2 : ∀ y ∈ L2, c x y < 0) (h1 : ∀ L0 y, L1 = L0 ++ [y] → ¬ c x y < 0) : (L1 ++ x :: L2).Pairwise (S2 c) := by
  obtain ⟨p1, p2, p3⟩ := List.pairwise_append.1 hs
  refine List.pairwise_append.2 ⟨p1, List.pairwise_cons.2 ⟨fun y hy => .inl (h2 y hy), p2⟩, fun u hu v hv => ?_⟩
  rcases List.mem_cons.1 hv with rfl | hv
  · rcases List.eq_nil_or_concat L1 with rfl | ⟨L0, z, e⟩
    · cases hu
    · rw [List.concat_eq_append] at e
      subst e
      have hz : S2 c z v := .inr ⟨h1 L0 z rfl, hlt z (by simp)⟩
      rcases List.mem_append.1 hu with hu | hu
      · exact S2.trans hw (hD u (by simp [hu])) (hD z (by simp)) hx ((List.pairwise_append.1 p1).2.2 u hu z (by simp)) hz
      · rw [List.mem_singleton] at hu
        subst hu
        exact hz
  · exact p3 u hu v hv
theorem ins_val {D : Int → Prop} {c : Int → Int → Int} {cmp : Int × Int → Option Int} (hw : Wk D c cmp) (P Q : List Int) {a : Int} (ha : a = (P.length : Int)) (x : Int) (hx : D x) : ∀ (N : Nat) (L R : List Int), L.length = N → (∀ y ∈ L, D y) → P.length + L.length ≤ 1000000 →
    ∃ L1 L2, L = L1 ++ L2 ∧ whileB (R := Empty) (fun s39 => Option.bind (if (decide (a < s39.1)) = true then (Option.bind (idx s39.2 s39.1) fun x59 => Option.bind (idx s39.2 (w64 (s39.1 - 1))) fun x64 => Option.bind (cmp (x59, x64)) fun x72 => some (decide (x72 < 0))) else (some false)) fun s51 => if s51 = true then Option.bind (idx s39.2 (w64 (s39.1 - 1))) fun x86 => Option.bind (idx s39.2 s39.1) fun x91 => Option.bind (setI s39.2 s39.1 x86) fun x100 => Option.bind (idx x100 (w64 (s39.1 - 1))) fun x104 => Option.bind (setI x100 (w64 (s39.1 - 1)) x91) fun x109 => some (.nx (w64 (s39.1 - 1), x109)) else some (.bk (s39.1, s39.2)))
        (((P.length + L.length : Nat) : Int), P ++ L ++ x :: (R ++ Q)) = some (.fin (((P.length + L1.length : Nat) : Int), P ++ L1 ++ x :: (L2 ++ R ++ Q))) ∧ (∀ y ∈ L2, c x y < 0) ∧ (∀ L0 y, L1 = L0 ++ [y] → ¬ c x y < 0) := by
  intro N
  induction N with
  | zero =>
    intro L R hN hD hl
    obtain rfl : L = [] := List.eq_nil_of_length_eq_zero hN
    refine ⟨[], [], rfl, ?_, fun y hy => (by cases hy), fun L0 y e => (by simp at e)⟩
    rw [sb_whileB, if_neg (by simp; omega)]
    simp
  | succ N ih =>
    intro L R hN hD hl
    rcases List.eq_nil_or_concat L with rfl | ⟨L0, y, e⟩
    · cases hN
    · rw [List.concat_eq_append] at e
      subst e
      simp at hN hl
      have hy : D y := hD y (by simp)
      have i0 : P ++ (L0 ++ [y]) ++ x :: (R ++ Q) = (P ++ (L0 ++ [y])) ++ x :: (R ++ Q) := rfl
      have i1 : P ++ (L0 ++ [y]) ++ x :: (R ++ Q) = (P ++ L0) ++ y :: (x :: (R ++ Q)) := by simp
      have wj : w64 (((P.length + (L0 ++ [y]).length : Nat) : Int) - 1) = ((P.length + L0.length : Nat) : Int) := by
        rw [w64_id (by simp; omega) (by simp; omega)]
        simp
        omega
      have a1 : idx (P ++ (L0 ++ [y]) ++ x :: (R ++ Q)) ((P.length + (L0 ++ [y]).length : Nat) : Int) = some x := at_idx _ _ _ (by simp)
      have a2 : idx (P ++ (L0 ++ [y]) ++ x :: (R ++ Q)) ((P.length + L0.length : Nat) : Int) = some y := by rw [i1]; exact at_idx _ _ _ (by simp)
      have s1 : setI (P ++ (L0 ++ [y]) ++ x :: (R ++ Q)) ((P.length + (L0 ++ [y]).length : Nat) : Int) y = some ((P ++ L0) ++ y :: (y :: (R ++ Q))) := by
        rw [at_set _ _ _ _ (by simp)]
        simp
      have a3 : idx ((P ++ L0) ++ y :: (y :: (R ++ Q))) ((P.length + L0.length : Nat) : Int) = some y := at_idx _ _ _ (by simp)
      have s2 : setI ((P ++ L0) ++ y :: (y :: (R ++ Q))) ((P.length + L0.length : Nat) : Int) x = some ((P ++ L0) ++ x :: (y :: (R ++ Q))) := at_set _ _ _ _ (by simp)
      rw [sb_whileB, if_pos (by simp; omega)]
      simp only [wj, a1, a2, Option.bind_some, hw.val x y hx hy]
      by_cases hc : c x y < 0
      · simp only [hc, decide_true, if_true, s1, a3, s2, Option.bind_some]
        obtain ⟨L1, L2, e1, e2, e3, e4⟩ := ih L0 (y :: R) (by omega) (fun z hz => hD z (by simp [hz])) (by omega)
        refine ⟨L1, L2 ++ [y], by rw [e1]; simp, ?_, fun z hz => ?_, e4⟩
        · have e5 : (P ++ L0) ++ x :: (y :: (R ++ Q)) = P ++ L0 ++ x :: (y :: R ++ Q) := by simp
          rw [e5, e2]
          simp
        · rcases List.mem_append.1 hz with hz | hz
          · exact e3 z hz
          · rw [List.mem_singleton] at hz
            subst hz
            exact hc
      · refine ⟨L0 ++ [y], [], by simp, ?_, fun z hz => (by cases hz), fun L0' z e => ?_⟩
        · simp only [hc, decide_false, Bool.false_eq_true, if_false]
          simp
        · obtain ⟨_, e⟩ := List.append_inj' e rfl
          simp at e
          subst e
          exact hc
theorem insertion_val {D : Int → Prop} {c : Int → Int → Int} {cmp : Int × Int → Option Int} (hw : Wk D c cmp) (P S Q : List Int) {a b : Int} (ha : a = (P.length : Int)) (hb : b = ((P.length + S.length : Nat) : Int)) (hD : ∀ x ∈ S, D x) (hS : S.Pairwise (· < ·)) (hl : P.length + S.length ≤ 1000000) :
    ∃ S', slices_insertionSortCmpFunc_int (P ++ S ++ Q) a b cmp = some (P ++ S' ++ Q) ∧ S'.Perm S ∧ S'.Pairwise (S2 c) := by
  have outer : ∀ (R L : List Int), L.length + R.length = S.length → L.Pairwise (S2 c) → (∀ y ∈ L, D y) → (∀ y ∈ R, D y) → R.Pairwise (· < ·) → (∀ y ∈ L, ∀ x ∈ R, y < x) → 
      ∃ L', whileB (R := List Int) (fun s10 => if (decide (s10.1 < b)) = true then Option.bind (Option.bind (whileB (R := Empty) (fun s39 => Option.bind (if (decide (a < s39.1)) = true then (Option.bind (idx s39.2 s39.1) fun x59 => Option.bind (idx s39.2 (w64 (s39.1 - 1))) fun x64 => Option.bind (cmp (x59, x64)) fun x72 => some (decide (x72 < 0))) else (some false)) fun s51 => if s51 = true then Option.bind (idx s39.2 (w64 (s39.1 - 1))) fun x86 => Option.bind (idx s39.2 s39.1) fun x91 => Option.bind (setI s39.2 s39.1 x86) fun x100 => Option.bind (idx x100 (w64 (s39.1 - 1))) fun x104 => Option.bind (setI x100 (w64 (s39.1 - 1)) x91) fun x109 => some (.nx (w64 (s39.1 - 1), x109)) else some (.bk (s39.1, s39.2))) (s10.1, s10.2)) fun o30 => o30.andThen (fun y => y.elim) fun s31 => some s31.2) fun s23 => some (.nx (w64 (s10.1 + 1), s23)) else some (.bk (s10.1, s10.2))) (((P.length + L.length : Nat) : Int), P ++ L ++ R ++ Q) = some (.fin (b, P ++ L' ++ Q)) ∧ L'.Perm (L ++ R) ∧ L'.Pairwise (S2 c) := by
    intro R
    induction R with
    | nil =>
      intro L h1 h2 _ _ _ _
      simp at h1
      refine ⟨L, ?_, by simp, h2⟩
      rw [sb_whileB, if_neg (by simp; omega)]
      simp
      omega
    | cons x R ih =>
      intro L h1 h2 h3 h4 h5 h6
      simp at h1
      rw [sb_whileB, if_pos (by simp; omega)]
      obtain ⟨L1, L2, e1, e2, e3, e4⟩ := ins_val hw P Q ha x (h4 x (by simp)) L.length L R rfl h3 (by omega)
      have e0 : P ++ L ++ x :: R ++ Q = P ++ L ++ x :: (R ++ Q) := by simp
      simp only [e0, e2, Option.bind_some, Lp.andThen_fin]
      subst e1
      have hsrt := srt_ins hw h2 h3 (h4 x (by simp)) (fun y hy => h6 y hy x (by simp)) e3 e4
      have e5 : P ++ L1 ++ x :: (L2 ++ R ++ Q) = P ++ (L1 ++ x :: L2) ++ R ++ Q := by simp
      have e6 : w64 (((P.length + (L1 ++ L2).length : Nat) : Int) + 1) = ((P.length + (L1 ++ x :: L2).length : Nat) : Int) := by
        rw [w64_id (by simp; omega) (by simp; simp at h1; omega)]
        simp
        omega
      obtain ⟨L', f1, f2, f3⟩ := ih (L1 ++ x :: L2) (by simp at h1 ⊢; omega) hsrt (fun y hy => by
          rcases List.mem_append.1 hy with hy | hy
          · exact h3 y (by simp [hy])
          · rcases List.mem_cons.1 hy with rfl | hy
            · exact h4 y (by simp)
            · exact h3 y (by simp [hy])) (fun y hy => h4 y (by simp [hy])) (List.pairwise_cons.1 h5).2 (fun y hy z hz => by
          have hz' : z ∈ x :: R := List.mem_cons_of_mem _ hz
          rcases List.mem_append.1 hy with hy | hy
          · exact h6 y (by simp [hy]) z hz'
          · rcases List.mem_cons.1 hy with rfl | hy
            · exact (List.pairwise_cons.1 h5).1 z hz
            · exact h6 y (by simp [hy]) z hz')
      refine ⟨L', ?_, ?_, f3⟩
      · rw [e5, e6, f1]
      · refine f2.trans ?_
        simp only [List.append_assoc, List.cons_append]
        exact List.Perm.append_left _ List.perm_middle.symm
  unfold slices_insertionSortCmpFunc_int
  cases S with
  | nil =>
    refine ⟨[], ?_, .refl _, List.Pairwise.nil⟩
    have e : w64 (a + 1) = a + 1 := w64_id (by omega) (by simp at hl; omega)
    rw [e, sb_whileB, if_neg (by simp; simp at hb; omega)]
    rfl
  | cons x S =>
    obtain ⟨L', f1, f2, f3⟩ := outer S [x] (by simp; omega) (List.pairwise_singleton _ _) (fun y hy => hD y (by simp at hy; simp [hy])) (fun y hy => hD y (by simp [hy])) (List.pairwise_cons.1 hS).2 (fun y hy z hz => by
      simp at hy
      subst hy
      exact (List.pairwise_cons.1 hS).1 z hz)
    refine ⟨L', ?_, by simpa using f2, f3⟩
    have e : w64 (a + 1) = ((P.length + [x].length : Nat) : Int) := by
      rw [w64_id (by omega) (by simp at hl; omega)]
      simp
      omega
    have e2 : P ++ x :: S ++ Q = P ++ [x] ++ S ++ Q := by simp
    rw [e, e2, f1]
    rfl
end Go.Proofs.Ytabkhhpkibbheaa.M
namespace Go.Proofs.Ytabkhhpkibbheaa.M
open Go Go.Pu
set_option linter.unusedSimpArgs false
set_option linter.unusedVariables false
theorem bs_val {R : Type} (body : Int × Int → Option (Ctl (Int × Int) R)) (q : Int → Bool) (lo hi : Int) (hlh : lo ≤ hi) (hstep : ∀ i j, lo ≤ i → i < j → j ≤ hi → body (i, j) = some (.nx (if q ((i + j) / 2) = true then ((i + j) / 2 + 1, j) else (i, (i + j) / 2))))
    (hend : ∀ i, body (i, i) = some (.bk (i, i))) (mono : ∀ x y, lo ≤ x → x < y → y < hi → q y = true → q x = true) : ∃ k, lo ≤ k ∧ k ≤ hi ∧ whileB body (lo, hi) = some (.fin (k, k)) ∧ (∀ x, lo ≤ x → x < k → q x = true) ∧ (∀ x, k ≤ x → x < hi → q x = false) := by
  obtain ⟨r, h1, k, rfl, h2⟩ := whileB_spec (body := body) (fun s => lo ≤ s.1 ∧ s.1 ≤ s.2 ∧ s.2 ≤ hi ∧ (∀ x, lo ≤ x → x < s.1 → q x = true) ∧ (∀ x, s.2 ≤ x → x < hi → q x = false)) (fun s => (s.2 - s.1).toNat)
    (fun r => ∃ k, r = .fin (k, k) ∧ lo ≤ k ∧ k ≤ hi ∧ (∀ x, lo ≤ x → x < k → q x = true) ∧ (∀ x, k ≤ x → x < hi → q x = false)) (s := (lo, hi)) ⟨Int.le_refl _, hlh, Int.le_refl _, fun x h1 h2 => by simp at h2; omega, fun x h1 h2 => by simp at h1; omega⟩ (by
    rintro ⟨i, j⟩ ⟨i1, i2, i3, i4, i5⟩
    simp only at i1 i2 i3 i4 i5
    by_cases hij : i = j
    · subst hij
      exact ⟨_, hend i, i, rfl, i1, i3, i4, i5⟩
    · refine ⟨_, hstep i j i1 (by omega) i3, ?_⟩
      by_cases hq : q ((i + j) / 2) = true
      · simp only [hq, if_true]
        refine ⟨⟨by omega, by omega, i3, fun x h1 h2 => ?_, i5⟩, by omega⟩
        by_cases hx : x = (i + j) / 2
        · rw [hx]; exact hq
        · exact mono x _ h1 (by omega) (by omega) hq
      · simp only [hq, if_false, Bool.false_eq_true]
        refine ⟨⟨i1, by omega, by omega, i4, fun x h1 h2 => ?_⟩, by omega⟩
        cases hqx : q x with
        | false => rfl
        | true =>
          by_cases hx : x = (i + j) / 2
          · rw [hx] at hqx; exact absurd hqx hq
          · exact absurd (mono _ x (by omega) (by omega) h2 hqx) hq)
  exact ⟨k, h2.1, h2.2.1, h1, h2.2.2⟩
theorem moveR_val {R : Type} (i : Int) : ∀ (Y P Q : List Int) (x : Int), i = ((P.length + 1 + Y.length : Nat) : Int) → P.length + Y.length ≤ 1000000 →
    whileB (R := R) (fun s72 => if (decide (s72.1 < (w64 (i - 1)))) = true then Option.bind (idx s72.2 (w64 (s72.1 + 1))) fun x87 => Option.bind (idx s72.2 s72.1) fun x92 => Option.bind (setI s72.2 s72.1 x87) fun x101 => Option.bind (idx x101 (w64 (s72.1 + 1))) fun x105 => Option.bind (setI x101 (w64 (s72.1 + 1)) x92) fun x110 => some (.nx (w64 (s72.1 + 1), x110)) else some (.bk (s72.1, s72.2)))
      ((P.length : Int), P ++ x :: (Y ++ Q)) = some (.fin (((P.length + Y.length : Nat) : Int), P ++ Y ++ x :: Q)) := by
  intro Y
  induction Y with
  | nil =>
    intro P Q x hi hl
    rw [sb_whileB, if_neg (by rw [w64_id (by omega) (by simp at hi; omega)]; simp at hi ⊢; omega)]
    simp
  | cons y Y ih =>
    intro P Q x hi hl
    simp at hi hl
    have w1 : w64 ((P.length : Int) + 1) = ((P ++ [x]).length : Int) := by rw [w64_id (by omega) (by omega)]; simp
    have w1' : w64 ((P.length : Int) + 1) = ((P ++ [y]).length : Int) := by rw [w1]; simp
    have a1 : idx (P ++ x :: (y :: Y ++ Q)) (w64 ((P.length : Int) + 1)) = some y := by
      rw [show P ++ x :: (y :: Y ++ Q) = (P ++ [x]) ++ y :: (Y ++ Q) by simp]; exact at_idx _ _ _ w1
    have a2 : idx (P ++ x :: (y :: Y ++ Q)) (P.length : Int) = some x := at_idx _ _ _ rfl
    have s1 : setI (P ++ x :: (y :: Y ++ Q)) (P.length : Int) y = some ((P ++ [y]) ++ y :: (Y ++ Q)) := by rw [at_set _ _ _ _ rfl]; simp
    have a3 : idx ((P ++ [y]) ++ y :: (Y ++ Q)) (w64 ((P.length : Int) + 1)) = some y := at_idx _ _ _ w1'
    have s2 : setI ((P ++ [y]) ++ y :: (Y ++ Q)) (w64 ((P.length : Int) + 1)) x = some ((P ++ [y]) ++ x :: (Y ++ Q)) := at_set _ _ _ _ w1'
    rw [sb_whileB, if_pos (decide_eq_true (by show (P.length : Int) < w64 (i - 1); rw [w64_id (by omega) (by omega)]; omega))]
    simp only [a1, a2, s1, a3, s2, Option.bind_some]
    rw [w1', ih (P ++ [y]) Q x (by simp; omega) (by simp; omega)]
    simp
    omega
theorem moveL_val {R : Type} (i : Int) (P : List Int) (hi : i = (P.length : Int)) (y : Int) : ∀ (N : Nat) (X Q : List Int), X.length = N → P.length + X.length ≤ 1000000 →
    whileB (R := R) (fun s188 => if (decide (i < s188.1)) = true then Option.bind (idx s188.2 (w64 (s188.1 - 1))) fun x203 => Option.bind (idx s188.2 s188.1) fun x208 => Option.bind (setI s188.2 s188.1 x203) fun x217 => Option.bind (idx x217 (w64 (s188.1 - 1))) fun x221 => Option.bind (setI x217 (w64 (s188.1 - 1)) x208) fun x226 => some (.nx (w64 (s188.1 - 1), x226)) else some (.bk (s188.1, s188.2)))
      (((P.length + X.length : Nat) : Int), P ++ X ++ y :: Q) = some (.fin ((P.length : Int), P ++ y :: (X ++ Q))) := by
  intro N
  induction N with
  | zero =>
    intro X Q hN hl
    obtain rfl : X = [] := List.eq_nil_of_length_eq_zero hN
    rw [sb_whileB, if_neg (by simp; omega)]
    simp
  | succ N ih =>
    intro X Q hN hl
    rcases List.eq_nil_or_concat X with rfl | ⟨X0, x, e⟩
    · cases hN
    · rw [List.concat_eq_append] at e
      subst e
      simp at hN hl
      have w1 : w64 (((P.length + (X0 ++ [x]).length : Nat) : Int) - 1) = ((P.length + X0.length : Nat) : Int) := by rw [w64_id (by simp; omega) (by simp; omega)]; simp; omega
      have e1 : P ++ (X0 ++ [x]) ++ y :: Q = (P ++ X0) ++ x :: (y :: Q) := by simp
      have a1 : idx (P ++ (X0 ++ [x]) ++ y :: Q) ((P.length + X0.length : Nat) : Int) = some x := by rw [e1]; exact at_idx _ _ _ (by simp)
      have a2 : idx (P ++ (X0 ++ [x]) ++ y :: Q) ((P.length + (X0 ++ [x]).length : Nat) : Int) = some y := at_idx _ _ _ (by simp)
      have s1 : setI (P ++ (X0 ++ [x]) ++ y :: Q) ((P.length + (X0 ++ [x]).length : Nat) : Int) x = some ((P ++ X0) ++ x :: (x :: Q)) := by rw [at_set _ _ _ _ (by simp)]; simp
      have a3 : idx ((P ++ X0) ++ x :: (x :: Q)) ((P.length + X0.length : Nat) : Int) = some x := at_idx _ _ _ (by simp)
      have s2 : setI ((P ++ X0) ++ x :: (x :: Q)) ((P.length + X0.length : Nat) : Int) y = some ((P ++ X0) ++ y :: (x :: Q)) := at_set _ _ _ _ (by simp)
      rw [sb_whileB, if_pos (by simp; omega)]
      simp only [w1, a1, a2, s1, a3, s2, Option.bind_some]
      have := ih X0 (x :: Q) (by omega) (by omega)
      rw [this]
      simp
theorem srt_at {c : Int → Int → Int} {X : List Int} (h : X.Pairwise (S2 c)) {i j : Nat} {x y : Int} (hij : i < j) (hx : X[i]? = some x) (hy : X[j]? = some y) : S2 c x y := by
  obtain ⟨h1, rfl⟩ := List.getElem?_eq_some_iff.1 hx
  obtain ⟨h2, rfl⟩ := List.getElem?_eq_some_iff.1 hy
  exact List.pairwise_iff_getElem.1 h i j h1 h2 hij
theorem S2.notback {D : Int → Prop} {c : Int → Int → Int} {cmp : Int × Int → Option Int} (hw : Wk D c cmp) {x y : Int} (hx : D x) (hy : D y) (h : S2 c x y) : ¬ c y x < 0 := by
  rcases h with h | ⟨h, _⟩
  · exact fun h2 => hw.ntrans x x x hx hx hx (fun e => by
      have h3 := hw.trans x y x hx hy hx h h2
      exact hw.irr x hx h3) (fun e => hw.irr x hx e) (hw.trans x y x hx hy hx h h2)
  · exact h
end Go.Proofs.Ytabkhhpkibbheaa.M
namespace Go.Proofs.Ytabkhhpkibbheaa.M
open Go Go.Pu
set_option linter.unusedSimpArgs false
set_option linter.unusedVariables false
theorem mid_idx (P X R : List Int) {t : Int} {j : Nat} (ht : t = ((P.length + j : Nat) : Int)) (hj : j < X.length) : idx (P ++ X ++ R) t = X[j]? := by
  rw [ht, idx_nat, List.append_assoc, List.getElem?_append_right (Nat.le_add_right _ _), Nat.add_sub_cancel_left, List.getElem?_append_left hj]
def Mrg (D : Int → Prop) (c : Int → Int → Int) (X Y Z : List Int) : Prop := Z.Perm (X ++ Y) ∧ Z.Pairwise (S2 c)
structure Two (D : Int → Prop) (c : Int → Int → Int) (X Y : List Int) : Prop where
  sx : X.Pairwise (S2 c)
  sy : Y.Pairwise (S2 c)
  dx : ∀ x ∈ X, D x
  dy : ∀ y ∈ Y, D y
  lt : ∀ x ∈ X, ∀ y ∈ Y, x < y
theorem Two.part {D : Int → Prop} {c : Int → Int → Int} {X1 X2 Y1 Y2 : List Int} (h : Two D c (X1 ++ X2) (Y1 ++ Y2)) : Two D c X1 Y1 ∧ Two D c X2 Y2 :=
  ⟨⟨(List.pairwise_append.1 h.sx).1, (List.pairwise_append.1 h.sy).1, fun x hx => h.dx x (by simp [hx]), fun x hx => h.dy x (by simp [hx]), fun x hx y hy => h.lt x (by simp [hx]) y (by simp [hy])⟩,
   ⟨(List.pairwise_append.1 h.sx).2.1, (List.pairwise_append.1 h.sy).2.1, fun x hx => h.dx x (by simp [hx]), fun x hx => h.dy x (by simp [hx]), fun x hx y hy => h.lt x (by simp [hx]) y (by simp [hy])⟩⟩
theorem sym_left {D : Int → Prop} {c : Int → Int → Int} {cmp : Int × Int → Option Int} (hw : Wk D c cmp) (REC : List Int → Int → Int → Int → (Int × Int → Option Int) → Option (List Int)) (P Y Q : List Int) (x : Int) (h : Two D c [x] Y) {a m b : Int} (ha : a = (P.length : Int)) (hm : m = ((P.length + 1 : Nat) : Int)) (hb : b = ((P.length + 1 + Y.length : Nat) : Int)) (hl : P.length + 1 + Y.length ≤ 100000) :
    ∃ Z, slices_symMergeCmpFunc_intF REC (P ++ x :: (Y ++ Q)) a m b cmp = some (P ++ Z ++ Q) ∧ Mrg D c [x] Y Z := by
  have hx : D x := h.dx x (by simp)
  have e1 : w64 (m - a) = 1 := by rw [w64_id (by omega) (by omega)]; omega
  have hdat : P ++ x :: (Y ++ Q) = (P ++ [x]) ++ Y ++ Q := by simp
  have ix : idx (P ++ x :: (Y ++ Q)) a = some x := at_idx _ _ _ ha
  have iy : ∀ j : Nat, j < Y.length → idx (P ++ x :: (Y ++ Q)) (m + (j : Int)) = Y[j]? := fun j hj => by
    rw [hdat]
    exact mid_idx (P ++ [x]) Y Q (by simp; omega) hj
  let q : Int → Bool := fun t => match Y[(t - m).toNat]? with | some y => decide (c y x < 0) | none => false
  obtain ⟨k, k1, k2, k3, k4, k5⟩ := bs_val (R := List Int) (fun s11 => if (decide (s11.1 < s11.2)) = true then Option.bind (Option.bind (shr .u64 (IntKind.wrap .u64 (w64 (s11.1 + s11.2))) 1) fun x31 => Option.bind (idx (P ++ x :: (Y ++ Q)) (IntKind.wrap .i64 x31)) fun x32 => Option.bind (idx (P ++ x :: (Y ++ Q)) a) fun x37 => Option.bind (cmp (x32, x37)) fun x45 => Option.bind (if (decide (x45 < 0)) = true then some (w64 ((IntKind.wrap .i64 x31) + 1), s11.2) else some (s11.1, IntKind.wrap .i64 x31)) fun s51 => some (s51.1, s51.2)) fun s24 => some (.nx (s24.1, s24.2)) else some (.bk (s11.1, s11.2))) q m b (by omega) (fun i j hi hij hj => by
      obtain ⟨m1, m2⟩ := sb_mid (s := i + j) (by omega) (by omega)
      rw [if_pos (by simpa using hij)]
      simp only [m1, Option.bind_some, m2, ix]
      obtain ⟨n, hn⟩ : ∃ n : Nat, (i + j) / 2 = m + (n : Int) := ⟨((i + j) / 2 - m).toNat, by omega⟩
      have hnl : n < Y.length := by omega
      have hy : Y[n]? = some Y[n] := List.getElem?_eq_getElem hnl
      have hyD := h.dy _ (List.getElem_mem hnl)
      generalize Y[n] = y at hy hyD
      rw [hn, iy n hnl, hy]
      have hq : q (m + (n : Int)) = decide (c y x < 0) := by
        show (match Y[(m + (n : Int) - m).toNat]? with | some y => decide (c y x < 0) | none => false) = _
        rw [show (m + (n : Int) - m).toNat = n by omega, hy]
      rw [hq]
      simp only [Option.bind_some, hw.val y x hyD hx]
      by_cases hc : c y x < 0
      · simp only [hc, decide_true, if_true, Option.bind_some]
        rw [w64_id (by omega) (by omega)]
      · simp only [hc, decide_false, Bool.false_eq_true, if_false, Option.bind_some]) (fun i => by rw [if_neg (by simp)]) (fun s t hs hst ht hq => by
      obtain ⟨u, hu⟩ : ∃ u : Nat, s = m + (u : Int) := ⟨(s - m).toNat, by omega⟩
      obtain ⟨v, hv⟩ : ∃ v : Nat, t = m + (v : Int) := ⟨(t - m).toNat, by omega⟩
      have hul : u < Y.length := by omega
      have hvl : v < Y.length := by omega
      have hyu : Y[u]? = some Y[u] := List.getElem?_eq_getElem hul
      have hyv : Y[v]? = some Y[v] := List.getElem?_eq_getElem hvl
      have du := h.dy _ (List.getElem_mem hul)
      have dv := h.dy _ (List.getElem_mem hvl)
      have hs2 := srt_at h.sy (show u < v by omega) hyu hyv
      generalize Y[u] = yu at hyu du hs2
      generalize Y[v] = yv at hyv dv hs2
      subst hu
      subst hv
      change (match Y[(m + (v : Int) - m).toNat]? with | some y => decide (c y x < 0) | none => false) = true at hq
      show (match Y[(m + (u : Int) - m).toNat]? with | some y => decide (c y x < 0) | none => false) = true
      rw [show (m + (v : Int) - m).toNat = v by omega, hyv] at hq
      rw [show (m + (u : Int) - m).toNat = u by omega, hyu]
      simp only [decide_eq_true_eq] at hq ⊢
      refine Decidable.byContradiction fun hn => ?_
      exact hw.ntrans yv yu x dv du hx (S2.notback hw du dv hs2) hn hq)
  obtain ⟨n, hn⟩ : ∃ n : Nat, k = m + (n : Int) := ⟨(k - m).toNat, by omega⟩
  have hnl : n ≤ Y.length := by omega
  have p1 : ∀ y ∈ Y.take n, c y x < 0 := by
    intro y hy
    obtain ⟨u, hu⟩ := List.getElem?_of_mem hy
    have hul := (List.getElem?_eq_some_iff.1 hu).1
    simp at hul
    rw [List.getElem?_take, if_pos (by omega)] at hu
    have := k4 (m + (u : Int)) (by omega) (by omega)
    change (match Y[(m + (u : Int) - m).toNat]? with | some y => decide (c y x < 0) | none => false) = true at this
    rw [show (m + (u : Int) - m).toNat = u by omega, hu] at this
    simpa using this
  have p2 : ∀ y ∈ Y.drop n, ¬ c y x < 0 := by
    intro y hy
    obtain ⟨u, hu⟩ := List.getElem?_of_mem hy
    have hul := (List.getElem?_eq_some_iff.1 hu).1
    simp at hul
    rw [List.getElem?_drop] at hu
    have := k5 (m + ((n + u : Nat) : Int)) (by omega) (by omega)
    change (match Y[(m + ((n + u : Nat) : Int) - m).toNat]? with | some y => decide (c y x < 0) | none => false) = false at this
    rw [show (m + ((n + u : Nat) : Int) - m).toNat = n + u by omega, hu] at this
    simpa using this
  refine ⟨Y.take n ++ x :: Y.drop n, ?_, ?_, ?_⟩
  · unfold slices_symMergeCmpFunc_intF
    rw [e1, if_pos (show ((1 : Int) == 1) = true from rfl), k3, Option.bind_some, Lp.andThen_fin]
    have hmv := moveR_val (R := List Int) k (Y.take n) P (Y.drop n ++ Q) x (by rw [List.length_take]; omega) (by rw [List.length_take]; omega)
    have e2 : P ++ x :: (Y ++ Q) = P ++ x :: (Y.take n ++ (Y.drop n ++ Q)) := by rw [← List.append_assoc (Y.take n), List.take_append_drop]
    rw [ha]
    rw [e2, hmv, Option.bind_some, Lp.andThen_fin]
    simp
  · have : (Y.take n ++ x :: Y.drop n).Perm (x :: (Y.take n ++ Y.drop n)) := List.perm_middle
    rw [List.take_append_drop] at this
    exact this
  · have hsy := h.sy
    rw [← List.take_append_drop n Y] at hsy
    obtain ⟨q1, q2, q3⟩ := List.pairwise_append.1 hsy
    refine List.pairwise_append.2 ⟨q1, List.pairwise_cons.2 ⟨fun y hy => .inr ⟨p2 y hy, h.lt x (by simp) y (List.mem_of_mem_drop hy)⟩, q2⟩, fun u hu v hv => ?_⟩
    rcases List.mem_cons.1 hv with rfl | hv
    · exact .inl (p1 u hu)
    · exact q3 u hu v hv
theorem sym_right {D : Int → Prop} {c : Int → Int → Int} {cmp : Int × Int → Option Int} (hw : Wk D c cmp) (REC : List Int → Int → Int → Int → (Int × Int → Option Int) → Option (List Int)) (P X Q : List Int) (y : Int) (h : Two D c X [y]) (hX : X.length ≠ 1) {a m b : Int} (ha : a = (P.length : Int)) (hm : m = ((P.length + X.length : Nat) : Int)) (hb : b = ((P.length + X.length + 1 : Nat) : Int)) (hl : P.length + X.length + 1 ≤ 100000) :
    ∃ Z, slices_symMergeCmpFunc_intF REC (P ++ X ++ y :: Q) a m b cmp = some (P ++ Z ++ Q) ∧ Mrg D c X [y] Z := by
  have hy : D y := h.dy y (by simp)
  have e0 : (w64 (m - a) == 1) = false := by rw [w64_id (by omega) (by omega)]; simp; omega
  have e1 : w64 (b - m) = 1 := by rw [w64_id (by omega) (by omega)]; omega
  have iy : idx (P ++ X ++ y :: Q) m = some y := at_idx _ _ _ (by simp; exact hm)
  have ix : ∀ j : Nat, j < X.length → idx (P ++ X ++ y :: Q) (a + (j : Int)) = X[j]? := fun j hj => mid_idx P X (y :: Q) (by omega) hj
  let q : Int → Bool := fun t => match X[(t - a).toNat]? with | some x => !(decide (c y x < 0)) | none => false
  obtain ⟨k, k1, k2, k3, k4, k5⟩ := bs_val (R := List Int) (fun s127 => if (decide (s127.1 < s127.2)) = true then Option.bind (Option.bind (shr .u64 (IntKind.wrap .u64 (w64 (s127.1 + s127.2))) 1) fun x147 => Option.bind (idx (P ++ X ++ y :: Q) m) fun x148 => Option.bind (idx (P ++ X ++ y :: Q) (IntKind.wrap .i64 x147)) fun x153 => Option.bind (cmp (x148, x153)) fun x161 => Option.bind (if (!(decide (x161 < 0))) = true then some (w64 ((IntKind.wrap .i64 x147) + 1), s127.2) else some (s127.1, IntKind.wrap .i64 x147)) fun s167 => some (s167.1, s167.2)) fun s140 => some (.nx (s140.1, s140.2)) else some (.bk (s127.1, s127.2))) q a m (by omega) (fun i j hi hij hj => by
      obtain ⟨m1, m2⟩ := sb_mid (s := i + j) (by omega) (by omega)
      rw [if_pos (by simpa using hij)]
      simp only [m1, Option.bind_some, m2, iy]
      obtain ⟨n, hn⟩ : ∃ n : Nat, (i + j) / 2 = a + (n : Int) := ⟨((i + j) / 2 - a).toNat, by omega⟩
      have hnl : n < X.length := by omega
      have hx : X[n]? = some X[n] := List.getElem?_eq_getElem hnl
      have hxD := h.dx _ (List.getElem_mem hnl)
      generalize X[n] = x at hx hxD
      rw [hn, ix n hnl, hx]
      have hq : q (a + (n : Int)) = !(decide (c y x < 0)) := by
        show (match X[(a + (n : Int) - a).toNat]? with | some x => !(decide (c y x < 0)) | none => false) = _
        rw [show (a + (n : Int) - a).toNat = n by omega, hx]
      rw [hq]
      simp only [Option.bind_some, hw.val y x hy hxD]
      by_cases hc : c y x < 0
      · simp only [hc, decide_true, Bool.not_true, Bool.false_eq_true, if_false, Option.bind_some]
      · simp only [hc, decide_false, Bool.not_false, if_true, Option.bind_some]
        rw [w64_id (by omega) (by omega)]) (fun i => by rw [if_neg (by simp)]) (fun s t hs hst ht hq => by
      obtain ⟨u, hu⟩ : ∃ u : Nat, s = a + (u : Int) := ⟨(s - a).toNat, by omega⟩
      obtain ⟨v, hv⟩ : ∃ v : Nat, t = a + (v : Int) := ⟨(t - a).toNat, by omega⟩
      have hul : u < X.length := by omega
      have hvl : v < X.length := by omega
      have hyu : X[u]? = some X[u] := List.getElem?_eq_getElem hul
      have hyv : X[v]? = some X[v] := List.getElem?_eq_getElem hvl
      have du := h.dx _ (List.getElem_mem hul)
      have dv := h.dx _ (List.getElem_mem hvl)
      have hs2 := srt_at h.sx (show u < v by omega) hyu hyv
      generalize X[u] = yu at hyu du hs2
      generalize X[v] = yv at hyv dv hs2
      subst hu
      subst hv
      change (match X[(a + (v : Int) - a).toNat]? with | some x => !(decide (c y x < 0)) | none => false) = true at hq
      show (match X[(a + (u : Int) - a).toNat]? with | some x => !(decide (c y x < 0)) | none => false) = true
      rw [show (a + (v : Int) - a).toNat = v by omega, hyv] at hq
      rw [show (a + (u : Int) - a).toNat = u by omega, hyu]
      simp only [Bool.not_eq_true', decide_eq_false_iff_not] at hq ⊢
      exact hw.ntrans y yv yu hy dv du hq (S2.notback hw du dv hs2))
  obtain ⟨n, hn⟩ : ∃ n : Nat, k = a + (n : Int) := ⟨(k - a).toNat, by omega⟩
  have hnl : n ≤ X.length := by omega
  have p1 : ∀ x ∈ X.take n, ¬ c y x < 0 := by
    intro x hx
    obtain ⟨u, hu⟩ := List.getElem?_of_mem hx
    have hul := (List.getElem?_eq_some_iff.1 hu).1
    simp at hul
    rw [List.getElem?_take, if_pos (by omega)] at hu
    have := k4 (a + (u : Int)) (by omega) (by omega)
    change (match X[(a + (u : Int) - a).toNat]? with | some x => !(decide (c y x < 0)) | none => false) = true at this
    rw [show (a + (u : Int) - a).toNat = u by omega, hu] at this
    simpa using this
  have p2 : ∀ x ∈ X.drop n, c y x < 0 := by
    intro x hx
    obtain ⟨u, hu⟩ := List.getElem?_of_mem hx
    have hul := (List.getElem?_eq_some_iff.1 hu).1
    simp at hul
    rw [List.getElem?_drop] at hu
    have := k5 (a + ((n + u : Nat) : Int)) (by omega) (by omega)
    change (match X[(a + ((n + u : Nat) : Int) - a).toNat]? with | some x => !(decide (c y x < 0)) | none => false) = false at this
    rw [show (a + ((n + u : Nat) : Int) - a).toNat = n + u by omega, hu] at this
    simpa using this
  refine ⟨X.take n ++ y :: X.drop n, ?_, ?_, ?_⟩
  · unfold slices_symMergeCmpFunc_intF
    rw [e0, if_neg (by decide), e1, if_pos (show ((1 : Int) == 1) = true from rfl), k3, Option.bind_some, Lp.andThen_fin]
    have hmv := moveL_val (R := List Int) k (P ++ X.take n) (by simp; omega) y (X.drop n).length (X.drop n) Q rfl (by simp; omega)
    have e2 : P ++ X ++ y :: Q = P ++ X.take n ++ X.drop n ++ y :: Q := by rw [List.append_assoc P (X.take n), List.take_append_drop]
    have e3 : m = (((P ++ X.take n).length + (X.drop n).length : Nat) : Int) := by simp; omega
    rw [e2, e3, hmv, Option.bind_some, Lp.andThen_fin]
    simp
  · refine List.perm_middle.trans ?_
    rw [List.take_append_drop]
    exact (List.perm_append_comm (l₁ := [y]) (l₂ := X))
  · have hsx := h.sx
    rw [← List.take_append_drop n X] at hsx
    obtain ⟨q1, q2, q3⟩ := List.pairwise_append.1 hsx
    refine List.pairwise_append.2 ⟨q1, List.pairwise_cons.2 ⟨fun x hx => .inl (p2 x hx), q2⟩, fun u hu v hv => ?_⟩
    rcases List.mem_cons.1 hv with rfl | hv
    · exact .inr ⟨p1 u hu, h.lt u (List.mem_of_mem_take hu) v (by simp)⟩
    · exact q3 u hu v hv
end Go.Proofs.Ytabkhhpkibbheaa.M
namespace Go.Proofs.Ytabkhhpkibbheaa.M
open Go Go.Pu
set_option linter.unusedSimpArgs false
set_option linter.unusedVariables false
theorem mem_take_at {X : List Int} {n : Nat} {u : Int} (h : u ∈ X.take n) : ∃ i, i < n ∧ X[i]? = some u := by
  obtain ⟨i, hi⟩ := List.getElem?_of_mem h
  rw [List.getElem?_take] at hi
  split at hi
  · exact ⟨i, by assumption, hi⟩
  · cases hi
theorem mem_drop_at {X : List Int} {n : Nat} {u : Int} (h : u ∈ X.drop n) : ∃ i, n ≤ i ∧ X[i]? = some u := by
  obtain ⟨i, hi⟩ := List.getElem?_of_mem h
  rw [List.getElem?_drop] at hi
  exact ⟨n + i, by omega, hi⟩
theorem Mrg.one {D : Int → Prop} {c : Int → Int → Int} {X Y : List Int} (h : Two D c X Y) (he : X = [] ∨ Y = []) : Mrg D c X Y (X ++ Y) := by
  refine ⟨.refl _, ?_⟩
  rcases he with rfl | rfl
  · simpa using h.sy
  · simpa using h.sx
theorem Mrg.len {D : Int → Prop} {c : Int → Int → Int} {X Y Z : List Int} (h : Mrg D c X Y Z) : Z.length = X.length + Y.length := by
  rw [h.1.length_eq, List.length_append]
theorem symN_val {D : Int → Prop} {c : Int → Int → Int} {cmp : Int × Int → Option Int} (hw : Wk D c cmp) : ∀ (n : Nat) (P X Y Q : List Int), X.length + Y.length ≤ n → 0 < X.length → 0 < Y.length → Two D c X Y → P.length + X.length + Y.length + Q.length ≤ 100000 → ∀ {a m b : Int}, a = (P.length : Int) → m = ((P.length + X.length : Nat) : Int) → b = ((P.length + X.length + Y.length : Nat) : Int) →
    ∃ Z, slices_symMergeCmpFunc_intN n (P ++ X ++ Y ++ Q) a m b cmp = some (P ++ Z ++ Q) ∧ Mrg D c X Y Z := by
  intro n
  induction n with
  | zero => intro P X Y Q h h1; omega
  | succ n ih =>
    intro P X Y Q hn hX hY h2 hl a m b ha hm hb
    show ∃ Z, slices_symMergeCmpFunc_intF (slices_symMergeCmpFunc_intN n) (P ++ X ++ Y ++ Q) a m b cmp = some (P ++ Z ++ Q) ∧ _
    by_cases hx1 : X.length = 1
    · obtain ⟨x, rfl⟩ := List.length_eq_one_iff.1 hx1
      obtain ⟨Z, z1, z2⟩ := sym_left hw (slices_symMergeCmpFunc_intN n) P Y Q x h2 ha (by simpa using hm) (by simpa using hb) (by simp at hl; omega)
      refine ⟨Z, ?_, z2⟩
      rw [← z1]
      congr 1
      simp
    by_cases hy1 : Y.length = 1
    · obtain ⟨y, rfl⟩ := List.length_eq_one_iff.1 hy1
      obtain ⟨Z, z1, z2⟩ := sym_right hw (slices_symMergeCmpFunc_intN n) P X Q y h2 hx1 ha hm (by simpa using hb) (by simp at hl; omega)
      refine ⟨Z, ?_, z2⟩
      rw [← z1]
      congr 1
      simp
    have e0 : (w64 (m - a) == 1) = false := by rw [w64_id (by omega) (by omega)]; simp; omega
    have e1 : (w64 (b - m) == 1) = false := by rw [w64_id (by omega) (by omega)]; simp; omega
    obtain ⟨m1, m2⟩ := sb_mid (s := a + b) (by omega) (by omega)
    have hM1 : 2 * ((a + b) / 2) ≤ a + b := by omega
    have hM2 : a + b < 2 * ((a + b) / 2) + 2 := by omega
    unfold slices_symMergeCmpFunc_intF
    rw [e0, if_neg (by decide), e1, if_neg (by decide), m1, Option.bind_some]
    simp only [m2]
    generalize (a + b) / 2 = M at hM1 hM2
    have wn : w64 (M + m) = M + m := w64_id (by omega) (by omega)
    have wN : w64 (M + m - 1) = M + m - 1 := w64_id (by omega) (by omega)
    have wL : w64 (M + m - b) = M + m - b := w64_id (by omega) (by omega)
    simp only [wn, wN, wL]
    obtain ⟨lo, hi, hr, hlo⟩ : ∃ lo hi : Int, (if (decide (M < m)) = true then some (M + m - b, M) else some (a, m)) = some (lo, hi) ∧ ((M < m ∧ lo = M + m - b ∧ hi = M) ∨ (¬ M < m ∧ lo = a ∧ hi = m)) := by
      by_cases h : M < m
      · exact ⟨_, _, by rw [if_pos (decide_eq_true h)], .inl ⟨h, rfl, rfl⟩⟩
      · exact ⟨_, _, by rw [if_neg (by simpa using h)], .inr ⟨h, rfl, rfl⟩⟩
    rw [hr, Option.bind_some]
    generalize hdat : P ++ X ++ Y ++ Q = data
    have at1 : ∀ t, lo ≤ t → t < hi → ∃ (i j : Nat) (x y : Int), t = a + (i : Int) ∧ X[i]? = some x ∧ idx data t = some x ∧ M + m - 1 - t = m + (j : Int) ∧ Y[j]? = some y ∧ idx data (M + m - 1 - t) = some y ∧ D x ∧ D y := by
      intro t h3 h4
      have r1 : a ≤ t ∧ t < m ∧ m ≤ M + m - 1 - t ∧ M + m - 1 - t < b := by omega
      have hi' : (t - a).toNat < X.length := by omega
      have hj' : (M - 1 - t).toNat < Y.length := by omega
      refine ⟨(t - a).toNat, (M - 1 - t).toNat, X[(t - a).toNat], Y[(M - 1 - t).toNat], by omega, List.getElem?_eq_getElem hi', ?_, by omega, List.getElem?_eq_getElem hj', ?_, h2.dx _ (List.getElem_mem hi'), h2.dy _ (List.getElem_mem hj')⟩
      · rw [← hdat, show P ++ X ++ Y ++ Q = P ++ X ++ (Y ++ Q) by simp, mid_idx P X (Y ++ Q) (j := (t - a).toNat) (by omega) hi', List.getElem?_eq_getElem hi']
      · rw [← hdat, mid_idx (P ++ X) Y Q (j := (M - 1 - t).toNat) (by simp; omega) hj', List.getElem?_eq_getElem hj']
    let q : Int → Bool := fun t => match idx data (M + m - 1 - t), idx data t with | some y, some x => !(decide (c y x < 0)) | _, _ => false
    have hq : ∀ t x y, idx data t = some x → idx data (M + m - 1 - t) = some y → q t = !(decide (c y x < 0)) := fun t x y hx hy => by
      show (match idx data (M + m - 1 - t), idx data t with | some y, some x => !(decide (c y x < 0)) | _, _ => false) = _
      rw [hx, hy]
    obtain ⟨k, k1, k2, k3, k4, k5⟩ := bs_val (R := List Int) (fun s252 => if (decide (s252.1 < s252.2)) = true then Option.bind (Option.bind (shr .u64 (IntKind.wrap .u64 (w64 (s252.1 + s252.2))) 1) fun x272 => Option.bind (idx data (w64 ((M + m - 1) - (IntKind.wrap .i64 x272)))) fun x273 => Option.bind (idx data (IntKind.wrap .i64 x272)) fun x278 => Option.bind (cmp (x273, x278)) fun x286 => Option.bind (if (!(decide (x286 < 0))) = true then some (w64 ((IntKind.wrap .i64 x272) + 1), s252.2) else some (s252.1, IntKind.wrap .i64 x272)) fun s292 => some (s292.1, s292.2)) fun s265 => some (.nx (s265.1, s265.2)) else some (.bk (s252.1, s252.2))) q lo hi (by omega) (fun i j hi' hij hj => by
        obtain ⟨n1, n2⟩ := sb_mid (s := i + j) (by omega) (by omega)
        rw [if_pos (by simpa using hij)]
        have wt : w64 (M + m - 1 - (i + j) / 2) = M + m - 1 - (i + j) / 2 := w64_id (by omega) (by omega)
        obtain ⟨_, _, x, y, _, _, hx, _, _, hy, dx, dy⟩ := at1 ((i + j) / 2) (by omega) (by omega)
        simp only [n1, Option.bind_some, n2, wt, hx, hy, hw.val y x dy dx]
        rw [hq _ x y hx hy]
        by_cases hc : c y x < 0
        · simp only [hc, decide_true, Bool.not_true, Bool.false_eq_true, if_false, Option.bind_some]
        · simp only [hc, decide_false, Bool.not_false, if_true, Option.bind_some]
          rw [w64_id (by omega) (by omega)]) (fun i => by rw [if_neg (by simp)]) (fun s t hs hst ht hqt => by
        obtain ⟨i1, j1, x1, y1, s1, s2, s3, s4, s5, s6, d1, d2⟩ := at1 s hs (by omega)
        obtain ⟨i2, j2, x2, y2, t1, t2, t3, t4, t5, t6, d3, d4⟩ := at1 t (by omega) ht
        rw [hq _ x2 y2 t3 t6] at hqt
        rw [hq _ x1 y1 s3 s6]
        simp only [Bool.not_eq_true', decide_eq_false_iff_not] at hqt ⊢
        have hxx := S2.notback hw d1 d3 (srt_at h2.sx (show i1 < i2 by omega) s2 t2)
        have hyy := S2.notback hw d4 d2 (srt_at h2.sy (show j2 < j1 by omega) t5 s5)
        exact hw.ntrans y1 x2 x1 d2 d3 d1 (hw.ntrans y1 y2 x2 d2 d4 d3 hyy hqt) hxx)
    rw [k3, Option.bind_some, Lp.andThen_fin]
    have wk : w64 (M + m - k) = M + m - k := w64_id (by omega) (by omega)
    simp only [wk]
    obtain ⟨i0, hi0⟩ : ∃ i0 : Nat, k = a + (i0 : Int) := ⟨(k - a).toNat, by omega⟩
    obtain ⟨j0, hj0⟩ : ∃ j0 : Nat, M - k = (j0 : Int) := ⟨(M - k).toNat, by omega⟩
    have hi0l : i0 ≤ X.length := by omega
    have hj0l : j0 ≤ Y.length := by omega
    have lx1 : (X.take i0).length = i0 := by rw [List.length_take]; omega
    have lx2 : (X.drop i0).length = X.length - i0 := List.length_drop
    have ly1 : (Y.take j0).length = j0 := by rw [List.length_take]; omega
    have ly2 : (Y.drop j0).length = Y.length - j0 := List.length_drop
    have cross1 : ∀ u ∈ X.take i0, ∀ v ∈ Y.drop j0, S2 c u v := by
      intro u hu v hv
      obtain ⟨i, hi1, hi2⟩ := mem_take_at hu
      obtain ⟨j, hj1, hj2⟩ := mem_drop_at hv
      have hjl := (List.getElem?_eq_some_iff.1 hj2).1
      obtain ⟨i', j', x, y, s1, s2, s3, s4, s5, s6, dx, dy⟩ := at1 (k - 1) (by omega) (by omega)
      have hk := k4 (k - 1) (by omega) (by omega)
      rw [hq _ x y s3 s6] at hk
      simp only [Bool.not_eq_true', decide_eq_false_iff_not] at hk
      obtain rfl : i' + 1 = i0 := by omega
      obtain rfl : j' = j0 := by omega
      have b1 : S2 c x y := .inr ⟨hk, h2.lt x (List.mem_of_getElem? s2) y (List.mem_of_getElem? s5)⟩
      have du := h2.dx u (List.mem_of_mem_take hu)
      have dv := h2.dy v (List.mem_of_mem_drop hv)
      have b2 : S2 c u y := by
        by_cases e : i = i'
        · subst e
          rw [hi2] at s2
          obtain rfl := Option.some.inj s2
          exact b1
        · exact S2.trans hw du dx dy (srt_at h2.sx (show i < i' by omega) hi2 s2) b1
      by_cases e : j = j'
      · subst e
        rw [hj2] at s5
        obtain rfl := Option.some.inj s5
        exact b2
      · exact S2.trans hw du dy dv b2 (srt_at h2.sy (show j' < j by omega) s5 hj2)
    have cross2 : ∀ u ∈ Y.take j0, ∀ v ∈ X.drop i0, S2 c u v := by
      intro u hu v hv
      obtain ⟨j, hj1, hj2⟩ := mem_take_at hu
      obtain ⟨i, hi1, hi2⟩ := mem_drop_at hv
      have hil := (List.getElem?_eq_some_iff.1 hi2).1
      obtain ⟨i', j', x, y, s1, s2, s3, s4, s5, s6, dx, dy⟩ := at1 k (by omega) (by omega)
      have hk := k5 k (by omega) (by omega)
      rw [hq _ x y s3 s6] at hk
      have hk' : c y x < 0 := by simpa using hk
      obtain rfl : i' = i0 := by omega
      obtain rfl : j' + 1 = j0 := by omega
      have b1 : S2 c y x := .inl hk'
      have du := h2.dy u (List.mem_of_mem_take hu)
      have dv := h2.dx v (List.mem_of_mem_drop hv)
      have b2 : S2 c u x := by
        by_cases e : j = j'
        · subst e
          rw [hj2] at s5
          obtain rfl := Option.some.inj s5
          exact b1
        · exact S2.trans hw du dy dx (srt_at h2.sy (show j < j' by omega) hj2 s5) b1
      by_cases e : i = i'
      · subst e
        rw [hi2] at s2
        obtain rfl := Option.some.inj s2
        exact b2
      · exact S2.trans hw du dx dv b2 (srt_at h2.sx (show i' < i by omega) s2 hi2)
    obtain ⟨h21, h22⟩ := Two.part (X1 := X.take i0) (X2 := X.drop i0) (Y1 := Y.take j0) (Y2 := Y.drop j0) (by rw [List.take_append_drop, List.take_append_drop]; exact h2)
    have erot : (if ((decide (k < m)) && (decide (m < (M + m - k)))) = true then Option.bind (slices_rotateCmpFunc_int data k m (M + m - k) cmp) fun x315 => some x315 else some data) = some (P ++ X.take i0 ++ Y.take j0 ++ X.drop i0 ++ Y.drop j0 ++ Q) := by
      have ed : data = (P ++ X.take i0) ++ X.drop i0 ++ Y.take j0 ++ (Y.drop j0 ++ Q) := by
        rw [← hdat]
        conv => lhs; rw [← List.take_append_drop i0 X, ← List.take_append_drop j0 Y]
        simp only [List.append_assoc]
      by_cases hc : k < m ∧ m < M + m - k
      · rw [if_pos (by simp [hc]), ed]
        have hv := rotate_val cmp [] ((X.drop i0).length + (Y.take j0).length) (P ++ X.take i0) (X.drop i0) (Y.take j0) (Y.drop j0 ++ Q) (Nat.le_refl _) (by omega) (by omega) (a := k) (m := m) (b := M + m - k) (by simp; omega) (by simp; omega)
        unfold slices_rotateCmpFunc_int
        have w1 : w64 (m - k) = ((X.drop i0).length : Int) := by rw [w64_id (by omega) (by omega), lx2]; omega
        have w2 : w64 (M + m - k - m) = ((Y.take j0).length : Int) := by rw [w64_id (by omega) (by omega), ly1]; omega
        rw [w1, w2, hv]
        simp
      · rw [if_neg (by simp; omega), ed]
        congr 1
        by_cases hi : i0 = X.length
        · have : X.drop i0 = [] := List.eq_nil_of_length_eq_zero (by omega)
          rw [this]
          simp only [List.append_assoc, List.nil_append, List.append_nil]
        · have : Y.take j0 = [] := List.eq_nil_of_length_eq_zero (by omega)
          rw [this]
          simp only [List.append_assoc, List.nil_append, List.append_nil]
    rw [erot, Option.bind_some]
    obtain ⟨Z1, z1, z2⟩ : ∃ Z1, (if ((decide (a < k)) && (decide (k < M))) = true then Option.bind (slices_symMergeCmpFunc_intN n (P ++ X.take i0 ++ Y.take j0 ++ X.drop i0 ++ Y.drop j0 ++ Q) a k M cmp) fun x333 => some x333 else some (P ++ X.take i0 ++ Y.take j0 ++ X.drop i0 ++ Y.drop j0 ++ Q)) = some (P ++ Z1 ++ X.drop i0 ++ Y.drop j0 ++ Q) ∧ Mrg D c (X.take i0) (Y.take j0) Z1 := by
      by_cases hc : a < k ∧ k < M
      · rw [if_pos (by simp [hc])]
        obtain ⟨Z1, z1, z2⟩ := ih P (X.take i0) (Y.take j0) (X.drop i0 ++ Y.drop j0 ++ Q) (by omega) (by omega) (by omega) h21 (by simp; omega) (a := a) (m := k) (b := M) ha (by omega) (by omega)
        refine ⟨Z1, ?_, z2⟩
        have e : P ++ X.take i0 ++ Y.take j0 ++ X.drop i0 ++ Y.drop j0 ++ Q = P ++ X.take i0 ++ Y.take j0 ++ (X.drop i0 ++ Y.drop j0 ++ Q) := by simp
        rw [e, z1]
        simp
      · rw [if_neg (by simp; omega)]
        refine ⟨X.take i0 ++ Y.take j0, by simp, Mrg.one h21 ?_⟩
        by_cases hi : i0 = 0
        · exact .inl (List.eq_nil_of_length_eq_zero (by omega))
        · exact .inr (List.eq_nil_of_length_eq_zero (by omega))
    rw [z1, Option.bind_some]
    have lz1 := z2.len
    obtain ⟨Z2, y1, y2⟩ : ∃ Z2, (if ((decide (M < (M + m - k))) && (decide ((M + m - k) < b))) = true then Option.bind (slices_symMergeCmpFunc_intN n (P ++ Z1 ++ X.drop i0 ++ Y.drop j0 ++ Q) M (M + m - k) b cmp) fun x351 => some x351 else some (P ++ Z1 ++ X.drop i0 ++ Y.drop j0 ++ Q)) = some (P ++ Z1 ++ Z2 ++ Q) ∧ Mrg D c (X.drop i0) (Y.drop j0) Z2 := by
      by_cases hc : M < M + m - k ∧ M + m - k < b
      · rw [if_pos (by simp [hc])]
        obtain ⟨Z2, y1, y2⟩ := ih (P ++ Z1) (X.drop i0) (Y.drop j0) Q (by omega) (by omega) (by omega) h22 (by simp; omega) (a := M) (m := M + m - k) (b := b) (by simp; omega) (by simp; omega) (by simp; omega)
        exact ⟨Z2, by rw [y1]; rfl, y2⟩
      · rw [if_neg (by simp; omega)]
        refine ⟨X.drop i0 ++ Y.drop j0, by simp, Mrg.one h22 ?_⟩
        by_cases hi : i0 = X.length
        · exact .inl (List.eq_nil_of_length_eq_zero (by omega))
        · exact .inr (List.eq_nil_of_length_eq_zero (by omega))
    rw [y1, Option.bind_some]
    refine ⟨Z1 ++ Z2, by simp, ?_, ?_⟩
    · refine (List.Perm.append z2.1 y2.1).trans ?_
      conv => rhs; rw [← List.take_append_drop i0 X, ← List.take_append_drop j0 Y]
      simp only [List.append_assoc]
      refine List.Perm.append_left _ ?_
      rw [← List.append_assoc, ← List.append_assoc]
      exact List.Perm.append_right _ List.perm_append_comm
    · refine List.pairwise_append.2 ⟨z2.2, y2.2, fun u hu v hv => ?_⟩
      have hu' := z2.1.mem_iff.1 hu
      have hv' := y2.1.mem_iff.1 hv
      rcases List.mem_append.1 hu' with hu' | hu'
      · rcases List.mem_append.1 hv' with hv' | hv'
        · have := h2.sx
          rw [← List.take_append_drop i0 X] at this
          exact (List.pairwise_append.1 this).2.2 u hu' v hv'
        · exact cross1 u hu' v hv'
      · rcases List.mem_append.1 hv' with hv' | hv'
        · exact cross2 u hu' v hv'
        · have := h2.sy
          rw [← List.take_append_drop j0 Y] at this
          exact (List.pairwise_append.1 this).2.2 u hu' v hv'
end Go.Proofs.Ytabkhhpkibbheaa.M
namespace Go.Proofs.Ytabkhhpkibbheaa.M
open Go Go.Pu
set_option linter.unusedSimpArgs false
set_option linter.unusedVariables false
inductive Blk (c : Int → Int → Int) (s : Nat) : List Int → Prop
  | last (X : List Int) : X.length ≤ s → X.Pairwise (S2 c) → Blk c s X
  | more (X Y : List Int) : X.length = s → X.Pairwise (S2 c) → Blk c s Y → (∀ x ∈ X, ∀ y ∈ Y, x < y) → Blk c s (X ++ Y)
theorem Blk.one {c : Int → Int → Int} {s : Nat} {X : List Int} (h : Blk c s X) (hl : X.length ≤ s) (hs : 0 < s) : X.Pairwise (S2 c) := by
  cases h with
  | last _ _ h => exact h
  | more A B h1 h2 h3 h4 =>
    have : B = [] := List.eq_nil_of_length_eq_zero (by simp at hl; omega)
    subst this
    simpa using h2
theorem Blk.two {c : Int → Int → Int} {s : Nat} {X : List Int} (h : Blk c s X) (hl : s < X.length) : ∃ A B, X = A ++ B ∧ A.length = s ∧ A.Pairwise (S2 c) ∧ Blk c s B ∧ (∀ x ∈ A, ∀ y ∈ B, x < y) := by
  cases h with
  | last _ h _ => omega
  | more A B h1 h2 h3 h4 => exact ⟨A, B, rfl, h1, h2, h3, h4⟩
theorem Blk.full {c : Int → Int → Int} {s : Nat} {X : List Int} (h : Blk c s X) (hl : s ≤ X.length) (hs : 0 < s) : ∃ A B, X = A ++ B ∧ A.length = s ∧ A.Pairwise (S2 c) ∧ Blk c s B ∧ (∀ x ∈ A, ∀ y ∈ B, x < y) := by
  by_cases h1 : s < X.length
  · exact h.two h1
  · exact ⟨X, [], by simp, by omega, h.one (by omega) hs, .last [] (by simp) .nil, by simp⟩
theorem sb_nort {S R : Type} (body : S → Option (Ctl S R)) (hb : ∀ s r, body s ≠ some (.rt r)) : ∀ {s : S} {r : R}, whileB body s ≠ some (.rt r) := by
  intro s r h
  obtain ⟨n, hn⟩ := (whileB_iff (body := body)).1 h
  clear h
  induction n generalizing s with
  | zero => cases hn
  | succ n ih =>
    rw [whileN] at hn
    rcases hq : body s with _ | (s' | s' | q)
    · rw [hq] at hn; cases hn
    · rw [hq] at hn; exact ih hn
    · rw [hq] at hn; cases hn
    · exact hb s q hq
theorem blocks_val {D : Int → Prop} {c : Int → Int → Int} {cmp : Int × Int → Option Int} (hw : Wk D c cmp) {n : Int} : ∀ (N : Nat) (P R : List Int), R.length ≤ N → n = ((P.length + R.length : Nat) : Int) → (∀ x ∈ R, D x) → R.Pairwise (· < ·) → P.length + R.length ≤ 100000 → ∀ {a b : Int}, a = (P.length : Int) → b = ((P.length + 20 : Nat) : Int) →
    ∃ R', (Option.bind (whileB (R := List Int) (fun s10 => if (decide (s10.2.1 ≤ n)) = true then Option.bind (slices_insertionSortCmpFunc_int s10.2.2 s10.1 s10.2.1 cmp) fun x22 => some (.nx (s10.2.1, w64 (s10.2.1 + 20), x22)) else some (.bk (s10.1, s10.2.1, s10.2.2))) (a, b, P ++ R)) fun o1 => o1.andThen (fun y => some y) fun s2 => slices_insertionSortCmpFunc_int s2.2.2 s2.1 n cmp) = some (P ++ R') ∧ R'.Perm R ∧ Blk c 20 R' := by
  intro N
  induction N with
  | zero =>
    intro P R hN hn hD hR hl a b ha hb
    have : R = [] := List.eq_nil_of_length_eq_zero (by omega)
    subst this
    rw [sb_whileB, if_neg (by simp at hn ⊢; omega)]
    obtain ⟨S', s1, s2, s3⟩ := insertion_val hw P [] [] (a := a) (b := n) ha (by simpa using hn) (by simp) .nil (by simp at hl ⊢; omega)
    refine ⟨S', ?_, s2, .last _ (by rw [s2.length_eq]; simp) s3⟩
    simp only [Option.bind_some, Lp.andThen_fin]
    simpa using s1
  | succ N ih =>
    intro P R hN hn hD hR hl a b ha hb
    by_cases hc : R.length < 20
    · rw [sb_whileB, if_neg (by simp; omega)]
      obtain ⟨S', s1, s2, s3⟩ := insertion_val hw P R [] (a := a) (b := n) ha hn hD hR (by omega)
      refine ⟨S', ?_, s2, .last _ (by rw [s2.length_eq]; omega) s3⟩
      simp only [Option.bind_some, Lp.andThen_fin]
      simpa using s1
    · have e20 : (R.take 20).length = 20 := by rw [List.length_take]; omega
      have edr : (R.drop 20).length = R.length - 20 := List.length_drop
      have hsp : (R.take 20 ++ R.drop 20).Pairwise (· < ·) := by rw [List.take_append_drop]; exact hR
      obtain ⟨p1, p2, p3⟩ := List.pairwise_append.1 hsp
      obtain ⟨S', s1, s2, s3⟩ := insertion_val hw P (R.take 20) (R.drop 20) (a := a) (b := b) ha (by omega) (fun x hx => hD x (List.mem_of_mem_take hx)) p1 (by omega)
      rw [sb_whileB, if_pos (by simp; omega)]
      have e0 : P ++ R = P ++ R.take 20 ++ R.drop 20 := by rw [List.append_assoc, List.take_append_drop]
      have lS : S'.length = 20 := by rw [s2.length_eq, e20]
      have ew : w64 (b + 20) = (((P ++ S').length + 20 : Nat) : Int) := by rw [w64_id (by omega) (by omega)]; simp; omega
      obtain ⟨R', r1, r2, r3⟩ := ih (P ++ S') (R.drop 20) (by omega) (by simp; omega) (fun x hx => hD x (List.mem_of_mem_drop hx)) p2 (by simp; omega) (a := b) (b := w64 (b + 20)) (by simp; omega) ew
      simp only [e0, s1, Option.bind_some]
      refine ⟨S' ++ R', by rw [r1]; simp, ?_, .more _ _ lS s3 r3 fun x hx y hy => p3 x (s2.mem_iff.1 hx) y (r2.mem_iff.1 hy)⟩
      have := List.Perm.append s2 r2
      rwa [List.take_append_drop] at this
theorem pass_val {D : Int → Prop} {c : Int → Int → Int} {cmp : Int × Int → Option Int} (hw : Wk D c cmp) {n : Int} {s : Nat} (hs : 0 < s) (hs2 : s ≤ 200000) : ∀ (N : Nat) (P R : List Int), R.length ≤ N → n = ((P.length + R.length : Nat) : Int) → (∀ x ∈ R, D x) → Blk c s R → P.length + R.length ≤ 100000 → ∀ {a b : Int}, a = (P.length : Int) → b = ((P.length + 2 * s : Nat) : Int) →
    ∃ R', (Option.bind (whileB (R := List Int) (fun s65 => if (decide (s65.2.1 ≤ n)) = true then Option.bind (slices_symMergeCmpFunc_int s65.2.2 s65.1 (w64 (s65.1 + (s : Int))) s65.2.1 cmp) fun x77 => some (.nx (s65.2.1, w64 (s65.2.1 + (w64 (2 * (s : Int)))), x77)) else some (.bk (s65.1, s65.2.1, s65.2.2))) (a, b, P ++ R)) fun o56 => o56.andThen (fun y => some (.rt y)) fun s57 => Option.bind (if (decide ((w64 (s57.1 + (s : Int))) < n)) = true then Option.bind (slices_symMergeCmpFunc_int s57.2.2 s57.1 (w64 (s57.1 + (s : Int))) n cmp) fun x94 => some x94 else some s57.2.2) fun s86 => some (Ctl.nx (w64 ((s : Int) * 2), s86))) = some (Ctl.nx (w64 ((s : Int) * 2), P ++ R')) ∧ R'.Perm R ∧ Blk c (2 * s) R' := by
  intro N
  have hend : ∀ (P R : List Int), R.length < 2 * s → n = ((P.length + R.length : Nat) : Int) → (∀ x ∈ R, D x) → Blk c s R → P.length + R.length ≤ 100000 → ∀ {a b : Int}, a = (P.length : Int) → b = ((P.length + 2 * s : Nat) : Int) →
      ∃ R', (Option.bind (whileB (R := List Int) (fun s65 => if (decide (s65.2.1 ≤ n)) = true then Option.bind (slices_symMergeCmpFunc_int s65.2.2 s65.1 (w64 (s65.1 + (s : Int))) s65.2.1 cmp) fun x77 => some (.nx (s65.2.1, w64 (s65.2.1 + (w64 (2 * (s : Int)))), x77)) else some (.bk (s65.1, s65.2.1, s65.2.2))) (a, b, P ++ R)) fun o56 => o56.andThen (fun y => some (.rt y)) fun s57 => Option.bind (if (decide ((w64 (s57.1 + (s : Int))) < n)) = true then Option.bind (slices_symMergeCmpFunc_int s57.2.2 s57.1 (w64 (s57.1 + (s : Int))) n cmp) fun x94 => some x94 else some s57.2.2) fun s86 => some (Ctl.nx (w64 ((s : Int) * 2), s86))) = some (Ctl.nx (w64 ((s : Int) * 2), P ++ R')) ∧ R'.Perm R ∧ Blk c (2 * s) R' := by
    intro P R hlt hn hD hB hl a b ha hb
    rw [sb_whileB, if_neg (by simp; omega)]
    simp only [Option.bind_some, Lp.andThen_fin]
    have ew : w64 (a + (s : Int)) = a + s := w64_id (by omega) (by omega)
    simp only [ew]
    by_cases hc : s < R.length
    · obtain ⟨A, B, rfl, hA, sA, bB, lt⟩ := hB.two hc
      rw [List.length_append] at hc hlt hn hl
      have sB := bB.one (by omega) hs
      rw [if_pos (by simp; omega)]
      obtain ⟨Z, z1, z2⟩ := symN_val hw ((P ++ (A ++ B)).length + 1) P A B [] (by simp; omega) (by omega) (by omega) ⟨sA, sB, fun x hx => hD x (by simp [hx]), fun x hx => hD x (by simp [hx]), lt⟩ (by simp; omega) (a := a) (m := a + s) (b := n) ha (by omega) (by omega)
      refine ⟨Z, ?_, z2.1, .last _ (by rw [z2.len]; omega) z2.2⟩
      unfold slices_symMergeCmpFunc_int
      have e0 : P ++ (A ++ B) = P ++ A ++ B ++ [] := by simp
      rw [e0] at z1 ⊢
      rw [z1]
      simp
    · rw [if_neg (by simp; omega)]
      exact ⟨R, rfl, .refl _, .last _ (by omega) (hB.one (by omega) hs)⟩
  induction N with
  | zero =>
    intro P R hN hn hD hB hl a b ha hb
    exact hend P R (by omega) hn hD hB hl ha hb
  | succ N ih =>
    intro P R hN hn hD hB hl a b ha hb
    by_cases hc : R.length < 2 * s
    · exact hend P R hc hn hD hB hl ha hb
    obtain ⟨A, R1, rfl, hA, sA, bR1, lt1⟩ := hB.two (by omega)
    rw [List.length_append] at hc hn hl hN
    obtain ⟨B, R2, rfl, hBl, sB, bR2, lt2⟩ := bR1.full (by omega) hs
    rw [List.length_append] at hc hn hl hN
    rw [sb_whileB, if_pos (by simp; omega)]
    have ew : w64 (a + (s : Int)) = a + s := w64_id (by omega) (by omega)
    have e2s : w64 (2 * (s : Int)) = 2 * s := w64_id (by omega) (by omega)
    obtain ⟨Z, z1, z2⟩ := symN_val hw ((P ++ (A ++ (B ++ R2))).length + 1) P A B R2 (by simp; omega) (by omega) (by omega) ⟨sA, sB, fun x hx => hD x (by simp [hx]), fun x hx => hD x (by simp [hx]), fun x hx y hy => lt1 x hx y (by simp [hy])⟩ (by omega) (a := a) (m := a + s) (b := b) ha (by omega) (by omega)
    have lZ := z2.len
    have e0 : P ++ (A ++ (B ++ R2)) = P ++ A ++ B ++ R2 := by simp
    have ewb : w64 (b + 2 * (s : Int)) = (((P ++ Z).length + 2 * s : Nat) : Int) := by rw [w64_id (by omega) (by omega)]; simp; omega
    obtain ⟨R', r1, r2, r3⟩ := ih (P ++ Z) R2 (by omega) (by simp; omega) (fun x hx => hD x (by simp [hx])) bR2 (by simp; omega) (a := b) (b := w64 (b + 2 * (s : Int))) (by simp; omega) ewb
    simp only [e2s] at r1
    have zz : slices_symMergeCmpFunc_int (P ++ (A ++ (B ++ R2))) a (a + s) b cmp = some (P ++ Z ++ R2) := by
      unfold slices_symMergeCmpFunc_int
      rw [e0] at z1 ⊢
      exact z1
    simp only [ew, e2s, zz, Option.bind_some]
    refine ⟨Z ++ R', by rw [r1]; simp, ?_, .more _ _ (by omega) z2.2 r3 fun x hx y hy => ?_⟩
    · have := List.Perm.append z2.1 r2
      simpa using this
    · have hx' := z2.1.mem_iff.1 hx
      have hy' := r2.mem_iff.1 hy
      rcases List.mem_append.1 hx' with h | h
      · exact lt1 x h y (by simp [hy'])
      · exact lt2 x h y hy'
theorem stable_val {D : Int → Prop} {c : Int → Int → Int} {cmp : Int × Int → Option Int} (hw : Wk D c cmp) (L : List Int) (hD : ∀ x ∈ L, D x) (hL : L.Pairwise (· < ·)) (hl : L.length ≤ 100000) :
    ∃ Z, slices_SortStableFunc_Lint_int L cmp = some Z ∧ Z.Perm L ∧ Z.Pairwise (S2 c) := by
  obtain ⟨X, x1, x2, x3⟩ := blocks_val hw (n := (L.length : Int)) L.length [] L (Nat.le_refl _) (by simp) hD hL (by simpa using hl) (a := 0) (b := 20) rfl rfl
  rw [List.nil_append, List.nil_append] at x1
  have outer : ∀ (N s : Nat) (X : List Int), 0 < s → s ≤ 200000 → L.length ≤ s + N → X.Perm L → Blk c s X →
      ∃ Z, whileB (R := List Int) (fun s44 => if (decide (s44.1 < (L.length : Int))) = true then Option.bind (whileB (fun s65 => if (decide (s65.2.1 ≤ (L.length : Int))) = true then Option.bind (slices_symMergeCmpFunc_int s65.2.2 s65.1 (w64 (s65.1 + s44.1)) s65.2.1 cmp) fun x77 => some (.nx (s65.2.1, w64 (s65.2.1 + (w64 (2 * s44.1))), x77)) else some (.bk (s65.1, s65.2.1, s65.2.2))) (0, w64 (2 * s44.1), s44.2)) fun o56 => o56.andThen (fun y => some (.rt y)) fun s57 => Option.bind (if (decide ((w64 (s57.1 + s44.1)) < (L.length : Int))) = true then Option.bind (slices_symMergeCmpFunc_int s57.2.2 s57.1 (w64 (s57.1 + s44.1)) (L.length : Int) cmp) fun x94 => some x94 else some s57.2.2) fun s86 => some (.nx (w64 (s44.1 * 2), s86)) else some (.bk (s44.1, s44.2))) ((s : Int), X) = some (.fin Z) ∧ Z.2.Perm L ∧ Z.2.Pairwise (S2 c) := by
    intro N
    induction N with
    | zero =>
      intro s X h0 h1 h2 h3 h4
      rw [sb_whileB, if_neg (by simp; omega)]
      exact ⟨_, rfl, h3, h4.one (by rw [h3.length_eq]; omega) h0⟩
    | succ N ih =>
      intro s X h0 h1 h2 h3 h4
      by_cases hc : L.length ≤ s
      · rw [sb_whileB, if_neg (by simp; omega)]
        exact ⟨_, rfl, h3, h4.one (by rw [h3.length_eq]; omega) h0⟩
      · rw [sb_whileB, if_pos (by simp; omega)]
        have lX := h3.length_eq
        have e2s : w64 (2 * (s : Int)) = 2 * s := w64_id (by omega) (by omega)
        have es2 : w64 ((s : Int) * 2) = ((2 * s : Nat) : Int) := by rw [w64_id (by omega) (by omega)]; omega
        obtain ⟨R', r1, r2, r3⟩ := pass_val hw (n := (L.length : Int)) h0 h1 X.length [] X (Nat.le_refl _) (by simp; omega) (fun x hx => hD x (h3.mem_iff.1 hx)) h4 (by simp; omega) (a := 0) (b := w64 (2 * (s : Int))) rfl (by rw [e2s]; simp)
        rw [List.nil_append, List.nil_append] at r1
        obtain ⟨Z, z1, z2⟩ := ih (2 * s) R' (by omega) (by omega) (by omega) (r2.trans h3) r3
        refine ⟨Z, ?_, z2⟩
        simp only at r1 ⊢
        rw [r1]
        rw [Option.bind_some]
        simp only [es2]
        exact z1
  obtain ⟨Z, z1, z2, z3⟩ := outer L.length 20 X (by decide) (by decide) (by omega) x2 x3
  refine ⟨Z.2, ?_, z2, z3⟩
  unfold slices_SortStableFunc_Lint_int slices_stableCmpFunc_int
  rcases hw1 : whileB (R := List Int) (fun s10 => if (decide (s10.2.1 ≤ (L.length : Int))) = true then Option.bind (slices_insertionSortCmpFunc_int s10.2.2 s10.1 s10.2.1 cmp) fun x22 => some (.nx (s10.2.1, w64 (s10.2.1 + 20), x22)) else some (.bk (s10.1, s10.2.1, s10.2.2))) (0, 20, L) with _ | (q | q)
  · rw [hw1] at x1; cases x1
  · rw [hw1] at x1
    rw [Option.bind_some, Lp.andThen_fin] at x1
    rw [Option.bind_some, Lp.andThen_fin, x1, Option.bind_some]
    have z1' := z1
    rw [show ((20 : Nat) : Int) = 20 from rfl] at z1'
    rw [z1']
    rfl
  · exfalso
    exact sb_nort _ (fun s r h => by
      split at h
      · rcases hq : slices_insertionSortCmpFunc_int s.2.2 s.1 s.2.1 cmp with _ | u
        · rw [hq] at h; cases h
        · rw [hq] at h; cases h
      · cases h) hw1
end Go.Proofs.Ytabkhhpkibbheaa.M
