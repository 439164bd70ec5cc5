import Derived.Test.YtldkdabcdbgpbaaGreatDoorIndexChangesM
import Derived.Test.YtldkdabcdbgpbaaGreatDoorPl
import Derived.Lib.SlTrimSet
import Derived.KernelRfl
import Derived.Lib.Bytealg
import Derived.Test.YtldkdabcdbgpbaaGreatDoorPj
namespace Go.Proofs.YtldkdabcdbgpbaaGreatDoor.M
open Go Go.Pu
set_option linter.unusedSimpArgs false
set_option linter.unusedVariables false
theorem rangeB_map {α R : Type} (l : List α) (f : α → α) (b : Nat → List α → Option (Ctl (List α) R))
  (hb : ∀ (k : Nat) (s : List α) (x : α), k < l.length → s.length = l.length → s[k]? = some x → b k s = some (.nx (s.set k (f x)))) :
  rangeB b l.length 0 l = some (.fin (l.map f)) := by
 obtain ⟨t, h1, h2⟩ := rangeB_inv (b := b) l.length (fun k t => t = (l.take k).map f ++ l.drop k) (s := l) (by simp) fun k t hk ht => by
  subst ht
  have hlen : ((l.take k).map f ++ l.drop k).length = l.length := by simp; omega
  have hx : ((l.take k).map f ++ l.drop k)[k]? = some l[k] := by
   rw [List.getElem?_append_right (by simp; omega)]
   simp [Nat.min_eq_left (Nat.le_of_lt hk), hk]
  refine ⟨_, hb k _ _ hk hlen hx, ?_⟩
  rw [List.set_append_right _ _ (by simp; omega)]
  have e : k - ((l.take k).map f).length = 0 := by simp; omega
  rw [e, List.drop_eq_getElem_cons hk, List.set_cons_zero, List.take_add_one, List.getElem?_eq_getElem hk]
  simp only [List.map_append, List.append_assoc, Option.toList_some, List.map_cons, List.map_nil, List.cons_append, List.nil_append]
 rw [h1, h2]
 simp
def low8 (b : UInt8) : UInt8 := if 65 ≤ b.toNat ∧ b.toNat ≤ 90 then toU8 ((b.toNat : Int) + 32) else b
def lowB (s : ByteArray) : ByteArray := ⟨(s.data.toList.map low8).toArray⟩
theorem u8_two (n : Int) : toU8 (((toU8 (n + 97)).toNat : Int) - 65) = toU8 (n + 32) := by
 have e : ((toU8 (((toU8 (n + 97)).toNat : Int) - 65)).toNat : Int) = ((toU8 (n + 32)).toNat : Int) := by
  rw [toU8_nat, toU8_nat, toU8_nat]
  simp only [IntKind.wrap, IntKind.bits, IntKind.signed]
  simp
  omega
 exact UInt8.toNat_inj.1 (by omega)
theorem bytesL_some {s : ByteArray} (h : s.size ≤ 9223372036854775807) : bytesL s = some s.data.toList := by
 unfold bytesL
 rw [if_pos (by omega)]
theorem setI_nat {α : Type} {l : List α} {k : Nat} {x : α} (h : k < l.length) : setI l (k : Int) x = some (l.set k x) := by
 unfold setI
 rw [if_pos ⟨by omega, by omega⟩]
 simp
theorem set_self {α : Type} {l : List α} {k : Nat} {x : α} (h : l[k]? = some x) : l.set k x = l := by
 obtain ⟨h1, rfl⟩ := List.getElem?_eq_some_iff.1 h
 exact List.set_getElem_self h1
theorem know_lower_val (s : ByteArray) (h : s.size ≤ 9223372036854775807) : know_lower s = some (lowB s) := by
 unfold know_lower
 rw [bytesL_some h, Option.bind_some, rangeB_map _ low8 _ ?_]
 ·rfl
 intro k t x hk hl hx
 have hk' : k < t.length := by omega
 rw [idx_nat, hx]
 simp only [Option.bind_some]
 by_cases hc : 65 ≤ x.toNat ∧ x.toNat ≤ 90
 ·rw [if_pos (by simp; omega), setI_nat hk', u8_two]
  simp [low8, hc]
 ·rw [if_neg (by simp; omega)]
  simp only [Option.bind_some, low8, if_neg hc]
  rw [set_self hx]
theorem portref2_lower_val (s : ByteArray) (h : s.size ≤ 9223372036854775807) : portref2_lower s = some (lowB s) := by
 unfold portref2_lower
 rw [bytesL_some h, Option.bind_some, rangeB_map _ low8 _ ?_]
 ·rfl
 intro k t x hk hl hx
 have hk' : k < t.length := by omega
 rw [idx_nat, hx]
 simp only [Option.bind_some]
 by_cases hc : 65 ≤ x.toNat ∧ x.toNat ≤ 90
 ·rw [if_pos (by simp; omega), setI_nat hk']
  simp [low8, hc]
 ·rw [if_neg (by simp; omega)]
  simp only [Option.bind_some, low8, if_neg hc]
  rw [set_self hx]
def wb (b : UInt8) : Bool := portref2_isWordByte (b.toNat : Int)
theorem inWord_wb (b : UInt8) : know_inWord (b.toNat : Int) = wb b := rfl
end Go.Proofs.YtldkdabcdbgpbaaGreatDoor.M
namespace Go.Proofs.YtldkdabcdbgpbaaGreatDoor.M
open Go Go.Pu
set_option linter.unusedSimpArgs false
set_option linter.unusedVariables false
theorem data_size (s : ByteArray) : s.data.toList.length = s.size := by
 show s.data.toList.length = s.data.size
 simp
theorem idxS_list (s : ByteArray) (k : Nat) : idxS s (k : Int) = s.data.toList[k]? := by
 simp only [idxS, Int.natCast_nonneg, if_true, Int.toNat_natCast]
 show s.data[k]? = _
 simp
theorem sliceS_nat (s : ByteArray) (a b : Nat) (h1 : a ≤ b) (h2 : b ≤ s.size) : sliceS s (some (a : Int)) (some (b : Int)) = some (s.extract a b) := by
 unfold sliceS bounds
 simp only [Option.getD_some]
 rw [if_pos (by omega)]
 simp
theorem sliceS_from (s : ByteArray) (a : Nat) (h1 : a ≤ s.size) : sliceS s (some (a : Int)) none = some (s.extract a s.size) := by
 unfold sliceS bounds
 simp only [Option.getD_some, Option.getD_none]
 rw [if_pos (by omega)]
 simp
theorem extract_list (s : ByteArray) (a b : Nat) : (s.extract a b).data.toList = (s.data.toList.drop a).take (b - a) := by
 rw [ByteArray.data_extract]
 simp [List.extract]
def runE (l : List UInt8) (i : Nat) : Nat := i + ((l.drop i).takeWhile wb).length
theorem runE_ge (l : List UInt8) (i : Nat) : i ≤ runE l i := Nat.le_add_right ..
theorem runE_le (l : List UInt8) (i : Nat) (h : i ≤ l.length) : runE l i ≤ l.length := by
 unfold runE
 have := (List.takeWhile_sublist (p := wb) (l := l.drop i)).length_le
 rw [List.length_drop] at this
 omega
theorem runE_stop {l : List UInt8} {i : Nat} (h : ∀ b, l[i]? = some b → wb b = false) : runE l i = i := by
 unfold runE
 cases hd : l.drop i with
 | nil => rfl
 | cons b t =>
  have : l[i]? = some b := by have := List.getElem?_drop (xs := l) (i := i) (j := 0); rw [hd] at this; simpa using this.symm
  rw [List.takeWhile_cons, h b this]
  rfl
theorem runE_step {l : List UInt8} {i : Nat} {b : UInt8} (h : l[i]? = some b) (hw : wb b = true) : runE l i = runE l (i + 1) := by
 obtain ⟨hi, rfl⟩ := List.getElem?_eq_some_iff.1 h
 unfold runE
 rw [List.drop_eq_getElem_cons hi, List.takeWhile_cons, if_pos hw]
 simp
 omega
theorem runE_end {l : List UInt8} {i : Nat} {b : UInt8} (h : l[runE l i]? = some b) : wb b = false := by
 have key : ∀ (m : List UInt8), ∀ c, m[(m.takeWhile wb).length]? = some c → wb c = false := by
  intro m
  induction m with
  | nil => intro c h; simp at h
  | cons a m ih =>
   intro c h
   cases ha : wb a with
   | false => rw [List.takeWhile_cons, ha] at h; simp at h; subst h; exact ha
   | true => rw [List.takeWhile_cons, ha] at h; simp at h; exact ih c h
 exact key (l.drop i) b (by rw [List.getElem?_drop]; exact h)
theorem run_loop {R : Type} (s : ByteArray) (hs : s.size ≤ 4611686018427387904) (p : Int → Bool) (hp : ∀ b : UInt8, p (b.toNat : Int) = wb b) (i : Nat) (hi : i ≤ s.size) :
  whileB (R := R) (fun s33 => Option.bind (if (decide (s33 < (s.size : Int))) = true then (Option.bind (idxS s s33) fun x44 => some (p (x44.toNat : Int))) else (some false)) fun s43 => if s43 = true then some (.nx (w64 (s33 + 1))) else some (.bk s33)) (i : Int) = some (.fin ((runE s.data.toList i : Nat) : Int)) := by
 suffices hx : ∃ r, whileB (R := R) (fun s33 => Option.bind (if (decide (s33 < (s.size : Int))) = true then (Option.bind (idxS s s33) fun x44 => some (p (x44.toNat : Int))) else (some false)) fun s43 => if s43 = true then some (.nx (w64 (s33 + 1))) else some (.bk s33)) (i : Int) = some r ∧ r = .fin ((runE s.data.toList i : Nat) : Int) by
  obtain ⟨r, h, hr⟩ := hx
  rw [h, hr]
 refine whileB_spec (R := R) (body := fun s33 => Option.bind (if (decide (s33 < (s.size : Int))) = true then (Option.bind (idxS s s33) fun x44 => some (p (x44.toNat : Int))) else (some false)) fun s43 => if s43 = true then some (.nx (w64 (s33 + 1))) else some (.bk s33)) (s := (i : Int))
  (fun t => ∃ j : Nat, t = (j : Int) ∧ i ≤ j ∧ j ≤ s.size ∧ runE s.data.toList j = runE s.data.toList i) (fun t => s.size - t.toNat) (fun r => r = .fin ((runE s.data.toList i : Nat) : Int)) ⟨i, rfl, Nat.le_refl _, hi, rfl⟩ ?_
 rintro _ ⟨j, rfl, h1, h2, h3⟩
 by_cases hj : j < s.size
 ·have hb := List.getElem?_eq_getElem (l := s.data.toList) (i := j) (by rw [data_size]; exact hj)
  rw [if_pos (by simp; omega), idxS_list, hb]
  simp only [Option.bind_some, hp]
  cases hw : wb (s.data.toList[j]'(by rw [data_size]; exact hj)) with
  | true =>
   refine ⟨_, if_pos rfl, ⟨j + 1, ?_, by omega, by omega, ?_⟩, ?_⟩
   ·rw [w64_id (by omega) (by omega)]; omega
   ·rw [← runE_step hb hw, h3]
   ·rw [w64_id (by omega) (by omega)]; omega
  | false =>
   refine ⟨_, if_neg (by decide), ?_⟩
   have := runE_stop (l := s.data.toList) (i := j) fun b h => by rw [hb] at h; cases h; exact hw
   rw [← h3, this]
 ·rw [if_neg (by simp; omega)]
  refine ⟨_, rfl, ?_⟩
  have := runE_stop (l := s.data.toList) (i := j) fun b h => by rw [List.getElem?_eq_none (by rw [data_size]; omega)] at h; cases h
  rw [← h3, this]
def lowL (w : List UInt8) : ByteArray := ⟨(w.map low8).toArray⟩
def headW (l : List UInt8) : List ByteArray := if l.takeWhile wb ≠ [] ∧ (l.takeWhile wb).length ≤ 30 then [lowL (l.takeWhile wb)] else []
def wordsF : Nat → List UInt8 → List ByteArray
 | 0, _ => []
 | n + 1, l => if l = [] then [] else headW l ++ wordsF n (l.drop ((l.takeWhile wb).length + 1))
def wordsL (l : List UInt8) : List ByteArray := wordsF l.length l
theorem wordsF_eq : ∀ (n m : Nat) (l : List UInt8), l.length ≤ n → l.length ≤ m → wordsF n l = wordsF m l
 | 0, 0, _, _, _ => rfl
 | 0, m + 1, l, h, _ => by obtain rfl : l = [] := List.eq_nil_of_length_eq_zero (by omega); rfl
 | n + 1, 0, l, _, h => by obtain rfl : l = [] := List.eq_nil_of_length_eq_zero (by omega); rfl
 | n + 1, m + 1, l, h1, h2 => by
  rw [wordsF, wordsF]
  by_cases hl : l = []
  ·rw [if_pos hl, if_pos hl]
  ·have h0 : 0 < l.length := by cases l <;> simp_all
   rw [if_neg hl, if_neg hl, wordsF_eq n m _ (by simp; omega) (by simp; omega)]
theorem wordsL_nil : wordsL [] = [] := rfl
theorem wordsL_eq {l : List UInt8} (h : l ≠ []) : wordsL l = headW l ++ wordsL (l.drop ((l.takeWhile wb).length + 1)) := by
 unfold wordsL
 have h0 : 0 < l.length := by cases l <;> simp_all
 obtain ⟨n, hn⟩ : ∃ n, l.length = n + 1 := ⟨l.length - 1, by omega⟩
 rw [hn, wordsF, if_neg h]
 congr 1
 refine wordsF_eq _ _ _ (by simp; omega) (by simp)
theorem wordsL_skip {b : UInt8} {l : List UInt8} (h : wb b = false) : wordsL (b :: l) = wordsL l := by
 rw [wordsL_eq (by simp)]
 have : (b :: l).takeWhile wb = [] := by rw [List.takeWhile_cons, h]; rfl
 rw [headW, this]
 simp
theorem wordsF_length : ∀ (n : Nat) (l : List UInt8), (wordsF n l).length ≤ l.length
 | 0, l => by simp [wordsF]
 | n + 1, l => by
  rw [wordsF]
  by_cases hl : l = []
  ·rw [if_pos hl]; simp
  ·rw [if_neg hl, List.length_append]
   have h1 := wordsF_length n (l.drop ((l.takeWhile wb).length + 1))
   rw [List.length_drop] at h1
   have h2 : (headW l).length ≤ 1 := by unfold headW; split <;> simp
   have h0 : 0 < l.length := by cases l <;> simp_all
   omega
theorem wordsL_at (l : List UInt8) (i : Nat) (h : i < l.length) : wordsL (l.drop i) = headW (l.drop i) ++ wordsL (l.drop (runE l i + 1)) := by
 rw [wordsL_eq (by intro e; have := congrArg List.length e; simp at this; omega), List.drop_drop]
 rfl
theorem head_round (s : ByteArray) (i : Nat) (hi : i ≤ s.size) : headW (s.data.toList.drop i) = if i < runE s.data.toList i ∧ runE s.data.toList i - i ≤ 30 then [lowB (s.extract i (runE s.data.toList i))] else [] := by
 have e : (s.extract i (runE s.data.toList i)).data.toList = (s.data.toList.drop i).takeWhile wb := by
  rw [extract_list]
  have : runE s.data.toList i - i = ((s.data.toList.drop i).takeWhile wb).length := by unfold runE; omega
  rw [this]
  exact (List.prefix_iff_eq_take.1 (List.takeWhile_prefix wb)).symm
 unfold headW lowB
 rw [e]
 by_cases h : (s.data.toList.drop i).takeWhile wb = []
 ·rw [if_neg (fun hh => hh.1 h), if_neg]
  unfold runE
  rw [h]
  simp
 ·have h0 : 0 < ((s.data.toList.drop i).takeWhile wb).length := by rcases hh : (s.data.toList.drop i).takeWhile wb with _ | _ <;> simp_all
  by_cases h2 : ((s.data.toList.drop i).takeWhile wb).length ≤ 30
  ·rw [if_pos ⟨h, h2⟩, if_pos (by unfold runE; omega)]; rfl
  ·rw [if_neg (fun hh => h2 hh.2), if_neg (by unfold runE; omega)]
theorem runE_size (s : ByteArray) (i : Nat) (hi : i ≤ s.size) : runE s.data.toList i ≤ s.size := by
 have := runE_le s.data.toList i (by rw [data_size]; exact hi)
 rwa [data_size] at this
theorem words_round (s : ByteArray) (hs : s.size ≤ 8796093022208) (lo : ByteArray → Option ByteArray) (hlo : ∀ s : ByteArray, s.size ≤ 9223372036854775807 → lo s = some (lowB s)) (acc : List ByteArray) (i : Nat) (hi : i < s.size) (ha : acc.length ≤ i) :
  (if ((decide ((i : Int) < ((runE s.data.toList i : Nat) : Int))) && (decide ((w64 (((runE s.data.toList i : Nat) : Int) - (i : Int))) ≤ 30))) = true then Option.bind (sliceS s (some (i : Int)) (some ((runE s.data.toList i : Nat) : Int))) fun x62 => Option.bind (lo x62) fun x63 => Option.bind (appendL 8796093022208 acc ([x63] : List ByteArray)) fun x73 => some x73 else some acc) = some (acc ++ headW (s.data.toList.drop i)) := by
 have hr := runE_size s i (by omega)
 have hg := runE_ge s.data.toList i
 rw [head_round s i (by omega), w64_id (by omega) (by omega)]
 by_cases h : i < runE s.data.toList i ∧ runE s.data.toList i - i ≤ 30
 ·rw [if_pos (by simp; omega), if_pos h, sliceS_nat s _ _ hg hr, Option.bind_some, hlo _ (by rw [ByteArray.size_extract]; omega)]
  simp only [Option.bind_some]
  unfold appendL
  rw [if_pos (by simp; omega)]
  rfl
 ·rw [if_neg (by simp; omega), if_neg h, List.append_nil]
theorem know_Words_val (s : ByteArray) (hs : s.size ≤ 8796093022208) : know_Words s = some (wordsL s.data.toList) := by
 unfold know_Words
 generalize hbody : (fun s12 : List ByteArray × Int => _) = body
 suffices hx : ∃ r, whileB body (([] : List ByteArray), (0 : Int)) = some r ∧ ∃ t, r = .fin t ∧ t.1 = wordsL s.data.toList by
  obtain ⟨r, h, t, rfl, hr⟩ := hx
  rw [h, Option.bind_some]
  show some t.1 = _
  rw [hr]
 refine whileB_spec (body := body) (s := (([] : List ByteArray), (0 : Int)))
  (fun t => ∃ i : Nat, t.2 = (i : Int) ∧ i ≤ s.size + 1 ∧ t.1.length ≤ i ∧ t.1 ++ wordsL (s.data.toList.drop i) = wordsL s.data.toList) (fun t => s.size + 2 - t.2.toNat) (fun r => ∃ t, r = .fin t ∧ t.1 = wordsL s.data.toList) ⟨0, rfl, by omega, by simp, by simp⟩ ?_
 rintro ⟨acc, _⟩ ⟨i, rfl, h1, h2, h3⟩
 subst hbody
 simp only at h2 h3 ⊢
 by_cases hi : i < s.size
 ·rw [if_pos (by simp; omega), run_loop s (by omega) know_inWord inWord_wb i (by omega), Option.bind_some, Lp.andThen_fin, words_round s hs know_lower know_lower_val acc i hi h2, Option.bind_some]
  have hr := runE_size s i (by omega)
  have hg := runE_ge s.data.toList i
  refine ⟨_, rfl, ⟨runE s.data.toList i + 1, by rw [w64_id (by omega) (by omega)]; omega, by omega, ?_, ?_⟩, ?_⟩
  ·rw [List.length_append]
   have : (headW (s.data.toList.drop i)).length ≤ 1 := by unfold headW; split <;> simp
   omega
  ·rw [List.append_assoc, ← wordsL_at _ _ (by rw [data_size]; exact hi)]; exact h3
  ·simp only; rw [w64_id (by omega) (by omega)]; omega
 ·rw [if_neg (by simp; omega)]
  refine ⟨_, rfl, _, rfl, ?_⟩
  rw [List.drop_eq_nil_of_le (by rw [data_size]; omega), wordsL_nil, List.append_nil] at h3
  exact h3
theorem portref2_WordsOf_val (s : ByteArray) (hs : s.size ≤ 8796093022208) : portref2_WordsOf s = some (wordsL s.data.toList) := by
 unfold portref2_WordsOf
 generalize hbody : (fun s12 : List ByteArray × Int => _) = body
 suffices hx : ∃ r, whileB body (([] : List ByteArray), (0 : Int)) = some r ∧ ∃ t, r = .fin t ∧ t.1 = wordsL s.data.toList by
  obtain ⟨r, h, t, rfl, hr⟩ := hx
  rw [h, Option.bind_some]
  show some t.1 = _
  rw [hr]
 refine whileB_spec (body := body) (s := (([] : List ByteArray), (0 : Int)))
  (fun t => ∃ i : Nat, t.2 = (i : Int) ∧ i ≤ s.size + 1 ∧ t.1.length ≤ i ∧ t.1 ++ wordsL (s.data.toList.drop i) = wordsL s.data.toList) (fun t => s.size + 2 - t.2.toNat) (fun r => ∃ t, r = .fin t ∧ t.1 = wordsL s.data.toList) ⟨0, rfl, by omega, by simp, by simp⟩ ?_
 rintro ⟨acc, _⟩ ⟨i, rfl, h1, h2, h3⟩
 subst hbody
 simp only at h2 h3 ⊢
 by_cases hi : i < s.size
 ·rw [if_pos (by simp; omega), run_loop s (by omega) portref2_isWordByte (fun _ => rfl) i (by omega), Option.bind_some, Lp.andThen_fin, words_round s hs portref2_lower portref2_lower_val acc i hi h2, Option.bind_some]
  have hr := runE_size s i (by omega)
  have hg := runE_ge s.data.toList i
  have hh : (headW (s.data.toList.drop i)).length ≤ 1 := by unfold headW; split <;> simp
  have hw := wordsL_at s.data.toList i (by rw [data_size]; exact hi)
  rw [w64_id (n := (i : Int) + 1) (by omega) (by omega)]
  by_cases hj : i < runE s.data.toList i
  ·refine ⟨_, rfl, ⟨runE s.data.toList i, by simp only; rw [if_neg (by omega)], by omega, ?_, ?_⟩, ?_⟩
   ·rw [List.length_append]; omega
   ·rw [← h3, hw, List.append_assoc]
    congr 2
    by_cases hn : runE s.data.toList i < s.size
    ·have hb := List.getElem?_eq_getElem (l := s.data.toList) (i := runE s.data.toList i) (by rw [data_size]; exact hn)
     rw [List.drop_eq_getElem_cons (by rw [data_size]; exact hn), wordsL_skip (runE_end hb)]
    ·rw [List.drop_eq_nil_of_le (by rw [data_size]; omega), List.drop_eq_nil_of_le (by rw [data_size]; omega)]
   ·simp only; rw [if_neg (by omega)]; omega
  ·have he : runE s.data.toList i = i := by omega
   refine ⟨_, rfl, ⟨i + 1, by simp only; rw [if_pos (by omega)]; omega, by omega, ?_, ?_⟩, ?_⟩
   ·rw [List.length_append]; omega
   ·rw [← h3, hw, List.append_assoc, he]
   ·simp only; rw [if_pos (by omega)]; omega
 ·rw [if_neg (by simp; omega)]
  refine ⟨_, rfl, _, rfl, ?_⟩
  rw [List.drop_eq_nil_of_le (by rw [data_size]; omega), wordsL_nil, List.append_nil] at h3
  exact h3
end Go.Proofs.YtldkdabcdbgpbaaGreatDoor.M
namespace Go.Proofs.YtldkdabcdbgpbaaGreatDoor.M
open Go Go.Pu
set_option linter.unusedSimpArgs false
set_option linter.unusedVariables false
def az (b : UInt8) : Bool := decide (97 ≤ b.toNat) && decide (b.toNat ≤ 122)
def azSet : List UInt8 := [97, 98, 99, 100, 101, 102, 103, 104, 105, 106, 107, 108, 109, 110, 111, 112, 113, 114, 115, 116, 117, 118, 119, 120, 121, 122]
theorem az_all : ((List.range 256).all fun i => az (UInt8.ofNat i) == azSet.contains (UInt8.ofNat i)) = true := by kernel_rfl
theorem az_set (b : UInt8) : az b = azSet.contains b := by
 have h := List.all_eq_true.1 az_all b.toNat (List.mem_range.2 b.toNat_lt)
 rw [UInt8.ofNat_toNat] at h
 exact beq_iff_eq.1 h
theorem dropW_nil {α : Type} (p : α → Bool) : ∀ l : List α, l.dropWhile p = [] ↔ ∀ x ∈ l, p x = true
 | [] => by simp
 | x :: l => by
  by_cases h : p x = true
  ·simp [List.dropWhile, h, dropW_nil p l]
  ·simp [List.dropWhile, h]
theorem trimS_none (l cs : List UInt8) : Go.Lib.trimS l cs = [] ↔ ∀ x ∈ l, cs.contains x = true := by
 unfold Go.Lib.trimS Go.Lib.trimLeftS Go.Lib.trimRightS
 rw [dropW_nil]
 constructor
 ·intro h x hx
  by_cases hc : cs.contains x = true
  ·exact hc
  ·have hlr : x ∈ l.reverse := by simpa using hx
   have key : ∀ m : List UInt8, x ∈ m → x ∈ m.dropWhile (cs.contains ·) := by
    intro m
    induction m with
    | nil => intro h; cases h
    | cons y m ih =>
     intro hm
     by_cases hy : cs.contains y = true
     ·rw [List.dropWhile_cons_of_pos hy]
      rcases List.mem_cons.1 hm with rfl | hm
      ·exact absurd hy hc
      ·exact ih hm
     ·rw [List.dropWhile_cons_of_neg hy]
      exact hm
   exact h x (by simpa using key l.reverse hlr)
 ·intro h x hx
  have : x ∈ l := by
   have h1 : x ∈ l.reverse.dropWhile (cs.contains ·) := by simpa using hx
   have := (List.dropWhile_sublist (cs.contains ·)).subset h1
   simpa using this
  exact h x this
theorem suf_some (w s : ByteArray) (hw : w.size ≤ 4611686018427387904) : ∃ b, strings_HasSuffix w s = some b := by
 unfold strings_HasSuffix internal_stringslite_HasSuffix
 by_cases h : (s.size : Int) ≤ (w.size : Int)
 ·rw [if_pos (by simpa using h), w64_id (by omega) (by omega)]
  have e : ((w.size : Int) - (s.size : Int)) = ((w.size - s.size : Nat) : Int) := by omega
  rw [e, sliceS_from _ _ (by omega)]
  exact ⟨_, rfl⟩
 ·rw [if_neg (by simpa using h)]
  exact ⟨_, rfl⟩
theorem cut_some (w : ByteArray) (hw : w.size ≤ 4611686018427387904) (k : Nat) (hk : k ≤ w.size) : ∃ r, sliceS w none (some (w64 ((w.size : Int) - (k : Int)))) = some r ∧ r.size ≤ w.size := by
 have e : w64 ((w.size : Int) - (k : Int)) = ((w.size - k : Nat) : Int) := by rw [w64_id (by omega) (by omega)]; omega
 rw [e]
 refine ⟨w.extract 0 (w.size - k), ?_, by rw [ByteArray.size_extract]; omega⟩
 have := sliceS_nat w 0 (w.size - k) (Nat.zero_le _) (by omega)
 rw [← this]
 unfold sliceS bounds
 simp
theorem stem_eq (w : ByteArray) (hw : w.size ≤ 1000000000000) : ∃ r, know_Stem w = some r ∧ portref2_StemOf w = some r := by
 have hloop : ∃ o, whileB (fun s8 => if (decide (s8 < (w.size : Int))) = true then Option.bind (idxS w s8) fun x18 => Option.bind (if (decide ((x18.toNat : Int) < 97)) = true then (some true) else (some (decide ((122 : Int) < (x18.toNat : Int))))) fun s20 => if s20 = true then some (.rt w) else some (.nx (w64 (s8 + 1))) else some (.bk s8)) 0 = some o ∧ ((o = .rt w ∧ ∃ b ∈ w.data.toList, az b = false) ∨ (o = .fin ((w.size : Nat) : Int) ∧ ∀ b ∈ w.data.toList, az b = true)) := by
  refine whileB_spec (fun s => ∃ k : Nat, s = (k : Int) ∧ k ≤ w.size ∧ ∀ j b, j < k → w.data.toList[j]? = some b → az b = true) (fun s => w.size - s.toNat) _ ⟨0, rfl, Nat.zero_le _, fun j b h => by omega⟩ ?_
  rintro _ ⟨k, rfl, hk, hI⟩
  by_cases hlt : k < w.size
  ·have hx : w.data.toList[k]? = some (w.data.toList[k]'(by rw [data_size]; exact hlt)) := List.getElem?_eq_getElem (by rw [data_size]; exact hlt)
   generalize w.data.toList[k]'(by rw [data_size]; exact hlt) = b at hx
   rw [if_pos (by simpa using hlt), idxS_list, hx, Option.bind_some]
   have hb : (if (decide ((b.toNat : Int) < 97)) = true then (some true) else (some (decide ((122 : Int) < (b.toNat : Int))))) = some (!(az b)) := by
    unfold az
    by_cases h1 : b.toNat < 97
    ·rw [if_pos (by rw [decide_eq_true_eq]; omega)]
     simp [Nat.not_le.2 h1]
    ·rw [if_neg (by rw [decide_eq_true_eq]; omega)]
     have h2 : 97 ≤ b.toNat := by omega
     simp only [h2, decide_true, Bool.true_and]
     congr 1
     rw [Bool.eq_iff_iff]
     simp
     omega
   rw [hb, Option.bind_some]
   cases hz : az b with
   | false => exact ⟨_, rfl, Or.inl ⟨rfl, b, List.mem_of_getElem? hx, hz⟩⟩
   | true =>
    refine ⟨_, rfl, ⟨k + 1, ?_, by omega, fun j c hj hc => ?_⟩, ?_⟩
    ·rw [w64_id (by omega) (by omega)]; rfl
    ·rcases Nat.lt_or_eq_of_le (Nat.le_of_lt_succ hj) with h | rfl
     ·exact hI j c h hc
     ·rw [hx] at hc; cases hc; exact hz
    ·rw [w64_id (by omega) (by omega)]; omega
  ·rw [if_neg (by simpa using hlt)]
   obtain rfl : k = w.size := by omega
   refine ⟨_, rfl, Or.inr ⟨rfl, fun b hb => ?_⟩⟩
   obtain ⟨j, hj⟩ := List.mem_iff_getElem?.1 hb
   exact hI j b (by have := (List.getElem?_eq_some_iff.1 hj).1; rw [data_size] at this; exact this) hj
 have htrim : strings_Trim w (⟨#[97, 98, 99, 100, 101, 102, 103, 104, 105, 106, 107, 108, 109, 110, 111, 112, 113, 114, 115, 116, 117, 118, 119, 120, 121, 122]⟩ : ByteArray) = some ⟨(Go.Lib.trimS w.data.toList azSet).toArray⟩ := by
  unfold strings_Trim
  rw [if_pos ⟨by omega, by decide, by decide⟩]
  rfl
 have hne : (!(strEq (⟨(Go.Lib.trimS w.data.toList azSet).toArray⟩ : ByteArray) (⟨#[]⟩ : ByteArray))) = decide (∃ b ∈ w.data.toList, az b = false) := by
  have h1 : strEq (⟨(Go.Lib.trimS w.data.toList azSet).toArray⟩ : ByteArray) (⟨#[]⟩ : ByteArray) = decide (Go.Lib.trimS w.data.toList azSet = []) := by
   unfold strEq
   rw [ByteArray.toList_eq, ByteArray.toList_eq, Bool.eq_iff_iff, beq_iff_eq, decide_eq_true_eq]
  rw [h1, Bool.eq_iff_iff, Bool.not_eq_true', decide_eq_false_iff_not, decide_eq_true_eq, trimS_none]
  constructor
  ·intro h
   refine Classical.byContradiction fun hn => h fun x hx => ?_
   rw [← az_set]
   cases hz : az x with
   | true => rfl
   | false => exact absurd ⟨x, hx, hz⟩ hn
  ·rintro ⟨b, hb, hz⟩ h
   have := h b hb
   rw [← az_set, hz] at this
   cases this
 obtain ⟨o, ho, hq⟩ := hloop
 unfold know_Stem portref2_StemOf
 rw [ho, Option.bind_some, htrim]
 simp only [Option.bind_some, hne]
 rcases hq with ⟨rfl, hbad⟩ | ⟨rfl, hall⟩
 ·refine ⟨w, rfl, ?_⟩
  by_cases h4 : (w.size : Int) < 4
  ·rw [if_pos (by simpa using h4), Option.bind_some, if_pos rfl]
  ·rw [if_neg (by simpa using h4), Option.bind_some, if_pos (by simpa using hbad)]
 ·rw [Lp.andThen_fin]
  by_cases h4 : (w.size : Int) < 4
  ·rw [if_pos (by simpa using h4), if_pos (by simpa using h4)]
   exact ⟨w, rfl, rfl⟩
  have hno : ¬ ∃ b ∈ w.data.toList, az b = false := fun ⟨b, hb, hz⟩ => by rw [hall b hb] at hz; cases hz
  rw [if_neg (by simpa using h4), if_neg (by simpa using h4), Option.bind_some, if_neg (by simpa using hall)]
  unfold portref2_StemOf_1
  obtain ⟨b1, e1⟩ := suf_some w (⟨#[105, 101, 115]⟩ : ByteArray) (by omega)
  obtain ⟨b2, e2⟩ := suf_some w (⟨#[115, 115, 101, 115]⟩ : ByteArray) (by omega)
  obtain ⟨b3, e3⟩ := suf_some w (⟨#[115, 115]⟩ : ByteArray) (by omega)
  obtain ⟨b4, e4⟩ := suf_some w (⟨#[115]⟩ : ByteArray) (by omega)
  obtain ⟨b5, e5⟩ := suf_some w (⟨#[105, 110, 103]⟩ : ByteArray) (by omega)
  obtain ⟨b6, e6⟩ := suf_some w (⟨#[101, 100]⟩ : ByteArray) (by omega)
  obtain ⟨c3, f3, g3⟩ := cut_some w (by omega) 3 (by omega)
  obtain ⟨c2, f2, _⟩ := cut_some w (by omega) 2 (by omega)
  obtain ⟨c1, f1, _⟩ := cut_some w (by omega) 1 (by omega)
  have hcat : ∃ r, catS c3 (⟨#[121]⟩ : ByteArray) = some r := by
   unfold catS
   rw [if_neg (by rw [show IntKind.i64.max = 9223372036854775807 by decide, show ((⟨#[121]⟩ : ByteArray).size) = 1 from rfl]; omega)]
   exact ⟨_, rfl⟩
  obtain ⟨r3, hr3⟩ := hcat
  have f3' : sliceS w none (some (w64 ((w.size : Int) - 3))) = some c3 := f3
  have f2' : sliceS w none (some (w64 ((w.size : Int) - 2))) = some c2 := f2
  have f1' : sliceS w none (some (w64 ((w.size : Int) - 1))) = some c1 := f1
  simp only [e1, e2, e3, e4, e5, e6, f3', f2', f1', hr3, Option.bind_some]
  cases b1 <;> cases b2 <;> cases b3 <;> cases b4 <;> simp only [Bool.false_eq_true, if_false, if_true] <;> (try exact ⟨_, rfl, rfl⟩)
  split
  ·exact ⟨_, rfl, rfl⟩
  split
  ·exact ⟨_, rfl, rfl⟩
  ·exact ⟨_, rfl, rfl⟩
end Go.Proofs.YtldkdabcdbgpbaaGreatDoor.M
namespace Go.Proofs.YtldkdabcdbgpbaaGreatDoor.M
open Go Go.Pu
set_option linter.unusedSimpArgs false
set_option linter.unusedVariables false
theorem u8_lt {a b : UInt8} : a < b ↔ a.toNat < b.toNat := UInt8.lt_iff_toNat_lt
theorem cmpB_zero : ∀ a b : List UInt8, Go.Lib.compareBytes a b = 0 ↔ a = b
 | [], [] => by simp [Go.Lib.compareBytes]
 | [], _ :: _ => by simp [Go.Lib.compareBytes]
 | _ :: _, [] => by simp [Go.Lib.compareBytes]
 | a :: a1s, b :: bs => by
  rw [Go.Lib.compareBytes]
  by_cases h1 : a < b
  ·rw [if_pos h1]
   constructor
   ·intro h; cases h
   ·intro h; cases h; rw [u8_lt] at h1; omega
  ·rw [if_neg h1]
   by_cases h2 : b < a
   ·rw [if_pos h2]
    constructor
    ·intro h; cases h
    ·intro h; cases h; rw [u8_lt] at h2; omega
   ·rw [if_neg h2, cmpB_zero a1s bs]
    rw [u8_lt] at h1 h2
    have : a = b := UInt8.toNat_inj.1 (by omega)
    simp [this]
theorem cmpB_swap : ∀ a b : List UInt8, Go.Lib.compareBytes a b = -Go.Lib.compareBytes b a
 | [], [] => by simp [Go.Lib.compareBytes]
 | [], _ :: _ => by simp [Go.Lib.compareBytes]
 | _ :: _, [] => by simp [Go.Lib.compareBytes]
 | a :: a1s, b :: bs => by
  rw [Go.Lib.compareBytes, Go.Lib.compareBytes, cmpB_swap a1s bs]
  simp only [u8_lt]
  split <;> split <;> omega
theorem cmpB_trans : ∀ a b c : List UInt8, Go.Lib.compareBytes a b < 0 → Go.Lib.compareBytes b c < 0 → Go.Lib.compareBytes a c < 0
 | [], b, [], h1, h2 => by
  cases b with
  | nil => exact h1
  | cons b bs => simp [Go.Lib.compareBytes] at h2
 | [], _, _ :: _, _, _ => by simp [Go.Lib.compareBytes]
 | _ :: _, [], _, h1, _ => by simp [Go.Lib.compareBytes] at h1
 | _ :: _, _ :: _, [], _, h2 => by simp [Go.Lib.compareBytes] at h2
 | a :: a1s, b :: bs, c :: cs, h1, h2 => by
  rw [Go.Lib.compareBytes] at h1 h2 ⊢
  simp only [u8_lt] at h1 h2 ⊢
  by_cases h3 : a.toNat < b.toNat
  ·by_cases h4 : b.toNat < c.toNat
   ·rw [if_pos (by omega)]; decide
   ·rw [if_neg h4] at h2
    by_cases h5 : c.toNat < b.toNat
    ·rw [if_pos h5] at h2; omega
    ·rw [if_pos (by omega)]; decide
  ·rw [if_neg h3] at h1
   by_cases h4 : b.toNat < a.toNat
   ·rw [if_pos h4] at h1; omega
   ·rw [if_neg h4] at h1
    by_cases h5 : b.toNat < c.toNat
    ·rw [if_pos (by omega)]; decide
    ·rw [if_neg h5] at h2
     by_cases h6 : c.toNat < b.toNat
     ·rw [if_pos h6] at h2; omega
     ·rw [if_neg h6] at h2
      rw [if_neg (by omega), if_neg (by omega)]
      exact cmpB_trans a1s bs cs h1 h2
theorem less_cmp : ∀ a b : List UInt8, Op.bytesLess a b = decide (Go.Lib.compareBytes a b < 0)
 | [], [] => by simp [Go.Lib.compareBytes, Op.bytesLess]
 | [], _ :: _ => by simp [Go.Lib.compareBytes, Op.bytesLess]
 | _ :: _, [] => by simp [Go.Lib.compareBytes, Op.bytesLess]
 | a :: a1s, b :: bs => by
  rw [Go.Lib.compareBytes, Op.bytesLess, less_cmp a1s bs]
  simp only [u8_lt]
  by_cases h1 : a.toNat < b.toNat
  ·simp [h1]
  ·by_cases h2 : b.toNat < a.toNat
   ·have : a ≠ b := fun h => by subst h; omega
    simp [h1, h2, this]
   ·have : a = b := UInt8.toNat_inj.1 (by omega)
    simp [h1, h2, this]
def cmpS (a b : ByteArray) : Int := Go.Lib.compareBytes a.data.toList b.data.toList
theorem cmpS_zero (a b : ByteArray) : cmpS a b = 0 ↔ a = b := by
 unfold cmpS
 rw [cmpB_zero]
 constructor
 ·intro h
  apply ByteArray.ext
  rw [← Array.toList_inj]
  exact h
 ·rintro rfl; rfl
theorem cmpS_swap (a b : ByteArray) : cmpS a b = -cmpS b a := cmpB_swap _ _
theorem cmpS_trans {a b c : ByteArray} (h1 : cmpS a b < 0) (h2 : cmpS b c < 0) : cmpS a c < 0 := cmpB_trans _ _ _ h1 h2
theorem cmpS_self (a : ByteArray) : cmpS a a = 0 := (cmpS_zero a a).2 rfl
theorem strLt_cmp (a b : ByteArray) : strLt a b = decide (cmpS a b < 0) := by
 unfold strLt cmpS
 rw [ByteArray.toList_eq, ByteArray.toList_eq, less_cmp]
theorem strEq_cmp (a b : ByteArray) : strEq a b = decide (a = b) := by
 unfold strEq
 rw [ByteArray.toList_eq, ByteArray.toList_eq, Bool.eq_iff_iff, beq_iff_eq, decide_eq_true_eq]
 constructor
 ·intro h
  apply ByteArray.ext
  rw [← Array.toList_inj]
  exact h
 ·rintro rfl; rfl
end Go.Proofs.YtldkdabcdbgpbaaGreatDoor.M
namespace Go.Proofs.YtldkdabcdbgpbaaGreatDoor.M
open Go Go.Pu
set_option linter.unusedSimpArgs false
set_option linter.unusedVariables false
theorem mapGet_put_ {κ α : Type} [DecidableEq κ] (l : List (κ × α)) (k k' : κ) (v : α) : mapGet (mapPut l k v) k' = if k = k' then some v else mapGet l k' := by
 unfold mapPut
 by_cases h : ∃ p ∈ l, p.1 = k
 ·rw [if_pos h]
  induction l with
  | nil => obtain ⟨p, hp, _⟩ := h; simp at hp
  | cons p l ih =>
   rw [List.map_cons, mapGet, mapGet]
   by_cases hp : p.1 = k
   ·rw [if_pos hp]
    by_cases hk : k = k'
    ·rw [if_pos hk, if_pos hk]
    ·rw [if_neg hk, if_neg hk, if_neg (by rw [hp]; exact hk)]
     by_cases h2 : ∃ p ∈ l, p.1 = k
     ·rw [ih h2, if_neg hk]
     ·have : l.map (fun q => if q.1 = k then (k, v) else q) = l := by
       conv => rhs; rw [← List.map_id l]
       apply List.map_congr_left
       intro q hq
       rw [if_neg (fun e => h2 ⟨q, hq, e⟩)]
       rfl
      rw [this]
   ·rw [if_neg hp]
    have h2 : ∃ p ∈ l, p.1 = k := by
     obtain ⟨q, hq, e⟩ := h
     rcases List.mem_cons.1 hq with rfl | hq
     ·exact absurd e hp
     ·exact ⟨q, hq, e⟩
    by_cases hp' : p.1 = k'
    ·rw [if_pos hp', if_pos hp', if_neg (fun e => hp (hp'.trans e.symm))]
    ·rw [if_neg hp', if_neg hp', ih h2]
 ·rw [if_neg h]
  induction l with
  | nil => simp [mapGet]
  | cons p l ih =>
   have hp : p.1 ≠ k := fun e => h ⟨p, by simp, e⟩
   have h2 : ¬ ∃ p ∈ l, p.1 = k := fun ⟨q, hq, e⟩ => h ⟨q, by simp [hq], e⟩
   rw [List.cons_append, mapGet, mapGet, ih h2]
   by_cases hp' : p.1 = k'
   ·rw [if_pos hp', if_pos hp', if_neg (fun e => hp (hp'.trans e.symm))]
   ·rw [if_neg hp', if_neg hp']
end Go.Proofs.YtldkdabcdbgpbaaGreatDoor.M
