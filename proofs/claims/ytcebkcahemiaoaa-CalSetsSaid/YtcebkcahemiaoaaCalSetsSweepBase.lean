/-
  The sweep over spans' ends, and its reference by cuts: plain part.
-/
import Derived.Test.YtcebkcahemiaoaaCalSetsM
import Derived.Test.YtcebkcahemiaoaaPl
import Derived.Lib.SlicesCompact
namespace Go.Proofs.Ytcebkcahemiaoaa.M
open Go Go.Pu
set_option linter.unusedSimpArgs false
set_option linter.unusedVariables false

def flatK {α β : Type} (f : Nat → α → List β) : Nat → List α → List β
  | _, [] => []
  | k, x :: l => f k x ++ flatK f (k + 1) l
theorem flatK_map {α β γ : Type} (g : β → γ) (f : Nat → α → List β) (l : List α) : ∀ k, (flatK f k l).map g = flatK (fun k x => (f k x).map g) k l := by
  induction l with
  | nil => intro k; rfl
  | cons x l ih => intro k; rw [flatK, flatK, List.map_append, ih]
theorem flatK_congr {α β : Type} {f g : Nat → α → List β} (l : List α) (h : ∀ k, ∀ x ∈ l, f k x = g k x) : ∀ k, flatK f k l = flatK g k l := by
  induction l with
  | nil => intro k; rfl
  | cons x l ih => intro k; rw [flatK, flatK, h k x (by simp), ih (fun k y hy => h k y (by simp [hy]))]
theorem rangeB_flat {α β R : Type} (l : List α) (f : Nat → α → List β) (lim : Nat) (b : Nat → List β → Option (Ctl (List β) R))
    (hb : ∀ k x s, l[k]? = some x → s.length + (f k x).length ≤ lim → b k s = some (.nx (s ++ f k x))) (s : List β) (hlen : s.length + (flatK f 0 l).length ≤ lim) :
    rangeB b l.length 0 s = some (.fin (s ++ flatK f 0 l)) := by
  have key : ∀ (m : List α) (k : Nat) (s : List β), l.drop k = m → s.length + (flatK f k m).length ≤ lim → rangeB b m.length k s = some (.fin (s ++ flatK f k m)) := by
    intro m
    induction m with
    | nil => intro k s _ _; simp [rangeB, flatK]
    | cons x m ih =>
      intro k s hd hl
      have hx : l[k]? = some x := by
        have := congrArg (fun q => q[0]?) hd
        simpa using this
      have hm : l.drop (k + 1) = m := by
        have := congrArg List.tail hd
        simpa using this
      rw [flatK, List.length_append] at hl
      rw [List.length_cons, rangeB, hb k x s hx (by omega)]
      have := ih (k + 1) (s ++ f k x) hm (by rw [List.length_append]; omega)
      simp only [this]
      rw [flatK, List.append_assoc]
  exact key l 0 s rfl hlen

/-- a span's two ends as edges -/
def ends2 (k : Nat) (s : cal_Span) : List cal_edge := [⟨s.from_, (k : Int), 1⟩, ⟨s.to_, (k : Int), -1⟩]
def edgesL (lists : List (List cal_Span)) : List cal_edge := flatK (fun k x => flatK (fun _ s => ends2 k s) 0 x) 0 lists
def pointsL (lists : List (List cal_Span)) : List Int := flatK (fun _ x => flatK (fun _ (s : cal_Span) => [s.from_, s.to_]) 0 x) 0 lists
theorem edges_at (lists : List (List cal_Span)) : (edgesL lists).map (·.at_) = pointsL lists := by
  unfold edgesL pointsL
  rw [flatK_map]
  exact flatK_congr _ (fun k x _ => by rw [flatK_map]; rfl) 0
theorem edges_len (lists : List (List cal_Span)) : (edgesL lists).length = (pointsL lists).length := by
  rw [← edges_at, List.length_map]

/-- lists' counts: what the first edges of a list say -/
def cnt (k : Nat) : List cal_edge → Int
  | [] => 0
  | e :: l => (if e.list_ = (k : Int) then e.by_ else 0) + cnt k l
def val (k : Nat) (a : Int) : List cal_edge → Int
  | [] => 0
  | e :: l => (if e.list_ = (k : Int) ∧ e.at_ ≤ a then e.by_ else 0) + val k a l
theorem cnt_append (k : Nat) (l m : List cal_edge) : cnt k (l ++ m) = cnt k l + cnt k m := by
  induction l with
  | nil => simp [cnt]
  | cons e l ih => rw [List.cons_append, cnt, cnt, ih]; omega
theorem val_append (k : Nat) (a : Int) (l m : List cal_edge) : val k a (l ++ m) = val k a l + val k a m := by
  induction l with
  | nil => simp [val]
  | cons e l ih => rw [List.cons_append, val, val, ih]; omega
theorem val_perm (k : Nat) (a : Int) {l m : List cal_edge} (h : l.Perm m) : val k a l = val k a m := by
  induction h with
  | nil => rfl
  | cons x _ ih => rw [val, val, ih]
  | swap x y l => simp only [val]; omega
  | trans _ _ h1 h2 => rw [h1, h2]
theorem val_low (k : Nat) (a : Int) (l : List cal_edge) (h : ∀ e ∈ l, e.at_ ≤ a) : val k a l = cnt k l := by
  induction l with
  | nil => rfl
  | cons e l ih =>
    rw [val, cnt, ih (fun x hx => h x (by simp [hx]))]
    have := h e (by simp)
    simp [this]
theorem val_high (k : Nat) (a : Int) (l : List cal_edge) (h : ∀ e ∈ l, a < e.at_) : val k a l = 0 := by
  induction l with
  | nil => rfl
  | cons e l ih =>
    rw [val, ih (fun x hx => h x (by simp [hx])), if_neg (by have := h e (by simp); omega)]
    rfl
theorem cnt_bound (k : Nat) (l : List cal_edge) (h : ∀ e ∈ l, e.by_ = 1 ∨ e.by_ = -1) : -(l.length : Int) ≤ cnt k l ∧ cnt k l ≤ l.length := by
  induction l with
  | nil => simp [cnt]
  | cons e l ih =>
    rw [cnt, List.length_cons]
    have h1 := ih (fun x hx => h x (by simp [hx]))
    have h2 := h e (by simp)
    split <;> omega
/-- how many spans hold the moment -/
def opened (a : Int) (l : List cal_Span) : Int := ((l.filter fun s => decide (s.from_ ≤ a ∧ a < s.to_)).length : Int)
theorem val_list (k j : Nat) (a : Int) (l : List cal_Span) (hl : ∀ s ∈ l, s.from_ < s.to_) : ∀ i, val k a (flatK (fun _ s => ends2 j s) i l) = if j = k then opened a l else 0 := by
  induction l with
  | nil => intro i; simp [flatK, val, opened]
  | cons s l ih =>
    intro i
    rw [flatK, val_append, ih (fun x hx => hl x (by simp [hx])) (i + 1)]
    have hs := hl s (by simp)
    unfold ends2 opened
    simp only [val, List.filter_cons, Int.natCast_inj]
    by_cases hjk : j = k
    · simp only [hjk, true_and, if_true]
      by_cases c1 : s.from_ ≤ a
      · by_cases c2 : a < s.to_
        · simp [c1, c2, show ¬ s.to_ ≤ a by omega]; omega
        · simp [c1, c2, show s.to_ ≤ a by omega]
      · simp [c1, show ¬ s.to_ ≤ a by omega]
    · simp [hjk]
theorem val_lists (k : Nat) (a : Int) (lists : List (List cal_Span)) (hl : ∀ l ∈ lists, ∀ s ∈ l, s.from_ < s.to_) : ∀ m, val k a (flatK (fun k x => flatK (fun _ s => ends2 k s) 0 x) m lists) = if m ≤ k then ((lists[k - m]?.map (opened a)).getD 0) else 0 := by
  induction lists with
  | nil => intro m; simp [flatK, val]
  | cons l r ih =>
    intro m
    rw [flatK, val_append, ih (fun x hx => hl x (by simp [hx])) (m + 1), val_list k m a l (hl l (by simp))]
    by_cases h1 : m = k
    · subst h1; simp [show ¬ (m + 1 ≤ m) by omega]
    · by_cases h2 : m < k
      · have e : k - m = (k - (m + 1)) + 1 := by omega
        rw [if_neg h1, if_pos (by omega), if_pos (by omega), e]
        simp
      · rw [if_neg h1, if_neg (by omega), if_neg (by omega)]; rfl
/-- all lists' counts at a moment -/
def countsAt (lists : List (List cal_Span)) (a : Int) : List Int := lists.map (opened a)
def cntsOf (n : Nat) (l : List cal_edge) : List Int := (List.range n).map fun k => cnt k l
theorem cntsOf_len (n : Nat) (l : List cal_edge) : (cntsOf n l).length = n := by simp [cntsOf]
theorem cntsOf_nil (n : Nat) : cntsOf n [] = List.replicate n 0 := by
  unfold cntsOf
  apply List.ext_getElem
  · simp
  · intro i h1 h2; simp [cnt]
theorem cntsOf_snoc (n : Nat) (l : List cal_edge) (e : cal_edge) (k : Nat) (hk : k < n) (he : e.list_ = (k : Int)) : (cntsOf n l).set k (cnt k l + e.by_) = cntsOf n (l ++ [e]) := by
  unfold cntsOf
  apply List.ext_getElem
  · simp
  · intro i h1 h2
    have hi : i < n := by simpa using h2
    rw [List.getElem_set]
    simp only [List.getElem_map, List.getElem_range, cnt_append, cnt, he, Int.natCast_inj]
    by_cases h : k = i
    · simp [h]
    · simp [h]
theorem counts_at (lists : List (List cal_Span)) (hl : ∀ l ∈ lists, ∀ s ∈ l, s.from_ < s.to_) {E : List cal_edge} (hp : E.Perm (edgesL lists)) (a : Int) {p q : List cal_edge} (he : E = p ++ q) (h1 : ∀ e ∈ p, e.at_ ≤ a) (h2 : ∀ e ∈ q, a < e.at_) : cntsOf lists.length p = countsAt lists a := by
  unfold cntsOf countsAt
  apply List.ext_getElem
  · simp
  · intro i g1 g2
    have hi : i < lists.length := by simpa using g2
    simp only [List.getElem_map, List.getElem_range]
    have e1 := val_perm i a hp
    rw [he, val_append, val_low i a p h1, val_high i a q h2] at e1
    have e2 := val_lists i a lists hl 0
    unfold edgesL at e1
    rw [e2] at e1
    simpa [List.getElem?_eq_getElem hi] using e1

/-- uniq -/
def uniqA : Option Int → List Int → List Int
  | _, [] => []
  | p, a :: l => if p = some a then uniqA p l else a :: uniqA (some a) l
theorem uniqA_snoc (l : List Int) (x : Int) : ∀ p, uniqA p (l ++ [x]) = uniqA p l ++ (if l.getLast?.or p = some x then [] else [x]) := by
  induction l with
  | nil => intro p; by_cases h : p = some x <;> simp [uniqA, h]
  | cons a l ih =>
    intro p
    rw [List.cons_append, uniqA, uniqA]
    by_cases h : p = some a
    · rw [if_pos h, if_pos h, ih]
      congr 2
      rw [List.getLast?_cons, h]
      cases l.getLast? <;> simp
    · rw [if_neg h, if_neg h, ih, List.cons_append]
      congr 3
      rw [List.getLast?_cons]
      cases l.getLast? <;> simp
theorem compact_uniq (l : List Int) : Go.Lib.compact l = uniqA none l := by
  have key : ∀ m, m ≤ l.length → Go.Lib.compactUpTo l.toArray m = uniqA none (l.take m) := by
    intro m
    induction m with
    | zero => intro _; simp [Go.Lib.compactUpTo, uniqA]
    | succ m ih =>
      intro hm
      have hg : l.toArray[m]! = l[m] := by rw [getElem!_pos _ m (by simpa using (show m < l.length by omega))]; simp
      rw [Go.Lib.compactUpTo_succ, ih (by omega), List.take_add_one, List.getElem?_eq_getElem (by omega), Option.toList_some, uniqA_snoc, hg]
      congr 1
      rw [List.getLast?_take]
      cases m with
      | zero => simp [Go.Lib.keeps]
      | succ m =>
        have hg' : l.toArray[m]! = l[m] := by rw [getElem!_pos _ m (by simpa using (show m < l.length by omega))]; simp
        have hk : Go.Lib.keeps l.toArray (m + 1) = decide (l[m + 1] ≠ l[m]) := by
          unfold Go.Lib.keeps
          rw [hg, Nat.add_sub_cancel, hg']
          simp
        have h1 : l[m + 1 - 1]? = some l[m] := by rw [Nat.add_sub_cancel, List.getElem?_eq_getElem (by omega)]
        rw [hk, h1]
        by_cases e : l[m + 1] = l[m]
        · simp [e]
        · have e' : ¬ l[m] = l[m + 1] := fun h => e h.symm
          simp [e, e']
  have := key l.length (Nat.le_refl _)
  rw [List.take_length] at this
  exact this

/-- a span that prolongs the last one, or a new one -/
def stepJ (out : List cal_Span) (a b : Int) : List cal_Span := match out.getLast? with
  | some s => if s.to_ = a then out.dropLast ++ [⟨s.from_, b⟩] else out ++ [⟨a, b⟩]
  | none => [⟨a, b⟩]
theorem stepJ_len (out : List cal_Span) (a b : Int) : (stepJ out a b).length ≤ out.length + 1 := by
  unfold stepJ
  rcases List.eq_nil_or_concat out with rfl | ⟨l, x, rfl⟩
  · simp
  · rw [List.concat_eq_append, List.getLast?_concat]
    simp only
    split <;> simp
def mergeF (holds : Int → Bool) : List Int → List cal_Span → List cal_Span
  | a :: b :: r, out => mergeF holds (b :: r) (if holds a then stepJ out a b else out)
  | _, out => out
end Go.Proofs.Ytcebkcahemiaoaa.M
