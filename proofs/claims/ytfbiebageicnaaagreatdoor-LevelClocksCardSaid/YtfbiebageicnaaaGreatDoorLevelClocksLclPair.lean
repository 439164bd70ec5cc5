import Derived.Test.YtfbiebageicnaaaGreatDoorLevelClocksLclTurn
namespace Go.Proofs.YtfbiebageicnaaaGreatDoor.M
open Go Go.Pu
set_option linter.unusedSimpArgs false
set_option linter.unusedVariables false
def Pair {α β : Type} (P : α → β → Prop) (l : List α) (m : List β) : Prop := l.length = m.length ∧ ∀ (k : Nat) (x : α) (y : β), l[k]? = some x → m[k]? = some y → P x y
theorem Pair.nil {α β : Type} (P : α → β → Prop) : Pair P ([] : List α) ([] : List β) := ⟨rfl, fun k x y h => by simp at h⟩
theorem Pair.imp {α β : Type} {P Q : α → β → Prop} {l : List α} {m : List β} (h : Pair P l m) (hi : ∀ x y, P x y → Q x y) : Pair Q l m := ⟨h.1, fun k x y h1 h2 => hi _ _ (h.2 k x y h1 h2)⟩
theorem Pair.snoc {α β : Type} {P : α → β → Prop} {l : List α} {m : List β} (h : Pair P l m) {x : α} {y : β} (hx : P x y) : Pair P (l ++ [x]) (m ++ [y]) := by
 refine ⟨by simp [h.1], fun k a b h1 h2 => ?_⟩
 by_cases hk : k < l.length
 ·rw [List.getElem?_append_left hk] at h1
  rw [List.getElem?_append_left (by rw [← h.1]; exact hk)] at h2
  exact h.2 k a b h1 h2
 ·rw [List.getElem?_append_right (by omega)] at h1
  rw [List.getElem?_append_right (by rw [← h.1]; omega)] at h2
  by_cases h0 : k - l.length = 0
  ·rw [h0] at h1
   rw [← h.1, h0] at h2
   simp at h1 h2
   subst h1
   subst h2
   exact hx
  ·obtain ⟨j, hj⟩ : ∃ j, k - l.length = j + 1 := ⟨k - l.length - 1, by omega⟩
   rw [hj] at h1
   simp at h1
theorem set_same {α : Type} {l : List α} {k : Nat} {x : α} (h : l[k]? = some x) : l.set k x = l := by
 apply List.ext_getElem?
 intro j
 by_cases hj : k = j
 ·subst hj
  rw [List.getElem?_set_self (List.getElem?_eq_some_iff.1 h).1, h]
 ·rw [List.getElem?_set_ne hj]
theorem loop_each {α R : Type} (l : List α) (g : α → Option α) {b : Nat → List α → Option (Ctl (List α) R)} (hb : ∀ (k : Nat) (s : List α) (x : α), s[k]? = some x → b k s = Option.bind (g x) fun y => some (.nx (s.set k y)))
  (hg : ∀ (k : Nat) (x : α), l[k]? = some x → ∃ y, g x = some y) : ∃ l', rangeB b l.length 0 l = some (.fin l') ∧ l'.length = l.length ∧ ∀ (k : Nat) (x y : α), l[k]? = some x → l'[k]? = some y → g x = some y := by
 obtain ⟨t, h1, h2, h3, h4⟩ := rangeB_inv (b := b) l.length (fun k t => t.length = l.length ∧ (∀ (j : Nat) (x y : α), j < k → l[j]? = some x → t[j]? = some y → g x = some y) ∧ ∀ j, k ≤ j → t[j]? = l[j]?) (s := l) ⟨rfl, fun j _ _ hj => by omega, fun _ _ => rfl⟩ fun k t hk ⟨i1, i2, i3⟩ => by
  have hx : l[k]? = some l[k] := List.getElem?_eq_getElem hk
  obtain ⟨y, hy⟩ := hg k _ hx
  refine ⟨t.set k y, by rw [hb k t _ ((i3 k (Nat.le_refl _)).trans hx), hy]; rfl, by rw [List.length_set]; exact i1, fun j x z hj hjx hjz => ?_, fun j hj => by rw [List.getElem?_set_ne (by omega)]; exact i3 j (by omega)⟩
  by_cases h : j = k
  ·subst h
   rw [hx] at hjx
   rw [List.getElem?_set_self (by omega)] at hjz
   obtain rfl := Option.some.inj hjx
   obtain rfl := Option.some.inj hjz
   exact hy
  ·rw [List.getElem?_set_ne (fun e => h e.symm)] at hjz
   exact i2 j x z (by omega) hjx hjz
 exact ⟨t, h1, h2, fun k x y hx hy => h3 k x y (List.getElem?_eq_some_iff.1 hx).1 hx hy⟩
theorem pair_loops {α β R S : Type} {P Q : α → β → Prop} {l : List α} {m : List β} (hp : Pair P l m) (g1 : α → Option α) (g2 : β → Option β) (hE : ∀ x y, P x y → ∃ x' y', g1 x = some x' ∧ g2 y = some y' ∧ Q x' y')
  {b1 : Nat → List α → Option (Ctl (List α) R)} {b2 : Nat → List β → Option (Ctl (List β) S)} (h1 : ∀ (k : Nat) (s : List α) (x : α), s[k]? = some x → b1 k s = Option.bind (g1 x) fun y => some (.nx (s.set k y)))
  (h2 : ∀ (k : Nat) (s : List β) (x : β), s[k]? = some x → b2 k s = Option.bind (g2 x) fun y => some (.nx (s.set k y))) :
  ∃ l' m', rangeB b1 l.length 0 l = some (.fin l') ∧ rangeB b2 m.length 0 m = some (.fin m') ∧ Pair Q l' m' ∧ l'.length = l.length := by
 obtain ⟨l', e1, e2, e3⟩ := loop_each l g1 h1 fun k x hx => by
  have hk := (List.getElem?_eq_some_iff.1 hx).1
  have hy : m[k]? = some (m[k]'(by rw [← hp.1]; exact hk)) := List.getElem?_eq_getElem _
  obtain ⟨x', _, h, _⟩ := hE _ _ (hp.2 k _ _ hx hy)
  exact ⟨x', h⟩
 obtain ⟨m', f1, f2, f3⟩ := loop_each m g2 h2 fun k y hy => by
  have hk := (List.getElem?_eq_some_iff.1 hy).1
  have hx : l[k]? = some (l[k]'(by rw [hp.1]; exact hk)) := List.getElem?_eq_getElem _
  obtain ⟨_, y', _, h, _⟩ := hE _ _ (hp.2 k _ _ hx hy)
  exact ⟨y', h⟩
 refine ⟨l', m', e1, f1, ⟨by rw [e2, f2, hp.1], fun k x' y' hx' hy' => ?_⟩, e2⟩
 have hk := (List.getElem?_eq_some_iff.1 hx').1
 have hx : l[k]? = some (l[k]'(by rw [← e2]; exact hk)) := List.getElem?_eq_getElem _
 have hy : m[k]? = some (m[k]'(by rw [← hp.1, ← e2]; exact hk)) := List.getElem?_eq_getElem _
 obtain ⟨a, b, ha, hb, hq⟩ := hE _ _ (hp.2 k _ _ hx hy)
 have h3 := e3 k _ _ hx hx'
 have h4 := f3 k _ _ hy hy'
 rw [ha] at h3
 rw [hb] at h4
 obtain rfl := Option.some.inj h3
 obtain rfl := Option.some.inj h4
 exact hq
theorem each_loop {S : Type} {P Q : level_running → portref2_ticking → Prop} {cs : List level_running} {ts : List portref2_ticking} (hp : Pair P cs ts) (step : level_running → Option level_running) (g : portref2_ticking → Option portref2_ticking)
  (hE : ∀ x y, P x y → ∃ x' y', (if (x.clock.end_ == 0) = true then step x else some x) = some x' ∧ g y = some y' ∧ Q x' y') {b : Nat → List portref2_ticking → Option (Ctl (List portref2_ticking) S)}
  (hb : ∀ (k : Nat) (s : List portref2_ticking) (x : portref2_ticking), s[k]? = some x → b k s = Option.bind (g x) fun y => some (.nx (s.set k y))) :
  ∃ cs' ts', level_keeper_each step cs = some cs' ∧ rangeB b ts.length 0 ts = some (.fin ts') ∧ Pair Q cs' ts' ∧ cs'.length = cs.length := by
 obtain ⟨cs', ts', e1, e2, e3, e4⟩ := pair_loops (R := Empty) hp (fun x => if (x.clock.end_ == 0) = true then step x else some x) g hE (b1 := fun k s => Option.bind (idx s (k : Int)) fun x => if (x.clock.end_ == 0) = true then Option.bind (step x) fun y => some (.nx (List.set s k y)) else some (.nx s)) (fun k s x hx => by
  simp only [idx_nat, hx, Option.bind_some]
  split
  ·rfl
  ·rw [Option.bind_some, set_same hx]) hb
 refine ⟨cs', ts', ?_, e2, e3, e4⟩
 unfold level_keeper_each
 rw [e1]
 rfl
theorem contains_some (s : List Int) (v : Int) : ∃ b, slices_Contains_Lint_int s v = some b := by
 unfold slices_Contains_Lint_int slices_Index_Lint_int
 obtain ⟨r, h1, _⟩ := rangeB_spec (body := fun k6 (_ : Unit) => Option.bind (idx s (k6 : Int)) fun x21 => if (v == x21) = true then some (Ctl.rt (k6 : Int)) else some (Ctl.nx ())) s.length (fun _ _ => True) (fun _ => True) (s := ()) trivial (fun k _ hk _ => by
  rw [idx_lt _ _ hk, Option.bind_some]
  split <;> exact ⟨_, rfl, trivial⟩) (fun _ _ => trivial)
 rw [h1]
 cases r <;> exact ⟨_, rfl⟩
theorem any_find {α : Type} (s : List α) (q : α → Bool) : s.findIdx? q = none ∧ s.any q = false ∨ ∃ i : Nat, s.findIdx? q = some i ∧ s.any q = true := by
 cases h : s.findIdx? q with
 | none =>
  refine .inl ⟨rfl, ?_⟩
  rw [List.findIdx?_eq_none_iff] at h
  rw [List.any_eq_false]
  intro x hx
  rw [h x hx]
  decide
 | some i =>
  refine .inr ⟨i, rfl, ?_⟩
  rw [List.findIdx?_eq_some_iff_getElem] at h
  obtain ⟨hi, h1, _⟩ := h
  rw [List.any_eq_true]
  exact ⟨_, List.getElem_mem hi, h1⟩
def runR (kinds : List Int) (r : level_running) : Bool := (level_keeper_runs_1 r kinds).getD false
def runT (kinds : List Int) (t : portref2_ticking) : Bool := (portref2_ClocksOf_1_1 t kinds).getD false
theorem runR_val (kinds : List Int) (r : level_running) : level_keeper_runs_1 r kinds = some (runR kinds r) := by
 unfold runR level_keeper_runs_1
 obtain ⟨b, hb⟩ := contains_some kinds r.clock.kind
 rw [hb]
 split <;> rfl
theorem runT_val (kinds : List Int) (t : portref2_ticking) : portref2_ClocksOf_1_1 t kinds = some (runT kinds t) := by
 unfold runT portref2_ClocksOf_1_1
 obtain ⟨b, hb⟩ := contains_some kinds t.c.kind
 rw [hb]
 split <;> rfl
theorem runs_val (p : level_Policy) (n : Int) (cs : List level_running) (kinds : List Int) : level_keeper_runs ⟨p, n, cs⟩ kinds = some (cs.any (runR kinds)) := by
 unfold level_keeper_runs slices_ContainsFunc_L_level_running_level_running slices_IndexFunc_L_level_running_level_running
 have e : (fun y => level_keeper_runs_1 y kinds) = fun y => some (runR kinds y) := funext fun y => runR_val kinds y
 rw [e, rangeB_index]
 rcases any_find cs (runR kinds) with ⟨h1, h2⟩ | ⟨i, h1, h2⟩
 ·simp only [h1, h2]
  rfl
 ·simp only [h1, h2]
  simp [Lp.andThen]
theorem runsT_val (ts : List portref2_ticking) (kinds : List Int) : portref2_ClocksOf_1 kinds ts = some (ts.any (runT kinds)) := by
 unfold portref2_ClocksOf_1 slices_ContainsFunc_L_portref2_ticking_portref2_ticking slices_IndexFunc_L_portref2_ticking_portref2_ticking
 have e : (fun y => portref2_ClocksOf_1_1 y kinds) = fun y => some (runT kinds y) := funext fun y => runT_val kinds y
 rw [e, rangeB_index]
 rcases any_find ts (runT kinds) with ⟨h1, h2⟩ | ⟨i, h1, h2⟩
 ·simp only [h1, h2]
  rfl
 ·simp only [h1, h2]
  simp [Lp.andThen]
theorem runs_eq {T : Int} {m : Nat} {cs : List level_running} {ts : List portref2_ticking} (hp : Pair (Sm T m) cs ts) (kinds : List Int) : ts.any (runT kinds) = cs.any (runR kinds) := by
 have key : ∀ (k : Nat) (r : level_running) (t : portref2_ticking), cs[k]? = some r → ts[k]? = some t → runT kinds t = runR kinds r := by
  intro k r t hr ht
  have h := hp.2 k _ _ hr ht
  unfold runT runR portref2_ClocksOf_1_1 level_keeper_runs_1
  rw [h.alive, h.kind]
 rw [Bool.eq_iff_iff, List.any_eq_true, List.any_eq_true]
 constructor
 ·rintro ⟨t, ht, h⟩
  obtain ⟨k, hk⟩ := List.getElem?_of_mem ht
  have hl := (List.getElem?_eq_some_iff.1 hk).1
  have hx : cs[k]? = some (cs[k]'(by rw [hp.1]; exact hl)) := List.getElem?_eq_getElem _
  exact ⟨_, List.mem_of_getElem? hx, by rw [← key k _ _ hx hk]; exact h⟩
 ·rintro ⟨r, hr, h⟩
  obtain ⟨k, hk⟩ := List.getElem?_of_mem hr
  have hl := (List.getElem?_eq_some_iff.1 hk).1
  have hx : ts[k]? = some (ts[k]'(by rw [← hp.1]; exact hl)) := List.getElem?_eq_getElem _
  exact ⟨_, List.mem_of_getElem? hx, by rw [key k _ _ hk hx]; exact h⟩
end Go.Proofs.YtfbiebageicnaaaGreatDoor.M
