import Derived.Test.YtiblagcmjobknaaGreatDoorTopTakenTkB
import Derived.Test.YtiblagcmjobknaaGreatDoorPm
namespace Go.Proofs.YtiblagcmjobknaaGreatDoor.M
open Go Go.Pu
set_option linter.unusedSimpArgs false
set_option linter.unusedVariables false
def Does (people : List zd) (cals : List zg) (steps : List zk) (m : Int) (do_ : ze → Option (Int × ze)) (Post : ze → ze → Prop) : Prop :=
 ∀ R, RInv people cals steps m R → ∃ e R', do_ R = some (e, R') ∧ ((e ≠ 0 ∧ R' = R) ∨ (e = 0 ∧ RInv people cals steps m R' ∧ R'.now = R.now ∧ (∀ h ∈ R.held, zw R'.work h.ticket = zw R.work h.ticket) ∧ Post R R'))
section
variable {people : List zd} {cals : List zg} {steps : List zk} {t m : Int} {R : ze}
structure zja (people : List zd) (cals : List zg) (steps : List zk) (R : ze) (m : Int) (out : List zb) (n : Int) (S : ze) (t : Int) : Prop where
 at_ : R.now ≤ t ∧ t ≤ m
 inv : RInv people cals steps t S
 next : n = -1 ∨ t < n
 asg : S.assigner = R.assigner
 now : S.now = R.now
 work : S.work = R.work
 held : S.held = R.held ++ out
 given : ∀ x ∈ out, zdE people cals steps R.work x
theorem ziz (ho : RtOK people cals steps) (h : RInv people cals steps t R) (hm : 0 ≤ t ∧ t ≤ 3000000) : ∃ n, qc R t = some n ∧ (n = -1 ∨ t < n) := by
 obtain ⟨n, e, h1⟩ := zkW ho h t hm
 refine ⟨n, e, ?_⟩
 rcases h1 with ⟨_, h1⟩ | ⟨_, h1⟩
 ·exact .inl h1
 ·exact h1.1.imp id fun h => h.1
theorem zjQ (ho : RtOK people cals steps) (h : RInv people cals steps R.now R) (hn : 0 ≤ R.now) (hm : m ≤ 3000000) (hnm : R.now ≤ m) {n0 : Int} (h0 : n0 = -1 ∨ R.now < n0) :
  ∃ out n S t, QT (R := List zb × Int × ze) (fun s49 => if ((decide ((0 : Int) ≤ s49.2.1)) && (decide (s49.2.1 ≤ m))) = true then Option.bind (qr s49.2.2 s49.2.1) fun x78 => Option.bind (zt 4398046511104 s49.1 x78.1) fun x98 => Option.bind (qc x78.2 s49.2.1) fun x104 => some (.nx (x98, x104, x78.2)) else some (.bk (s49.1, s49.2.1, s49.2.2))) (([] : (List zb)), n0, R) = some (.fin (out, n, S)) ∧ zja people cals steps R m out n S t := by
 obtain ⟨r, e, s, rfl, t, hg⟩ := zar (R := List zb × Int × ze) (body := fun s49 => if ((decide ((0 : Int) ≤ s49.2.1)) && (decide (s49.2.1 ≤ m))) = true then Option.bind (qr s49.2.2 s49.2.1) fun x78 => Option.bind (zt 4398046511104 s49.1 x78.1) fun x98 => Option.bind (qc x78.2 s49.2.1) fun x104 => some (.nx (x98, x104, x78.2)) else some (.bk (s49.1, s49.2.1, s49.2.2)))
  (fun s => ∃ t, zja people cals steps R m s.1 s.2.1 s.2.2 t) (fun s => if s.2.1 < 0 then 0 else (3000001 - s.2.1).toNat) (fun r => ∃ s, r = .fin s ∧ ∃ t, zja people cals steps R m s.1 s.2.1 s.2.2 t) (s := (([] : (List zb)), n0, R))
  ⟨R.now, ⟨Int.le_refl _, hnm⟩, h, h0, rfl, rfl, rfl, (List.append_nil _).symm, fun x hx => by cases hx⟩
  (by
   rintro ⟨out, n, S⟩ ⟨t, hg⟩
   dsimp only at hg ⊢
   by_cases hc : 0 ≤ n ∧ n ≤ m
   ·rw [if_pos (by simpa using hc)]
    have htn : t < n := by rcases hg.next with h | h <;> omega
    have ht := hg.at_
    obtain ⟨o2, S2, d1, d2, d3, d4, d5, d6, d7, d8⟩ := zhW ho hg.inv (m := n) (by omega) (by omega)
    obtain ⟨n2, e1, e2⟩ := ziz ho d2 (by omega)
    have hh : S2.held = R.held ++ (out ++ o2) := by rw [d6, hg.held, List.append_assoc]
    have hl := d2.hlen
    have hap : zt 4398046511104 out o2 = some (out ++ o2) := by
     unfold zt
     rw [hh, List.length_append, List.length_append] at hl
     rw [if_pos (by omega)]
    rw [d1, Option.bind_some]
    dsimp only
    rw [hap, Option.bind_some, e1, Option.bind_some]
    refine ⟨_, rfl, ⟨n, ⟨by omega, hc.2⟩, d2, e2, d3.trans hg.asg, d4.trans hg.now, d5.trans hg.work, hh, fun x hx => ?_⟩, ?_⟩
    ·rcases List.mem_append.1 hx with h1 | h1
     ·exact hg.given x h1
     ·have := d7 x h1
      rw [hg.work] at this
      exact this
    ·dsimp only
     rw [if_neg (show ¬ n < 0 by omega)]
     split <;> omega
   ·rw [if_neg (by simpa using hc)]
    exact ⟨_, rfl, _, rfl, t, hg⟩)
 exact ⟨s.1, s.2.1, s.2.2, t, e, hg⟩
theorem zkH (ho : RtOK people cals steps) (h : RInv people cals steps R.now R) (hn : 0 ≤ R.now) (hm : 0 ≤ m ∧ m ≤ 3000000) (hnm : R.now ≤ m) {do_ : ze → Option (Int × ze)} {Post : ze → ze → Prop} (hd : Does people cals steps m do_ Post) :
  ∃ gv e R', ZU R m do_ = some (gv, e, R') ∧ ((e ≠ 0 ∧ gv = [] ∧ R' = R) ∨ (e = 0 ∧ RInv people cals steps m R' ∧ R'.now = m ∧ Idle people cals steps m R' ∧ (∀ x ∈ gv, zdE people cals steps R'.work x) ∧
   ∃ S S', S.assigner = R.assigner ∧ S.work = R.work ∧ Post S S' ∧ R'.assigner = S'.assigner ∧ R'.work = S'.work)) := by
 have hw : (!(zm m 0 3000000)) = false := by simp [zm, hm.1, hm.2]
 have hlt : decide (m < R.now) = false := decide_eq_false (by omega)
 obtain ⟨n0, e0, h0⟩ := ziz ho h (by omega)
 obtain ⟨out, n, S, t, e1, hg⟩ := zjQ ho h hn hm.2 hnm h0
 obtain ⟨e, S', e2, h2⟩ := hd S (hg.inv.mono hg.at_.2)
 unfold ZU
 rw [hw]
 simp only [Bool.false_eq_true, if_false, hlt]
 rw [e0, Option.bind_some, e1, Option.bind_some, Lp.andThen_fin]
 dsimp only
 rw [e2, Option.bind_some]
 rcases h2 with ⟨he, rfl⟩ | ⟨rfl, i1, i2, i3, i4⟩
 ·rw [if_pos (by simpa using he)]
  refine ⟨_, _, _, rfl, .inl ⟨he, rfl, ?_⟩⟩
  dsimp only
  rw [hg.asg, hg.now, hg.work]
 ·rw [if_neg (by simp)]
  dsimp only
  obtain ⟨o2, S2, d1, d2, d3, d4, d5, d6, d7, d8⟩ := zhW ho (i1.now m) hm (Int.le_refl _)
  dsimp only at d3 d4 d5 d6 d7
  have hl := d2.hlen
  have hlo : out.length ≤ 400 := by
   have := (hg.inv).hlen
   rw [hg.held, List.length_append] at this
   omega
  have hap : zt 4398046511104 out o2 = some (out ++ o2) := by
   unfold zt
   rw [d6, List.length_append] at hl
   rw [if_pos (by omega)]
  rw [d1, Option.bind_some]
  dsimp only
  rw [hap, Option.bind_some]
  refine ⟨_, _, _, rfl, .inr ⟨rfl, d2, d4, d8, fun x hx => ?_, S, S', hg.asg, hg.work, i4, d3, d5⟩⟩
  rcases List.mem_append.1 hx with h1 | h1
  ·obtain ⟨v, v1, v2⟩ := hg.given x h1
   refine ⟨v, ?_, v2⟩
   rw [d5, i3 x (by rw [hg.held]; exact List.mem_append_right _ h1), hg.work]
   exact v1
  ·have := d7 x h1
   rw [← d5] at this
   exact this
end
end Go.Proofs.YtiblagcmjobknaaGreatDoor.M
namespace Go.Proofs.YtiblagcmjobknaaGreatDoor.M
open Go Go.Pu
set_option linter.unusedSimpArgs false
set_option linter.unusedVariables false
theorem zaa (x y : zb) : ZI (fun x y : zb => some (zj x.ticket y.ticket)) x y = decide (x.ticket < y.ticket) := by
 unfold ZI
 simp only [zel, cmpI]
 split
 ·rename_i h; simp [h]
 ·rename_i h
  split <;> simp [h]
theorem zkq (l : List zb) (hlen : l.length ≤ 1000) (hap : l.Pairwise fun a b => a.ticket ≠ b.ticket) : zdf (fun x y => some (zj x.ticket y.ticket)) l := by
 refine ⟨by omega, fun x _ y _ => ⟨_, rfl⟩, fun x _ => ?_, fun x _ y _ z _ => ?_, fun x _ y _ z _ => ?_, fun x hx y hy => ?_⟩
 ·rw [zaa]; simp
 ·simp only [zaa, decide_eq_true_eq]; omega
 ·simp only [zaa, decide_eq_false_iff_not]; omega
 ·simp only [zaa, decide_eq_false_iff_not]
  intro h1 h2
  obtain ⟨i, hi, rfl⟩ := List.mem_iff_getElem.1 hx
  obtain ⟨j, hj, rfl⟩ := List.mem_iff_getElem.1 hy
  rcases Nat.lt_trichotomy i j with h | h | h
  ·have := List.pairwise_iff_getElem.1 hap i j hi hj h; omega
  ·subst h; rfl
  ·have := List.pairwise_iff_getElem.1 hap j i hj hi h; omega
theorem zen (l : List zb) (hlen : l.length ≤ 1000) (hap : l.Pairwise fun a b => a.ticket ≠ b.ticket) : ∃ s, jD l = some s ∧ s.Perm l ∧ s.Pairwise fun a b => a.ticket < b.ticket := by
 have hs : Qr (fun x y : zb => some (zj x.ticket y.ticket)) l = some (l.mergeSort fun x y => !(ZI (fun x y : zb => some (zj x.ticket y.ticket)) y x)) := by
  unfold Qr
  rw [if_pos (zkq l hlen hap)]
 refine ⟨l.mergeSort fun x y => !(ZI (fun x y : zb => some (zj x.ticket y.ticket)) y x), ?_, List.mergeSort_perm _ _, ?_⟩
 ·unfold jD
  show Option.bind (Qr (fun x y : zb => some (zj x.ticket y.ticket)) l) _ = _
  rw [hs]
  rfl
 ·have hp := List.mergeSort_perm l fun x y => !(ZI (fun x y : zb => some (zj x.ticket y.ticket)) y x)
  have hw := List.pairwise_mergeSort (le := fun x y => !(ZI (fun x y : zb => some (zj x.ticket y.ticket)) y x)) (fun a b c h1 h2 => by
   simp only [zaa, Bool.not_eq_true', decide_eq_false_iff_not] at *; omega) (fun a b => by
   simp only [zaa, Bool.or_eq_true, Bool.not_eq_true', decide_eq_false_iff_not]; omega) l
  generalize (l.mergeSort fun x y => !(ZI (fun x y : zb => some (zj x.ticket y.ticket)) y x)) = s at hp hw
  have hd : s.Pairwise fun a b => a.ticket ≠ b.ticket := (hp.pairwise_iff (fun h => Ne.symm h)).2 hap
  refine (hd.and hw).imp fun ⟨h1, h2⟩ => ?_
  simp only [zaa, Bool.not_eq_true', decide_eq_false_iff_not] at h2
  omega
theorem zkY (l : List za) (q : za → Bool) : Zj l (fun y => some (q y)) = some (match l.findIdx? q with | some i => (i : Int) | none => -1) := by
 unfold Zj
 rw [zad l q]
 cases l.findIdx? q <;> rfl
theorem zkG (l : List zb) (q : zb → Bool) : Zu l (fun y => some (q y)) = some (match l.findIdx? q with | some i => (i : Int) | none => -1) := by
 unfold Zu
 rw [zad l q]
 cases l.findIdx? q <;> rfl
theorem zgz (R : ze) (n : Int) : (qg R n = some (-1) ∧ ∀ w ∈ R.waiting, w.ticket ≠ n) ∨ ∃ (i : Nat) (w : za), qg R n = some (i : Int) ∧ R.waiting[i]? = some w ∧ w.ticket = n := by
 unfold qg QI
 rw [zkY R.waiting fun w => w.ticket == n]
 cases h : R.waiting.findIdx? (fun w => w.ticket == n) with
 | none =>
  refine .inl ⟨rfl, fun w hw => ?_⟩
  have := List.findIdx?_eq_none_iff.1 h w hw
  simpa using this
 | some i =>
  obtain ⟨h1, h2, _⟩ := List.findIdx?_eq_some_iff_getElem.1 h
  exact .inr ⟨i, _, rfl, List.getElem?_eq_getElem h1, by simpa using h2⟩
theorem zgt (R : ze) (n : Int) : (qh R n = some (-1) ∧ ∀ w ∈ R.held, w.ticket ≠ n) ∨ ∃ (i : Nat) (w : zb), qh R n = some (i : Int) ∧ R.held[i]? = some w ∧ w.ticket = n := by
 unfold qh QH
 rw [zkG R.held fun w => w.ticket == n]
 cases h : R.held.findIdx? (fun w => w.ticket == n) with
 | none =>
  refine .inl ⟨rfl, fun w hw => ?_⟩
  have := List.findIdx?_eq_none_iff.1 h w hw
  simpa using this
 | some i =>
  obtain ⟨h1, h2, _⟩ := List.findIdx?_eq_some_iff_getElem.1 h
  exact .inr ⟨i, _, rfl, List.getElem?_eq_getElem h1, by simpa using h2⟩
theorem zdB (h : zb) (l : List zb) (no : Int) : wOf (h :: l) no = (if h.person = no then h.weight else 0) + wOf l no := by simp [wOf]
theorem ziO {l l' : List zb} (h : l'.Sublist l) (hw : ∀ x ∈ l, 0 ≤ x.weight) (no : Int) : 0 ≤ wOf l' no ∧ wOf l' no ≤ wOf l no := by
 induction h with
 | slnil => simp [wOf]
 | cons a h ih =>
  have := ih fun x hx => hw x (List.mem_cons_of_mem _ hx)
  have := hw a List.mem_cons_self
  rw [zdB]
  split <;> omega
 | cons_cons a h ih =>
  have := ih fun x hx => hw x (List.mem_cons_of_mem _ hx)
  have := hw a List.mem_cons_self
  rw [zdB, zdB]
  split <;> omega
theorem zkz {l : List zb} {no : Int} (h : ∀ x ∈ l, x.person ≠ no) : wOf l no = 0 := by
 induction l with
 | nil => rfl
 | cons a l ih =>
  rw [zdB, if_neg (h a List.mem_cons_self), ih fun x hx => h x (List.mem_cons_of_mem _ hx)]
  rfl
section
variable {people : List zd} {cals : List zg} {steps : List zk} {t m : Int} {R : ze}
theorem RInv.sub (h : RInv people cals steps t R) {held : List zb} {waiting : List za} (h1 : held.Sublist R.held) (h2 : waiting.Sublist R.waiting) : RInv people cals steps t ⟨R.assigner, R.now, waiting, held, R.work⟩ := by
 have hw := ziO h1 fun x hx => by have := (h.held x hx).1; omega
 refine ⟨h.ppl, h.cls, h.stp, h.awl, Nat.le_trans h2.length_le h.few, fun w hw => h.fine w (h2.subset hw), fun x hx => h.held x (h1.subset hx), ?_, fun k p hk => ?_, fun k p hk ha => ?_, fun w hw => h.workW w (h2.subset hw), fun x hx => h.workH x (h1.subset hx)⟩
 ·exact ((h1.map _).append (h2.map _)).nodup h.tick
 ·have := h.cap k p hk
  have := hw p.no
  dsimp only
  omega
 ·have := h.off k p hk ha
  have := hw p.no
  dsimp only
  omega
def ziP (R S : ze) : Prop := S.assigner = R.assigner ∧ S.work = R.work
theorem zkk : Does people cals steps m (fun R => some (qU, R)) ziP := fun R h => ⟨0, R, rfl, .inr ⟨rfl, h, rfl, fun _ _ => rfl, rfl, rfl⟩⟩
theorem zdJ (i : Nat) (h : i < 100000) : w64 ((i : Int) + 1) = ((i + 1 : Nat) : Int) := by rw [Zi (by omega) (by omega)]; omega
theorem zii (no : Int) : Does people cals steps m (fun R => qy R no) ziP := fun R h => by
 unfold qy
 dsimp only
 have hl := h.hlen
 have hw := h.few
 rcases zgt R no with ⟨e1, n1⟩ | ⟨i, x, e1, hx, ht⟩
 ·rw [e1, Option.bind_some]
  rw [if_neg (by decide)]
  rcases zgz R no with ⟨e2, n2⟩ | ⟨i, w, e2, hx, ht⟩
  ·rw [e2, Option.bind_some, if_neg (by decide)]
   exact ⟨7, R, rfl, .inl ⟨by decide, rfl⟩⟩
  ·have hi := (List.getElem?_eq_some_iff.1 hx).1
   rw [e2, Option.bind_some, if_pos (by simp)]
   have hd : qB R.waiting (i : Int) = some (R.waiting.take i ++ R.waiting.drop (i + 1)) := by
    unfold qB zJ zt ZX
    rw [if_pos (by simp; omega), Option.bind_some, List.nil_append, Option.bind_some, zdJ i (by omega), if_pos (by omega)]
    rfl
   rw [hd]
   refine ⟨0, _, rfl, .inr ⟨rfl, h.sub (List.Sublist.refl _) ?_, rfl, fun _ _ => rfl, rfl, rfl⟩⟩
   rw [← List.eraseIdx_eq_take_drop_succ]
   exact List.eraseIdx_sublist _ _
 ·have hi := (List.getElem?_eq_some_iff.1 hx).1
  rw [e1, Option.bind_some, if_pos (by simp)]
  have hd : qC R.held (i : Int) = some (R.held.take i ++ R.held.drop (i + 1)) := by
   unfold qC Zh zt ZY
   rw [if_pos (by simp; omega), Option.bind_some, List.nil_append, Option.bind_some, zdJ i (by omega), if_pos (by omega)]
   rfl
  rw [hd]
  refine ⟨0, _, rfl, .inr ⟨rfl, h.sub ?_ (List.Sublist.refl _), rfl, fun _ _ => rfl, rfl, rfl⟩⟩
  rw [← List.eraseIdx_eq_take_drop_succ]
  exact List.eraseIdx_sublist _ _
def zjl (w : za) (R S : ze) : Prop := S.assigner = R.assigner ∧ S.work = QO R.work w.ticket w ∧ WkOK w
theorem zix (w : za) (hs : ∀ k ∈ w.needs, k.name.size ≤ 9223372036854775807) : Does people cals steps m (fun R => Option.bind (ZS w R m) fun x => some (x.1, x.2.2)) (zjl w) := fun R h => by
 unfold ZS
 dsimp only
 have hl := h.hlen
 obtain ⟨r, r1, r2⟩ := zgk w hs
 rw [r1, Option.bind_some]
 by_cases h0 : r = 0
 rotate_left
 ·rw [if_pos (by simpa using h0)]
  exact ⟨r, R, rfl, .inl ⟨h0, rfl⟩⟩
 rw [if_neg (by simpa using h0)]
 have hk := r2.1 h0
 obtain ⟨b, hb, hb2⟩ : ∃ b : Bool, (Option.bind (qg R w.ticket) fun x38 => if (decide ((0 : Int) ≤ x38)) = true then (some true) else (Option.bind (qh R w.ticket) fun x45 => some (decide ((0 : Int) ≤ x45)))) = some b ∧ (b = false → (∀ x ∈ R.waiting, x.ticket ≠ w.ticket) ∧ ∀ x ∈ R.held, x.ticket ≠ w.ticket) := by
  rcases zgz R w.ticket with ⟨e2, n2⟩ | ⟨i, v, e2, hx, ht⟩
  ·rw [e2, Option.bind_some, if_neg (by decide)]
   rcases zgt R w.ticket with ⟨e1, n1⟩ | ⟨i, x, e1, hx, ht⟩
   ·rw [e1]
    exact ⟨_, rfl, fun _ => ⟨n2, n1⟩⟩
   ·rw [e1]
    exact ⟨_, rfl, fun h => absurd (of_decide_eq_false h) (by omega)⟩
  ·rw [e2, Option.bind_some, if_pos (by simp)]
   exact ⟨_, rfl, fun h => by cases h⟩
 rw [hb, Option.bind_some]
 cases b with
 | true => exact ⟨6, R, rfl, .inl ⟨by decide, rfl⟩⟩
 | false =>
  obtain ⟨n2, n1⟩ := hb2 rfl
  rw [if_neg (by decide)]
  by_cases h2 : (200 : Int) ≤ (R.waiting.length : Int)
  ·rw [if_pos (by simpa using h2)]
   exact ⟨4, R, rfl, .inl ⟨by decide, rfl⟩⟩
  rw [if_neg (by simpa using h2)]
  by_cases h3 : m < w.since
  ·rw [if_pos (by simpa using h3)]
   exact ⟨2, R, rfl, .inl ⟨by decide, rfl⟩⟩
  rw [if_neg (by simpa using h3)]
  have hn := hk.needs.len
  have c1 : zq w.needs = some w.needs := by
   unfold zq zt
   rw [if_pos (by simp; omega)]
   rfl
  have c2 : zJ R.waiting = some R.waiting := by
   unfold zJ zt
   rw [if_pos (by simp; omega)]
   rfl
  have c3 : zt 2199023255552 R.waiting [w] = some (R.waiting ++ [w]) := by
   unfold zt
   rw [if_pos (by rw [List.length_singleton]; omega)]
  have hwe : (⟨w.ticket, w.weight, w.urgency, w.since, w.former, w.needs⟩ : za) = w := rfl
  rw [c1, Option.bind_some, c2, Option.bind_some, hwe, c3]
  refine ⟨0, _, rfl, .inr ⟨rfl, ⟨h.ppl, h.cls, h.stp, h.awl, by dsimp only; rw [List.length_append, List.length_singleton]; omega, fun x hx => ?_, h.held, ?_, h.cap, h.off, fun x hx => ?_, fun x hx => ?_⟩, rfl, fun x hx => ?_, rfl, rfl, hk⟩⟩
  ·rcases List.mem_append.1 hx with h4 | h4
   ·exact h.fine x h4
   ·rw [List.mem_singleton] at h4
    subst h4
    exact ⟨hk, by omega⟩
  ·dsimp only
   rw [List.map_append, ← List.append_assoc, List.nodup_append]
   refine ⟨h.tick, by simp, fun a ha b hb e => ?_⟩
   simp only [List.map_cons, List.map_nil, List.mem_singleton] at hb
   subst hb
   rcases List.mem_append.1 ha with h4 | h4
   ·obtain ⟨x, hx, rfl⟩ := List.mem_map.1 h4
    exact n1 x hx e
   ·obtain ⟨x, hx, rfl⟩ := List.mem_map.1 h4
    exact n2 x hx e
  ·dsimp only
   rw [Jh]
   rcases List.mem_append.1 hx with h4 | h4
   ·rw [if_neg (fun e => n2 x h4 e.symm)]
    exact h.workW x h4
   ·rw [List.mem_singleton] at h4
    subst h4
    rw [if_pos rfl]
    exact ⟨x, rfl, ⟨rfl, rfl, rfl, rfl, rfl⟩, hk⟩
  ·dsimp only
   rw [Jh, if_neg (fun e => n1 x hx e.symm)]
   exact h.workH x hx
  ·dsimp only
   rw [Jh, if_neg (fun e => n1 x hx e.symm)]
theorem zfu (h : RInv people cals steps m R) (no : Int) (b : Bool) : (∃ r : Int, r ≠ 0 ∧ qu R no b = some (0, r)) ∨ ∃ (i : Nat) (p : zd), qu R no b = some ((i : Int), 0) ∧ people[i]? = some p ∧ p.no = no ∧ R.assigner.away[i]? = some b := by
 unfold qu
 rw [h.ppl, zaN, Option.bind_some]
 by_cases h0 : pos people no < 0
 ·rw [if_pos (by simpa using h0)]
  exact .inl ⟨7, by decide, rfl⟩
 rw [if_neg (by simpa using h0)]
 obtain ⟨i, p, e1, e2, e3⟩ := zfk (people := people) (no := no) (by omega)
 have hi := (List.getElem?_eq_some_iff.1 e2).1
 obtain ⟨a, ha⟩ : ∃ a, R.assigner.away[i]? = some a := ⟨_, List.getElem?_eq_getElem (by rw [h.awl]; exact hi)⟩
 rw [e1, zP, ha, Option.bind_some]
 by_cases hab : a = b
 ·subst hab
  rw [if_neg (by simp)]
  exact .inr ⟨i, p, rfl, e2, e3, ha⟩
 ·rw [if_pos (by simpa using hab)]
  exact .inl ⟨11, by decide, rfl⟩
def zhy (people : List zd) (no : Int) (b : Bool) (R S : ze) : Prop := S.work = R.work ∧ ∃ (k : Nat) (p : zd), people[k]? = some p ∧ p.no = no ∧ S.assigner = ⟨R.assigner.people, R.assigner.cals, R.assigner.steps, R.assigner.away.set k b⟩
theorem zic (no : Int) : Does people cals steps m (fun R => qx R no) (zhy people no false) := fun R h => by
 unfold qx
 dsimp only
 rcases zfu h no true with ⟨r, h0, e⟩ | ⟨i, p, e, hp, hn, ha⟩
 ·rw [e, Option.bind_some, if_neg (by simpa using h0)]
  exact ⟨r, R, rfl, .inl ⟨h0, rfl⟩⟩
 ·have hi := (List.getElem?_eq_some_iff.1 ha).1
  rw [e, Option.bind_some, if_pos (by rfl)]
  dsimp only
  rw [zP, ha, Option.bind_some, QC _ _ _ hi]
  refine ⟨0, _, rfl, .inr ⟨rfl, ⟨h.ppl, h.cls, h.stp, by dsimp only; rw [List.length_set]; exact h.awl, h.few, h.fine, h.held, h.tick, h.cap, fun k q hk hq => ?_, h.workW, h.workH⟩, rfl, fun _ _ => rfl, rfl, i, p, hp, hn, rfl⟩⟩
  dsimp only at hq
  rw [List.getElem?_set] at hq
  by_cases hik : i = k
  ·rw [if_pos hik, if_pos hi] at hq
   cases hq
  ·rw [if_neg hik] at hq
   exact h.off k q hk hq
theorem zjN (no : Int) (l : List zb) (hl : l.length ≤ 400) :
  zE (R := Int × ze) (fun k23 s33 => Option.bind (Option.bind (idx l (k23 : Int)) fun x62 => Option.bind (if (x62.person == no) = true then Option.bind (zt 4398046511104 s33.1 ([x62] : List zb)) fun x95 => some (x95, s33.2) else Option.bind (zt 4398046511104 s33.2 ([x62] : List zb)) fun x108 => some (s33.1, x108)) fun s77 => some (s77.1, s77.2)) fun s51 => some (.nx (s51.1, s51.2))) l.length 0 (([] : (List zb)), ([] : (List zb))) = some (.fin (l.filter (fun h => h.person == no), l.filter (fun h => !(h.person == no)))) := by
 obtain ⟨s, e, h1, h2, h3⟩ := Ze (R := Int × ze) (b := fun k23 s33 => Option.bind (Option.bind (idx l (k23 : Int)) fun x62 => Option.bind (if (x62.person == no) = true then Option.bind (zt 4398046511104 s33.1 ([x62] : List zb)) fun x95 => some (x95, s33.2) else Option.bind (zt 4398046511104 s33.2 ([x62] : List zb)) fun x108 => some (s33.1, x108)) fun s77 => some (s77.1, s77.2)) fun s51 => some (.nx (s51.1, s51.2)))
  l.length (fun k s => s.1 = (l.take k).filter (fun h => h.person == no) ∧ s.2 = (l.take k).filter (fun h => !(h.person == no)) ∧ s.1.length ≤ k ∧ s.2.length ≤ k) (s := (([] : (List zb)), ([] : (List zb)))) ⟨rfl, rfl, by simp, by simp⟩
  (by
   rintro k ⟨a, b⟩ hk ⟨h1, h2, h3, h4⟩
   dsimp only at h1 h2 h3 h4
   have hx : l[k]? = some l[k] := List.getElem?_eq_getElem hk
   generalize l[k] = x at hx
   have ap : ∀ c : List zb, c.length ≤ k → zt 4398046511104 c [x] = some (c ++ [x]) := fun c hc => by
    unfold zt
    rw [if_pos (by rw [List.length_singleton]; omega)]
   rw [zaB hx, List.filter_append, List.filter_append, ← h1, ← h2]
   simp only [zP, hx, Option.bind_some]
   by_cases hc : (x.person == no) = true
   ·rw [if_pos hc, ap a h3]
    refine ⟨_, rfl, ?_, ?_, ?_, ?_⟩
    ·simp [hc]
    ·simp [hc]
    ·simp; omega
    ·dsimp only; omega
   ·rw [if_neg hc, ap b h4]
    refine ⟨_, rfl, ?_, ?_, ?_, ?_⟩
    ·simp [hc]
    ·simp [hc]
    ·dsimp only; omega
    ·simp; omega)
 rw [e]
 rw [List.take_length] at h1 h2
 have : s = (s.1, s.2) := rfl
 rw [this, h1, h2]
def zeD (work : List (Int × za)) (no : Int) (h : zb) : za :=
 (⟨((zw work h.ticket).getD (⟨0, 0, 0, 0, 0, []⟩)).ticket, h.weight, ((zw work h.ticket).getD (⟨0, 0, 0, 0, 0, []⟩)).urgency, ((zw work h.ticket).getD (⟨0, 0, 0, 0, 0, []⟩)).since, no, ((zw work h.ticket).getD (⟨0, 0, 0, 0, 0, []⟩)).needs⟩ : za)
theorem zkU (work : List (Int × za)) (no : Int) (l : List zb) (l0 : List za) (h : l0.length + l.length ≤ 1000) :
  zE (R := Int × ze) (fun k135 s143 => Option.bind (idx l (k135 : Int)) fun x158 => Option.bind (zt 2199023255552 s143 ([(⟨((zw work x158.ticket).getD (⟨0, 0, 0, 0, 0, []⟩)).ticket, x158.weight, ((zw work x158.ticket).getD (⟨0, 0, 0, 0, 0, []⟩)).urgency, ((zw work x158.ticket).getD (⟨0, 0, 0, 0, 0, []⟩)).since, no, ((zw work x158.ticket).getD (⟨0, 0, 0, 0, 0, []⟩)).needs⟩ : za)] : List za)) fun x209 => some (.nx x209)) l.length 0 l0 = some (.fin (l0 ++ l.map (zeD work no))) := by
 obtain ⟨s, e, h1⟩ := Ze (R := Int × ze) (b := fun k135 s143 => Option.bind (idx l (k135 : Int)) fun x158 => Option.bind (zt 2199023255552 s143 ([(⟨((zw work x158.ticket).getD (⟨0, 0, 0, 0, 0, []⟩)).ticket, x158.weight, ((zw work x158.ticket).getD (⟨0, 0, 0, 0, 0, []⟩)).urgency, ((zw work x158.ticket).getD (⟨0, 0, 0, 0, 0, []⟩)).since, no, ((zw work x158.ticket).getD (⟨0, 0, 0, 0, 0, []⟩)).needs⟩ : za)] : List za)) fun x209 => some (.nx x209))
  l.length (fun k s => s = l0 ++ (l.take k).map (zeD work no)) (s := l0) (by simp)
  (by
   rintro k s hk rfl
   have hx : l[k]? = some l[k] := List.getElem?_eq_getElem hk
   generalize l[k] = x at hx
   rw [zaB hx, List.map_append, ← List.append_assoc, zP, hx, Option.bind_some]
   unfold zt
   rw [if_pos (by rw [List.length_append, List.length_map, List.length_take, List.length_singleton]; omega)]
   exact ⟨_, rfl, rfl⟩)
 rw [e, h1, List.take_length]
theorem zjk (hp : Jg people) (no : Int) : Does people cals steps m (fun R => qI R no) (zhy people no true) := fun R h => by
 unfold qI
 dsimp only
 have hl := h.hlen
 have hf := h.few
 rcases zfu h no false with ⟨r, h0, e⟩ | ⟨i, p, e, hpi, hn, ha⟩
 ·rw [e, Option.bind_some, if_pos (by simpa using h0)]
  exact ⟨r, R, rfl, .inl ⟨h0, rfl⟩⟩
 rw [e, Option.bind_some, if_neg (by simp), zjN no R.held hl, Option.bind_some, Lp.andThen_fin]
 dsimp only
 have hb1 : (R.held.filter (fun h => h.person == no)).length ≤ 400 := Nat.le_trans (List.length_filter_le _ _) hl
 have hperm : (R.held.filter (fun h => h.person == no) ++ R.held.filter (fun h => !(h.person == no))).Perm R.held := List.filter_append_perm _ _
 have hstay : (R.held.filter (fun h => !(h.person == no))).Sublist R.held := List.filter_sublist
 have hbsub : (R.held.filter (fun h => h.person == no)).Sublist R.held := List.filter_sublist
 have hsp : ∀ x ∈ R.held.filter (fun h => !(h.person == no)), x.person ≠ no := fun x hx => by
  have := (List.mem_filter.1 hx).2
  simpa using this
 generalize R.held.filter (fun h => !(h.person == no)) = stay at *
 generalize R.held.filter (fun h => h.person == no) = back at *
 rw [Zi (n := (R.waiting.length : Int) + (back.length : Int)) (by omega) (by omega)]
 by_cases h2 : (200 : Int) < (R.waiting.length : Int) + (back.length : Int)
 ·rw [if_pos (by simpa using h2)]
  exact ⟨4, R, rfl, .inl ⟨by decide, rfl⟩⟩
 rw [if_neg (by simpa using h2)]
 obtain ⟨sb, s1, s2, s3⟩ := zen back (by omega) (h.heldA.sublist hbsub)
 have hsl := s2.length_eq
 have c2 : zJ R.waiting = some R.waiting := by
  unfold zJ zt
  rw [if_pos (by simp; omega)]
  rfl
 have hi := (List.getElem?_eq_some_iff.1 ha).1
 rw [s1, Option.bind_some, c2, Option.bind_some, zkU R.work no sb R.waiting (by omega), Option.bind_some, Lp.andThen_fin, zP, ha, Option.bind_some, QC _ _ _ hi]
 have bw : ∀ x ∈ sb, ∃ v, zw R.work x.ticket = some v ∧ v.ticket = x.ticket ∧ WkOK v ∧ v.since ≤ m ∧ (zeD R.work no x) = ⟨v.ticket, v.weight, v.urgency, v.since, no, v.needs⟩ := fun x hx => by
  obtain ⟨v, v1, v2, v3, v4, v5⟩ := h.workH x (hbsub.subset (s2.mem_iff.1 hx))
  refine ⟨v, v1, v2, v4, v5, ?_⟩
  unfold zeD
  rw [v1, ← v3]
  rfl
 have hpo := (hp.2 i p hpi).1
 have hw := ziO hstay fun x hx => by have := (h.held x hx).1; omega
 refine ⟨0, _, rfl, .inr ⟨rfl, ⟨h.ppl, h.cls, h.stp, by dsimp only; rw [List.length_set]; exact h.awl, ?_, fun w hw => ?_, fun x hx => h.held x (hstay.subset hx), ?_, fun k q hk => ?_, fun k q hk hq => ?_, fun w hw => ?_, fun x hx => h.workH x (hstay.subset hx)⟩, rfl, fun _ _ => rfl, rfl, i, p, hpi, hn, rfl⟩⟩
 ·dsimp only
  rw [List.length_append, List.length_map]
  omega
 ·rcases List.mem_append.1 hw with h4 | h4
  ·exact h.fine w h4
  ·obtain ⟨x, hx, rfl⟩ := List.mem_map.1 h4
   obtain ⟨v, v1, v2, v3, v4, v5⟩ := bw x hx
   rw [v5]
   exact ⟨⟨v3.tick, v3.wei, v3.urg, v3.since, (show 0 ≤ no ∧ no ≤ 40 by omega), v3.needs⟩, v4⟩
 ·dsimp only
  have e1 : (sb.map (zeD R.work no)).map (·.ticket) = sb.map (·.ticket) := by
   rw [List.map_map]
   refine List.map_congr_left fun x hx => ?_
   obtain ⟨v, v1, v2, v3, v4, v5⟩ := bw x hx
   show (zeD R.work no x).ticket = x.ticket
   rw [v5]
   exact v2
  rw [List.map_append, e1]
  have p1 : (stay.map (·.ticket) ++ (R.waiting.map (·.ticket) ++ sb.map (·.ticket))).Perm (R.held.map (·.ticket) ++ R.waiting.map (·.ticket)) := by
   rw [← List.append_assoc]
   refine List.perm_append_comm.trans ?_
   rw [← List.append_assoc]
   refine List.Perm.append_right _ ?_
   rw [← List.map_append]
   exact ((s2.append_right stay).trans hperm).map _
  exact p1.nodup_iff.2 h.tick
 ·have := h.cap k q hk
  have := hw q.no
  dsimp only
  omega
 ·dsimp only at hq ⊢
  rw [List.getElem?_set] at hq
  by_cases hik : i = k
  ·subst hik
   rw [hpi] at hk
   cases hk
   exact zkz fun x hx => by rw [hn]; exact hsp x hx
  ·rw [if_neg hik] at hq
   have := h.off k q hk hq
   have := hw q.no
   omega
 ·rcases List.mem_append.1 hw with h4 | h4
  ·exact h.workW w h4
  ·obtain ⟨x, hx, rfl⟩ := List.mem_map.1 h4
   obtain ⟨v, v1, v2, v3, v4, v5⟩ := bw x hx
   rw [v5]
   exact ⟨v, by dsimp only; rw [v2]; exact v1, ⟨rfl, rfl, rfl, rfl, rfl⟩, v3⟩
end
end Go.Proofs.YtiblagcmjobknaaGreatDoor.M
namespace Go.Proofs.YtiblagcmjobknaaGreatDoor.M
open Go Go.Pu
set_option linter.unusedSimpArgs false
set_option linter.unusedVariables false
theorem zff {α : Type} {l : List α} {k : Nat} {x : α} (h : l[k]? = some x) : l.set k x = l := by
 obtain ⟨h1, rfl⟩ := List.getElem?_eq_some_iff.1 h
 exact List.set_getElem_self h1
theorem Jk {α : Type} (lim : Nat) (l : List α) (h : l.length ≤ lim) : zt lim ([] : List α) l = some l := by
 unfold zt
 rw [if_pos (by simpa using h), List.nil_append]
theorem zlo (people : List zd) (cals : List zg) (steps : List zk) (hs : ∀ p ∈ people, ∀ k ∈ p.skills, k.name.size ≤ 9223372036854775807) :
  (∃ e, jm people cals steps = some (none, e)) ∨ (jm people cals steps = some (some ⟨⟨people, cals, steps, List.replicate people.length false⟩, 0, [], [], []⟩, 0) ∧ RtOK people cals steps ∧ qQ people cals = some 0 ∧ qD steps = some 0 ∧ ZT people = some 0) := by
 unfold jm
 obtain ⟨r, a1, c1⟩ := zlj people cals hs
 rw [a1, Option.bind_some]
 by_cases h0 : r = 0
 rotate_left
 ·rw [if_pos (by simpa using h0)]
  exact .inl ⟨r, rfl⟩
 subst h0
 rw [if_neg (by simp)]
 obtain ⟨r2, a2, c2⟩ := zkn steps
 rw [a2, Option.bind_some]
 by_cases h0 : r2 = 0
 rotate_left
 ·rw [if_pos (by simpa using h0)]
  exact .inl ⟨r2, rfl⟩
 subst h0
 rw [if_neg (by simp)]
 obtain ⟨hd, hcp, hsk⟩ := c1 rfl
 have hp1 := hd.ppl.1
 refine .inr ⟨?_, ⟨hd, c2 rfl, hsk⟩, rfl, rfl, hcp⟩
 have k1 : Zw people = some people := by
  unfold Zw
  rw [Jk _ _ (by omega)]
  rfl
 rw [k1, Option.bind_some]
 obtain ⟨s1, e1, i1⟩ := Ze (R := Option ze × Int) (b := fun k44 s63 => Option.bind (idx s63.assigner.people (k44 : Int)) fun x93 => Option.bind (zq x93.skills) fun x102 => Option.bind (setI s63.assigner.people (k44 : Int) ({ (x93 : zd) with skills := x102 })) fun x120 => some (.nx (⟨(⟨x120, s63.assigner.cals, s63.assigner.steps, s63.assigner.away⟩ : Zr), s63.now, s63.waiting, s63.held, s63.work⟩ : ze)))
  people.length (fun _ s => s = (⟨(⟨people, ([] : (List zg)), ([] : (List zk)), ([] : (List Bool))⟩ : Zr), 0, ([] : (List za)), ([] : (List zb)), ([] : List (Int × za))⟩ : ze)) rfl
  (by
   rintro k s hk rfl
   have hx : people[k]? = some people[k] := List.getElem?_eq_getElem hk
   have hsl := (hsk _ (List.getElem_mem hk)).len
   generalize people[k] = p at hx hsl
   have k2 : zq p.skills = some p.skills := by
    unfold zq
    rw [Jk _ _ (by omega)]
    rfl
   dsimp only
   rw [zP, hx, Option.bind_some, k2, Option.bind_some, QC _ _ _ hk, Option.bind_some, zff hx]
   exact ⟨_, rfl, rfl⟩)
 rw [e1, Option.bind_some, Lp.andThen_fin, i1]
 have hcl := hd.most
 obtain ⟨s2, e2, i2⟩ := Ze (R := Option ze × Int) (b := fun k133 s152 => Option.bind (idx cals (k133 : Int)) fun x178 => Option.bind (Zn x178.zone.changes) fun x209 => Option.bind (zM x178.week) fun x217 => Option.bind (Zk x178.specials) fun x225 => Option.bind (zE (fun k256 s268 => Option.bind (idx s268.specials (k256 : Int)) fun x290 => Option.bind (zM x290.shifts) fun x299 => Option.bind (setI s268.specials (k256 : Int) ({ (x290 : zC) with shifts := x299 })) fun x317 => some (.nx (⟨s268.zone, s268.week, x317⟩ : zg))) x225.length 0 (⟨(⟨x178.zone.offset, x209⟩ : Zc), x217, x225⟩ : zg)) fun o253 => o253.andThen (fun y => some (.rt y)) fun s254 => Option.bind (zt 1759218604441 s152.assigner.cals ([s254] : List zg)) fun x359 => some (.nx (⟨(⟨s152.assigner.people, x359, s152.assigner.steps, s152.assigner.away⟩ : Zr), s152.now, s152.waiting, s152.held, s152.work⟩ : ze)))
  cals.length (fun k s => s = (⟨(⟨people, cals.take k, ([] : (List zk)), ([] : (List Bool))⟩ : Zr), 0, ([] : (List za)), ([] : (List zb)), ([] : List (Int × za))⟩ : ze)) (s := (⟨(⟨people, ([] : (List zg)), ([] : (List zk)), ([] : (List Bool))⟩ : Zr), 0, ([] : (List za)), ([] : (List zb)), ([] : List (Int × za))⟩ : ze)) rfl
  (by
   rintro k s hk rfl
   have hx : cals[k]? = some cals[k] := List.getElem?_eq_getElem hk
   have hc := (hd.each k _ hx).1
   generalize cals[k] = c at hx hc
   have l1 := hc.changes
   have l2 := hc.weeks
   have l3 := hc.specials
   have k2 : Zn c.zone.changes = some c.zone.changes := by
    unfold Zn
    rw [Jk _ _ (by omega)]
    rfl
   have k3 : zM c.week = some c.week := by
    unfold zM
    rw [Jk _ _ (by omega)]
    rfl
   have k4 : Zk c.specials = some c.specials := by
    unfold Zk
    rw [Jk _ _ (by omega)]
    rfl
   rw [zP, hx, Option.bind_some, k2, Option.bind_some, k3, Option.bind_some, k4, Option.bind_some]
   obtain ⟨s3, e3, i3⟩ := Ze (R := Option ze × Int) (b := fun k256 s268 => Option.bind (idx s268.specials (k256 : Int)) fun x290 => Option.bind (zM x290.shifts) fun x299 => Option.bind (setI s268.specials (k256 : Int) ({ (x290 : zC) with shifts := x299 })) fun x317 => some (.nx (⟨s268.zone, s268.week, x317⟩ : zg)))
    c.specials.length (fun _ s => s = c) (s := (⟨(⟨c.zone.offset, c.zone.changes⟩ : Zc), c.week, c.specials⟩ : zg)) rfl
    (by
     rintro j s hj rfl
     have hy : s.specials[j]? = some s.specials[j] := List.getElem?_eq_getElem hj
     have hsp := (hc.special j _ hy).2.2.1
     generalize s.specials[j] = x at hy hsp
     have k5 : zM x.shifts = some x.shifts := by
      unfold zM
      rw [Jk _ _ (by omega)]
      rfl
     rw [zP, hy, Option.bind_some, k5, Option.bind_some, QC _ _ _ hj, Option.bind_some, zff hy]
     exact ⟨_, rfl, rfl⟩)
   rw [i3] at e3
   rw [e3, Option.bind_some, Lp.andThen_fin]
   have hap : zt 1759218604441 (cals.take k) [c] = some (cals.take k ++ [c]) := by
    unfold zt
    rw [if_pos (by rw [List.length_singleton, List.length_take]; omega)]
   dsimp only
   rw [hap, Option.bind_some]
   exact ⟨_, rfl, by rw [zaB hx]⟩)
 rw [e2, Option.bind_some, Lp.andThen_fin, i2, List.take_length]
 have hst := (c2 rfl).1
 have k6 : ZJ steps = some steps := by
  unfold ZJ
  rw [Jk _ _ (by omega)]
  rfl
 have k7 : QN 281474976710656 (people.length : Int) (false : Bool) = some (List.replicate people.length false) := by rw [QN, if_pos (by omega), Int.toNat_natCast]
 rw [k6, Option.bind_some, k7]
 rfl
theorem zlt {people : List zd} {cals : List zg} {steps : List zk} (h : RtOK people cals steps) : RInv people cals steps 0 ⟨⟨people, cals, steps, List.replicate people.length false⟩, 0, [], [], []⟩ :=
 ⟨rfl, rfl, rfl, by simp, by simp, (fun w hw => by cases hw), (fun w hw => by cases hw), by simp, fun k p hk => by have := (h.duty.ppl.2 k p hk).2.1; simpa [wOf] using this.1, fun k p hk ha => rfl, (fun w hw => by cases hw), (fun w hw => by cases hw)⟩
end Go.Proofs.YtiblagcmjobknaaGreatDoor.M
namespace Go.Proofs.YtiblagcmjobknaaGreatDoor.M
open Go Go.Pu
set_option linter.unusedSimpArgs false
set_option linter.unusedVariables false
structure Chk (people : List zd) (cals : List zg) (steps : List zk) : Prop where
 ok : RtOK people cals steps
 cc : qQ people cals = some 0
 cs : qD steps = some 0
 cp : ZT people = some 0
theorem err3 (a b c : Int) : Zz [a, b, c] = some (if a ≠ 0 then a else if b ≠ 0 then b else c) := by
 by_cases ha : a = 0 <;> by_cases hb : b = 0 <;> by_cases hc : c = 0 <;> simp [Zz, zE, idx, ha, hb, hc, Lp.andThen]
theorem zfC {m : Int} (hm : 0 ≤ m ∧ m ≤ 3000000) : ZF m = 0 := by
 unfold ZF
 rw [if_neg]
 simp [zm, hm.1, hm.2]
theorem zib {c : Nat → Bool} {n k : Nat} : ((k : Int) ∈ QG c n) ↔ k < n ∧ c k = true := by
 constructor
 ·intro h
  obtain ⟨i, h1, h2, h3⟩ := zec h
  obtain rfl : k = i := by omega
  exact ⟨h1, h2⟩
 ·rintro ⟨h1, h2⟩
  unfold QG
  exact List.mem_map.2 ⟨k, List.mem_filter.2 ⟨List.mem_range.2 h1, h2⟩, rfl⟩
theorem zeg (l : List Int) (v : Int) : qe l v = some (decide (v ∈ l)) := by
 unfold qe jo
 have := zad (α := Int) l (fun x => v == x)
 simp only [Option.bind_some] at this
 rw [this]
 cases h : l.findIdx? (fun x => v == x) with
 | none =>
  have h1 := List.findIdx?_eq_none_iff.1 h
  have : ¬ v ∈ l := fun hm => by simpa using h1 v hm
  rw [decide_eq_false this]
  rfl
 | some i =>
  obtain ⟨h1, h2, _⟩ := List.findIdx?_eq_some_iff_getElem.1 h
  have : v ∈ l := by
   have h3 : v = l[i] := by simpa using h2
   rw [h3]
   exact List.getElem_mem h1
  rw [decide_eq_true this, Option.bind_some, Lp.andThen_rt, Option.bind_some, decide_eq_true (by omega)]
section
variable {people : List zd} {cals : List zg} {steps : List zk} {m : Int}
def zfj (people : List zd) (needs : List zi) (k : Nat) : Bool := match people[k]? with
 | some p => ablB p needs
 | none => false
noncomputable def onF (people : List zd) (cals : List zg) (m : Int) (k : Nat) : Bool := match people[k]? with
 | some p => onB cals m p
 | none => false
theorem zhB {R : Type} (people : List zd) (c : Nat → Bool) (b : Nat → List Int → Option (Ctl (List Int) R)) (hl : people.length ≤ 40) (h : ∀ (k : Nat) (p : zd) s, people[k]? = some p → b k s = Option.bind (Option.bind (if c k = true then Option.bind (zt 17592186044416 s ([(k : Int)] : List Int)) fun x99 => some x99 else some s) fun s83 => some s83) fun s48 => some (.nx s48)) :
  zE b people.length 0 [] = some (.fin (QG c people.length)) := by
 obtain ⟨s, e, h1⟩ := Ze (b := b) people.length (fun k s => s = QG c k) (s := []) rfl
  (by
   rintro k s hk rfl
   rw [h k _ _ (List.getElem?_eq_getElem hk), zaQ]
   by_cases hc : c k = true
   ·rw [if_pos hc, if_pos hc]
    have := zem c k
    unfold zt
    rw [if_pos (by rw [List.length_singleton]; omega)]
    exact ⟨_, rfl, rfl⟩
   ·rw [if_neg hc, if_neg hc]
    exact ⟨_, rfl, (List.append_nil _).symm⟩)
 rw [e, h1]
theorem zgn (hc : Chk people cals steps) {w : za} (hw : WkOK w) (hm : 0 ≤ m ∧ m ≤ 3000000) {k : Nat} {p : zd} (hk : people[k]? = some p) : Zp people cals steps w p.no m = some (ablB p (qi w steps m) && onB cals m p) := by
 have hp := hc.ok.duty.ppl
 have hkl := (List.getElem?_eq_some_iff.1 hk).1
 have hsn := zjX hw.needs hc.ok.st m
 have v1 : JL w steps m = some (qi w steps m, 0) := by
  unfold JL
  obtain ⟨r, r1, r2⟩ := zgk w fun s hs => hw.needs.size hs
  obtain rfl := r2.2 hw
  have := hw.since
  rw [r1, Option.bind_some, hc.cs, Option.bind_some, zfC hm, err3, Option.bind_some, if_neg (by simp), zeT w steps m hw.needs.len (by omega)]
  rfl
 have v2 : zaI people (qi w steps m) = some (QG (zfj people (qi w steps m)) people.length, 0) := by
  unfold zaI
  obtain ⟨r, r1, r2⟩ := zdw (qi w steps m) fun s hs => hsn.size hs
  obtain rfl := r2.2 hsn
  rw [hc.cp, Option.bind_some, r1, Option.bind_some, zcX, Option.bind_some, if_neg (by simp), zhB people (zfj people (qi w steps m)) _ hp.1]
  ·rfl
  ·intro i q s hq
   rw [zP, hq, Option.bind_some, zhG, Option.bind_some]
   unfold zfj
   rw [hq]
 have v3 : zac people cals m = some (QG (onF people cals m) people.length, 0) := by
  unfold zac
  rw [hc.cc, Option.bind_some, zfC hm, zcX, Option.bind_some, if_neg (by simp), zhB people (onF people cals m) _ hp.1]
  ·rfl
  ·intro i q s hq
   obtain ⟨c, c1, c2, c3⟩ := ziE hc.ok.duty hq
   have eo : onF people cals m i = opn c m := by
    unfold onF onB
    rw [hq]
    dsimp only
    rw [c1]
   rw [zP, hq, Option.bind_some, c1, Option.bind_some, zfc c3 m hm, Option.bind_some, eo]
 have v4 : zY people (fun y49 => qT y49 p.no) = some (k : Int) := by
  unfold qT
  rw [zgp]
  obtain ⟨i, q, e1, e2, e3⟩ := zfk (zhJ hk)
  rw [e1, zbq hp e2 hk e3]
 unfold Zp
 rw [v1, Option.bind_some, v2, Option.bind_some, v3, Option.bind_some, v4, Option.bind_some]
 have e0 : (((((0 : Int) == 0) && ((0 : Int) == 0)) && ((0 : Int) == 0)) && (decide ((0 : Int) ≤ (k : Int)))) = true := by simp
 dsimp only
 rw [if_pos e0, zeg, Option.bind_some, Option.bind_some, zeg]
 have m1 : decide ((k : Int) ∈ QG (zfj people (qi w steps m)) people.length) = ablB p (qi w steps m) := by
  rw [Bool.eq_iff_iff, decide_eq_true_eq, zib]
  unfold zfj
  rw [hk]
  exact ⟨fun h => h.2, fun h => ⟨hkl, h⟩⟩
 have m2 : decide ((k : Int) ∈ QG (onF people cals m) people.length) = onB cals m p := by
  rw [Bool.eq_iff_iff, decide_eq_true_eq, zib]
  unfold onF
  rw [hk]
  exact ⟨fun h => h.2, fun h => ⟨hkl, h⟩⟩
 rw [m1, m2]
 cases ablB p (qi w steps m) <;> rfl
theorem zkw {l l' : List zb} (h : l.Perm l') (no : Int) : wOf l no = wOf l' no := by
 unfold wOf
 induction h with
 | nil => rfl
 | cons x _ ih => simp only [List.map_cons, List.sum_cons, ih]
 | swap x y l => simp only [List.map_cons, List.sum_cons]; omega
 | trans _ _ h1 h2 => exact h1.trans h2
theorem zll {l : List zb} (h1 : l.length ≤ 400) (h2 : ∀ h ∈ l, (1 ≤ h.weight ∧ h.weight ≤ 20) ∧ 0 ≤ pos people h.person ∧ (0 ≤ h.since ∧ h.since ≤ 3000000) ∧ (1 ≤ h.ticket ∧ h.ticket ≤ 400)) (h3 : l.Pairwise fun a b => a.ticket < b.ticket) : jY people l = some 0 := by
 unfold jY
 rw [if_neg (by simp; omega)]
 obtain ⟨s, e, _⟩ := Ze (R := Int) (b := fun k9 (_ : Unit) => Option.bind (idx l (k9 : Int)) fun x29 => if (!(zm x29.ticket 1 400)) = true then some (.rt 2) else Option.bind (if (decide ((0 : Int) < (k9 : Int))) = true then (Option.bind (idx l (w64 ((k9 : Int) - 1))) fun x47 => some (decide (x29.ticket ≤ x47.ticket))) else (some false)) fun s45 => if s45 = true then some (.rt 5) else Option.bind (qf people x29.person) fun x57 => if (decide (x57 < 0)) = true then some (.rt 7) else if ((!(zm x29.weight 1 20)) || (!(zm x29.since 0 3000000))) = true then some (.rt 2) else some (.nx ()))
  l.length (fun _ _ => True) (s := ()) trivial
  (by
   rintro k _ hk _
   have hx : l[k]? = some l[k] := List.getElem?_eq_getElem hk
   obtain ⟨a1, a2, a3, a4⟩ := h2 _ (List.getElem_mem hk)
   rw [zP, hx, Option.bind_some, if_neg (by simp [zm, a4.1, a4.2])]
   have hb : (if (decide ((0 : Int) < (k : Int))) = true then (Option.bind (idx l (w64 ((k : Int) - 1))) fun x47 => some (decide (l[k].ticket ≤ x47.ticket))) else (some false)) = some false := by
    by_cases h0 : (0 : Int) < (k : Int)
    ·have hw : w64 ((k : Int) - 1) = ((k - 1 : Nat) : Int) := by rw [Zi (by omega) (by omega)]; omega
     rw [if_pos (by simpa using h0), hw, zP, List.getElem?_eq_getElem (by omega)]
     have := List.pairwise_iff_getElem.1 h3 (k - 1) k (by omega) hk (by omega)
     rw [Option.bind_some, decide_eq_false (by omega)]
    ·rw [if_neg (by simpa using h0)]
   rw [hb, Option.bind_some, if_neg (by decide), zaN, Option.bind_some, if_neg (by simp; omega), if_neg (by simp [zm, a1.1, a1.2, a3.1, a3.2])]
   exact ⟨_, rfl, trivial⟩)
 rw [e]
 rfl
theorem zfB {R : ze} (h : RInv people cals steps m R) : ∃ s, ZC R = some s ∧ s.Perm R.held ∧ s.Pairwise fun a b => a.ticket < b.ticket := by
 unfold ZC
 have hl := h.hlen
 have k1 : Zh R.held = some R.held := by
  unfold Zh
  rw [Jk _ _ (by omega)]
  rfl
 obtain ⟨s, s1, s2, s3⟩ := zen R.held (by omega) h.heldA
 rw [k1, Option.bind_some, s1]
 exact ⟨s, rfl, s2, s3⟩
theorem zgY {R : ze} (h : RInv people cals steps m R) : qG R = some R.waiting := by
 unfold qG
 have hl := h.few
 have k1 : zJ R.waiting = some R.waiting := by
  unfold zJ
  rw [Jk _ _ (by omega)]
  rfl
 rw [k1, Option.bind_some]
 obtain ⟨s, e, i⟩ := Ze (R := List za) (b := fun k24 s32 => Option.bind (idx s32 (k24 : Int)) fun x47 => Option.bind (zq x47.needs) fun x56 => Option.bind (setI s32 (k24 : Int) ({ (x47 : za) with needs := x56 })) fun x74 => some (.nx x74)) R.waiting.length (fun _ s => s = R.waiting) rfl
  (by
   rintro k s hk rfl
   have hx : R.waiting[k]? = some R.waiting[k] := List.getElem?_eq_getElem hk
   have hn := ((h.fine _ (List.getElem_mem hk)).1).needs.len
   generalize R.waiting[k] = w at hx hn
   have k2 : zq w.needs = some w.needs := by
    unfold zq
    rw [Jk _ _ (by omega)]
    rfl
   rw [zP, hx, Option.bind_some, k2, Option.bind_some, QC _ _ _ hk, Option.bind_some, zff hx]
   exact ⟨_, rfl, rfl⟩)
 rw [e, i]
 rfl
def zbX (people : List zd) (away : List Bool) (aw : List (Int × Bool)) : Prop := ∀ (k : Nat) (p : zd), people[k]? = some p → away[k]? = some ((zw aw p.no).getD false)
theorem zkL (hc : Chk people cals steps) {R : ze} (h : RInv people cals steps m R) (hm : 0 ≤ m ∧ m ≤ 3000000) (hi : Idle people cals steps m R) {aw : List (Int × Bool)} (ha : zbX people R.assigner.away aw) : jg R people cals steps aw m = some true := by
 unfold jg
 obtain ⟨s, s1, s2, s3⟩ := zfB h
 have hp := hc.ok.duty.ppl
 have hl := h.hlen
 have hal : AllOK people s := ⟨by rw [s2.length_eq]; omega, fun x hx => h.all.2 x (s2.mem_iff.1 hx)⟩
 obtain ⟨ws, w1, w2, w3⟩ := zcL hp hal
 have hch : Jf people s = some 0 := by
  unfold Jf
  rw [hc.cp, Option.bind_some, if_neg (by simp), zll (by rw [s2.length_eq]; omega) (fun x hx => by
   have := h.held x (s2.mem_iff.1 hx)
   exact ⟨this.1, this.2.1, by omega, this.2.2.2⟩) s3]
  rfl
 have hroom : ∃ l, zaK people s = some (l, 0) ∧ l.length = people.length ∧ ∀ (k : Nat) (p : zd), people[k]? = some p → l[k]? = some (p.capacity - wOf R.held p.no) := by
  unfold zaK
  rw [hch, Option.bind_some, if_neg (by simp), w1, Option.bind_some]
  obtain ⟨l, e, i1, i2⟩ := Ze (R := List Int × Int) (b := fun k21 s29 => Option.bind (idx people (k21 : Int)) fun x44 => Option.bind (idx s29 (k21 : Int)) fun x63 => Option.bind (setI s29 (k21 : Int) (w64 (x44.capacity - x63))) fun x75 => some (.nx x75))
   people.length (fun n l => l.length = people.length ∧ ∀ (k : Nat) (p : zd), people[k]? = some p → l[k]? = some (if k < n then p.capacity - wOf R.held p.no else wOf R.held p.no)) (s := ws) ⟨w2, fun k p hk => by rw [if_neg (Nat.not_lt_zero k), w3 k p hk, zkw s2]⟩
   (by
    rintro k l hk ⟨i1, i2⟩
    have hx : people[k]? = some people[k] := List.getElem?_eq_getElem hk
    generalize people[k] = p at hx
    have hy := i2 k p hx
    rw [if_neg (Nat.lt_irrefl k)] at hy
    have hb := h.all.bnd p.no
    have hcp := (hp.2 k p hx).2.1
    rw [zP, hx, Option.bind_some, zP, hy, Option.bind_some, Zi (n := p.capacity - wOf R.held p.no) (by omega) (by omega), QC _ _ _ (by rw [i1]; exact hk)]
    refine ⟨_, rfl, by simpa using i1, fun j q hj => ?_⟩
    rw [List.getElem?_set]
    by_cases hkj : k = j
    ·subst hkj
     rw [hx] at hj
     cases hj
     rw [if_pos rfl, if_pos (by rw [i1]; exact hk), if_pos (Nat.lt_succ_self k)]
    ·rw [if_neg hkj, i2 j q hj]
     by_cases h1 : j < k
     ·rw [if_pos h1, if_pos (by omega)]
     ·rw [if_neg h1, if_neg (by omega)])
  rw [e]
  refine ⟨l, rfl, i1, fun k p hk => ?_⟩
  rw [i2 k p hk, if_pos (List.getElem?_eq_some_iff.1 hk).1]
 obtain ⟨l, r1, r2, r3⟩ := hroom
 rw [s1, Option.bind_some, r1, Option.bind_some, if_neg (by simp [r2])]
 obtain ⟨u, e, _⟩ := Ze (R := Bool) (b := fun k41 (_ : Unit) => Option.bind (α := Lp _ _) (Option.bind (idx people (k41 : Int)) fun x68 => Option.bind (idx l (k41 : Int)) fun x86 => Option.bind (if (decide (x86 < 0)) = true then (some true) else (Option.bind (if ((zw aw x68.no).getD false) = true then (some (x86 != x68.capacity)) else (some false)) fun s95 => some s95)) fun s92 => if s92 = true then some (.rt false) else Option.bind (qG R) fun x105 => Option.bind (zE (fun k115 (_ : Unit) => Option.bind (idx x105 (k115 : Int)) fun x134 => Option.bind (if (!((zw aw x68.no).getD false)) = true then (some (decide (x134.weight ≤ x86))) else (some false)) fun s154 => Option.bind (if s154 = true then (Option.bind (Zp people cals steps x134 x68.no m) fun x166 => some x166) else (some false)) fun s161 => if s161 = true then some (.rt false) else some (.nx ())) x105.length 0 ()) fun o112 => o112.andThen (fun y => some (.rt y)) fun s113 => some (.fin ())) fun o60 => o60.andThen (fun y => some (.rt y)) fun s61 => some (.nx ()))
  people.length (fun _ _ => True) (s := ()) trivial
  (by
   rintro k _ hk _
   have hx : people[k]? = some people[k] := List.getElem?_eq_getElem hk
   generalize people[k] = p at hx
   have hcap := h.cap k p hx
   have haw := ha k p hx
   rw [zP, hx, Option.bind_some, zP, r3 k p hx, Option.bind_some]
   have hs92 : (if (decide (p.capacity - wOf R.held p.no < 0)) = true then (some true) else (Option.bind (if ((zw aw p.no).getD false) = true then (some ((p.capacity - wOf R.held p.no) != p.capacity)) else (some false)) fun s95 => some s95)) = some false := by
    rw [if_neg (by simp; omega)]
    cases hb : (zw aw p.no).getD false with
    | false => rfl
    | true =>
     rw [hb] at haw
     have := h.off k p hx haw
     rw [if_pos rfl, this]
     simp
   rw [hs92, Option.bind_some, if_neg (by decide), zgY h, Option.bind_some]
   obtain ⟨v, e2, _⟩ := Ze (R := Bool) (b := fun k115 (_ : Unit) => Option.bind (idx R.waiting (k115 : Int)) fun x134 => Option.bind (if (!((zw aw p.no).getD false)) = true then (some (decide (x134.weight ≤ p.capacity - wOf R.held p.no))) else (some false)) fun s154 => Option.bind (if s154 = true then (Option.bind (Zp people cals steps x134 p.no m) fun x166 => some x166) else (some false)) fun s161 => if s161 = true then some (.rt false) else some (.nx ()))
    R.waiting.length (fun _ _ => True) (s := ()) trivial
    (by
     rintro j _ hj _
     have hy : R.waiting[j]? = some R.waiting[j] := List.getElem?_eq_getElem hj
     have hwm := List.getElem_mem hj
     generalize R.waiting[j] = w at hy hwm
     rw [zP, hy, Option.bind_some]
     cases hb : (zw aw p.no).getD false with
     | true => exact ⟨_, rfl, trivial⟩
     | false =>
      rw [hb] at haw
      by_cases hwt : w.weight ≤ p.capacity - wOf R.held p.no
      ·have hcv := zgn hc (h.fine w hwm).1 hm hx
       have hno : (ablB p (qi w steps m) && onB cals m p) = false := by
        rw [← Bool.not_eq_true, Bool.and_eq_true]
        rintro ⟨a1, a2⟩
        have := hi w hwm k p hx haw a2 a1
        omega
       rw [hno] at hcv
       rw [decide_eq_true hwt]
       simp only [Bool.not_false, if_true, Option.bind_some, hcv]
       exact ⟨_, rfl, trivial⟩
      ·rw [decide_eq_false hwt]
       exact ⟨_, rfl, trivial⟩)
   rw [e2]
   exact ⟨_, rfl, trivial⟩)
 rw [e]
 rfl
end
end Go.Proofs.YtiblagcmjobknaaGreatDoor.M
namespace Go.Proofs.YtiblagcmjobknaaGreatDoor.M
open Go Go.Pu
set_option linter.unusedSimpArgs false
set_option linter.unusedVariables false
theorem zlT : jd = some true := by
 have h1 : zbi (⟨#[120]⟩ : ByteArray) (⟨#[10]⟩ : ByteArray) = some ((⟨#[120]⟩ : ByteArray), (⟨#[]⟩ : ByteArray), false) := rfl
 have h2 : zas (⟨#[120]⟩ : ByteArray) (⟨#[32]⟩ : ByteArray) = some [(⟨#[120]⟩ : ByteArray)] := rfl
 have h3 : jH (⟨#[120]⟩ : ByteArray) = some ((⟨0, 0, 0, []⟩ : zd), false) := by
  unfold jH
  rw [h2]
  rfl
 unfold jd JB
 rw [if_neg (by decide)]
 have hw : ∀ body : (ByteArray × List zd × Int) → Option (Ctl (ByteArray × List zd × Int) (List zd × Int × Int)), body ((⟨#[120]⟩ : ByteArray), [], 1) = some (.rt ([], 1, 8)) → QT body ((⟨#[120]⟩ : ByteArray), [], 1) = some (.rt ([], 1, 8)) := fun body h => zaj.2 ⟨1, by rw [qJ, h]⟩
 rw [hw]
 ·rfl
 ·dsimp only
  rw [if_pos (by rw [zjV]; rfl), h1, Option.bind_some]
  dsimp only
  rw [h3, Option.bind_some]
  rfl
theorem zfz {α : Type} (l : List (Int × α)) (k k' : Int) : zw (zaf l k) k' = if k = k' then none else zw l k' := by
 unfold zaf
 induction l with
 | nil => simp [zw]
 | cons p l ih =>
  rw [List.filter_cons]
  by_cases hp : p.1 = k
  ·rw [if_neg (by simpa using hp), ih, zw]
   by_cases hk : k = k'
   ·rw [if_pos hk, if_pos hk]
   ·rw [if_neg hk, if_neg hk, if_neg (by rw [hp]; exact hk)]
  ·rw [if_pos (by simpa using hp), zw, zw, ih]
   by_cases hk : k = k'
   ·subst hk
    rw [if_neg hp, if_pos rfl, if_pos rfl]
   ·rw [if_neg hk, if_neg hk]
theorem ziY (l : List zb) : zZ l l = some true := by
 unfold zZ
 obtain ⟨t, ht, _⟩ := Ze (R := Bool) (b := fun k9 (_ : Unit) => Option.bind (idx l (k9 : Int)) fun x29 => Option.bind (idx l (k9 : Int)) fun x34 => if (!(x29.ticket == x34.ticket && (x29.person == x34.person && (x29.weight == x34.weight && (x29.since == x34.since))))) = true then some (.rt false) else some (.nx ())) l.length (fun _ _ => True) (s := ()) trivial
  (fun k s hk _ => ⟨(), by simp [zhj _ _ hk], trivial⟩)
 rw [if_neg (by simp), ht]
 rfl
section
variable {people : List zd} {cals : List zg} {steps : List zk} {m : Int}
theorem zkh (hc : Chk people cals steps) {work waits : List (Int × za)} {gv : List zb} (hg : ∀ x ∈ gv, zdE people cals steps work x) (hw : ∀ t, zw waits t = zw work t) :
  zE (R := Bool) (fun k260 (_ : Unit) => Option.bind (idx gv (k260 : Int)) fun x279 => Option.bind (Zp people cals steps ((zw waits x279.ticket).getD (⟨0, 0, 0, 0, 0, []⟩)) x279.person x279.since) fun x301 => if (!x301) = true then some (.rt false) else some (.nx ())) gv.length 0 () = some (.fin ()) := by
 obtain ⟨u, e, _⟩ := Ze (R := Bool) (b := fun k260 (_ : Unit) => Option.bind (idx gv (k260 : Int)) fun x279 => Option.bind (Zp people cals steps ((zw waits x279.ticket).getD (⟨0, 0, 0, 0, 0, []⟩)) x279.person x279.since) fun x301 => if (!x301) = true then some (.rt false) else some (.nx ())) gv.length (fun _ _ => True) (s := ()) trivial
  (by
   rintro k _ hk _
   have hx : gv[k]? = some gv[k] := List.getElem?_eq_getElem hk
   obtain ⟨v, v1, v2, v3, j, p, v4, v5, v6, v7⟩ := hg _ (List.getElem_mem hk)
   generalize gv[k] = x at hx v1 v3 v5 v6 v7
   rw [zP, hx, Option.bind_some, hw, v1, v5]
   dsimp only [Option.getD_some]
   rw [zgn hc v2 v3 v4, v6, v7]
   exact ⟨(), rfl, trivial⟩)
 rw [e]
theorem zgm {R : ze} {s : List zb} (hs : ZC R = some s) (e : Int) (he : e ≠ 0) (m' : Int) (waits : List (Int × za)) (aw : List (Int × Bool)) :
  (if (e != 0) = true then Option.bind (qZ R) fun x228 => Option.bind (if (decide ((0 : Int) < ((([] : List zb)).length : Int))) = true then (some true) else (Option.bind (ZC R) fun x243 => Option.bind (zZ s x243) fun x250 => some (!x250))) fun s234 => if s234 = true then some (.rt false) else some (.fin (x228, waits, aw, R)) else Option.bind (zE (fun k260 (_ : Unit) => Option.bind (idx ([] : List zb) (k260 : Int)) fun x279 => Option.bind (Zp people cals steps ((zw waits x279.ticket).getD (⟨0, 0, 0, 0, 0, []⟩)) x279.person x279.since) fun x301 => if (!x301) = true then some (.rt false) else some (.nx ())) (([] : List zb)).length 0 ()) fun o257 => o257.andThen (fun y => some (.rt y)) fun s258 => Option.bind (jg R people cals steps aw m') fun x309 => if (!x309) = true then some (.rt false) else some (.fin (m', waits, aw, R)))
   = (some (.fin (R.now, waits, aw, R)) : Option (Lp (Int × List (Int × za) × List (Int × Bool) × ze) Bool)) := by
 rw [if_pos (by simpa using he)]
 unfold qZ
 rw [Option.bind_some, if_neg (by decide), hs, Option.bind_some, ziY]
 rfl
theorem zfx (hc : Chk people cals steps) (hm : 0 ≤ m ∧ m ≤ 3000000) {R : ze} (h : RInv people cals steps m R) (hi : Idle people cals steps m R) {waits : List (Int × za)} {aw : List (Int × Bool)} (ha : zbX people R.assigner.away aw) {gv : List zb} (hg : ∀ x ∈ gv, zdE people cals steps R.work x) (hw : ∀ t, zw waits t = zw R.work t) (s : List zb) :
  (if ((0 : Int) != 0) = true then Option.bind (qZ R) fun x228 => Option.bind (if (decide ((0 : Int) < (gv.length : Int))) = true then (some true) else (Option.bind (ZC R) fun x243 => Option.bind (zZ s x243) fun x250 => some (!x250))) fun s234 => if s234 = true then some (.rt false) else some (.fin (x228, waits, aw, R)) else Option.bind (zE (fun k260 (_ : Unit) => Option.bind (idx gv (k260 : Int)) fun x279 => Option.bind (Zp people cals steps ((zw waits x279.ticket).getD (⟨0, 0, 0, 0, 0, []⟩)) x279.person x279.since) fun x301 => if (!x301) = true then some (.rt false) else some (.nx ())) gv.length 0 ()) fun o257 => o257.andThen (fun y => some (.rt y)) fun s258 => Option.bind (jg R people cals steps aw m) fun x309 => if (!x309) = true then some (.rt false) else some (.fin (m, waits, aw, R)))
   = (some (.fin (m, waits, aw, R)) : Option (Lp (Int × List (Int × za) × List (Int × Bool) × ze) Bool)) := by
 rw [if_neg (by simp), zkh hc hg hw, Option.bind_some, Lp.andThen_fin, zkL hc h hm hi ha]
 rfl
structure Main (people : List zd) (cals : List zg) (steps : List zk) (m : Int) (waits : List (Int × za)) (aw : List (Int × Bool)) (R : ze) : Prop where
 m : 0 ≤ R.now ∧ R.now ≤ m ∧ m ≤ 3000000
 inv : RInv people cals steps R.now R
 waits : ∀ t, zw waits t = zw R.work t
 away : zbX people R.assigner.away aw
theorem zhU (hp : Jg people) {away : List Bool} {aw aw' : List (Int × Bool)} (ha : zbX people away aw) {k : Nat} {p : zd} (hk : people[k]? = some p) (b : Bool) (h1 : (zw aw' p.no).getD false = b) (h2 : ∀ n, n ≠ p.no → zw aw' n = zw aw n) : zbX people (away.set k b) aw' := fun j q hj => by
 rw [List.getElem?_set]
 by_cases hkj : k = j
 ·subst hkj
  rw [hk] at hj
  cases hj
  have := ha k p hk
  rw [if_pos rfl, if_pos (List.getElem?_eq_some_iff.1 this).1, h1]
 ·rw [if_neg hkj, ha j q hj, h2]
  exact fun e => hkj (zbq hp hk hj e.symm)
theorem zcW {people : List zd} {cals : List zg} {steps : List zk} (hc : Chk people cals steps) {m m' : Int} {waits : List (Int × za)} {aw : List (Int × Bool)} {R : ze} (h : Main people cals steps m waits aw R) (hm : m ≤ m' ∧ m' ≤ 3000000) {do_ : ze → Option (Int × ze)} {Post : ze → ze → Prop} (hd : Does people cals steps m' do_ Post) :
  ∃ gv e R', ZU R m' do_ = some (gv, e, R') ∧ ((e ≠ 0 ∧ gv = [] ∧ R' = R) ∨ (e = 0 ∧ RInv people cals steps m' R' ∧ R'.now = m' ∧ Idle people cals steps m' R' ∧ (∀ x ∈ gv, zdE people cals steps R'.work x) ∧
   ∃ S S', S.assigner = R.assigner ∧ S.work = R.work ∧ Post S S' ∧ R'.assigner = S'.assigner ∧ R'.work = S'.work)) :=
 zkH hc.ok h.inv h.m.1 (by have := h.m; omega) (by have := h.m; omega) hd
end
theorem zkx {S : Type} {body : S → Option (Ctl S Bool)} {s : S} (I : S → Prop) (μ : S → Nat) (h0 : I s)
  (round : ∀ s, I s → body s = some (.rt true) ∨ (∃ t, body s = some (.bk t)) ∨ ∃ t, body s = some (.nx t) ∧ I t ∧ μ t < μ s) : Option.bind (QT body s) (fun o => o.andThen (fun y => some y) fun _ => some true) = some true := by
 obtain ⟨r, e, h⟩ := zar (body := body) I μ (fun r => r = .rt true ∨ ∃ t, r = .fin t) h0 fun s hs => by
  rcases round s hs with e | ⟨t, e⟩ | ⟨t, e, h1, h2⟩
  ·exact ⟨_, e, .inl rfl⟩
  ·exact ⟨_, e, .inr ⟨t, rfl⟩⟩
  ·exact ⟨_, e, h1, h2⟩
 rw [e]
 rcases h with rfl | ⟨t, rfl⟩ <;> rfl
theorem zjv (people : List zd) (cals : List zg) (steps : List zk) (work : List za) (script : List Int) (h1 : ∀ p ∈ people, ∀ k ∈ p.skills, k.name.size ≤ 9223372036854775807) (h2 : ∀ w ∈ work, ∀ k ∈ w.needs, k.name.size ≤ 9223372036854775807) : JG people cals steps work script = some true := by
 unfold JG
 rw [zlT, Option.bind_some, if_neg (by decide)]
 rcases zlo people cals steps h1 with ⟨e, he⟩ | ⟨e, hok, hcc, hcs, hcp⟩
 ·rw [he]
  rfl
 rw [e, Option.bind_some]
 dsimp only
 rw [if_neg (by decide)]
 have hc : Chk people cals steps := ⟨hok, hcc, hcs, hcp⟩
 have hp := hok.duty.ppl
 refine zkx (fun s => Main people cals steps s.2.1 s.2.2.1 s.2.2.2.1 s.2.2.2.2) (fun s => s.1.length) ⟨⟨Int.le_refl _, Int.le_refl _, (show (0 : Int) ≤ 3000000 by decide)⟩, zlt hok, fun _ => rfl, fun k p hk => by simp [zw, (List.getElem?_eq_some_iff.1 hk).1]⟩ ?_
 rintro ⟨script, m, waits, aw, R⟩ h
 dsimp only at h ⊢
 by_cases hl : (4 : Int) ≤ (script.length : Int)
 rotate_left
 ·rw [if_neg (by simpa using hl)]
  exact .inr (.inl ⟨_, rfl⟩)
 rw [if_pos (by simpa using hl)]
 have hm0 := h.m
 obtain ⟨x3, e3, _⟩ := zdn (l := script) (i := 3) (by decide) (by omega)
 obtain ⟨x2, e2, _⟩ := zdn (l := script) (i := 2) (by decide) (by omega)
 obtain ⟨x1, e1, _⟩ := zdn (l := script) (i := 1) (by decide) (by omega)
 obtain ⟨x0, e0, _⟩ := zdn (l := script) (i := 0) (by decide) (by omega)
 have hsl : zaH script (some 4) none = some (script.drop 4) := by
  unfold zaH zdd
  simp
  omega
 rw [e3, Option.bind_some, Zi (n := 3000000 - m) (by omega) (by omega)]
 have hs130 : (if (decide (x3 < 0)) = true then (some true) else (some (decide ((3000000 - m) < x3)))) = some (decide (x3 < 0 ∨ 3000000 - m < x3)) := by
  by_cases h : x3 < 0
  ·rw [if_pos (by simpa using h), decide_eq_true (.inl h)]
  ·rw [if_neg (by simpa using h)]
   congr 1
   rw [Bool.eq_iff_iff, decide_eq_true_eq, decide_eq_true_eq]
   exact ⟨.inr, fun h2 => h2.resolve_left h⟩
 rw [hs130, Option.bind_some]
 by_cases hx3 : x3 < 0 ∨ 3000000 - m < x3
 ·rw [if_pos (by simpa using hx3)]
  exact .inl rfl
 rw [if_neg (by simpa using hx3), Zi (n := m + x3) (by omega) (by omega)]
 have hm' : m ≤ m + x3 ∧ m + x3 ≤ 3000000 := by omega
 obtain ⟨hs, hs1, _⟩ := zfB h.inv
 have hs1' : ∀ (S : ze), S = R → ZC S = some hs := fun S e => by rw [e]; exact hs1
 rw [hs1, Option.bind_some, e2, Option.bind_some, e0, Option.bind_some, e1]
 generalize Int.tmod (w64 ((Int.tmod x0 5) + 5)) 5 = kd
 suffices hgo : ∀ r : Option (Lp (Int × List (Int × za) × List (Int × Bool) × ze) Bool), (∃ m' waits' aw' R', r = some (.fin (m', waits', aw', R')) ∧ Main people cals steps m' waits' aw' R') →
   ∃ t, Option.bind r (fun o104 => o104.andThen (fun y => some (.rt y)) fun s105 => Option.bind (zaH script (some 4) none) fun x610 => some (.nx (x610, s105.1, s105.2.1, s105.2.2.1, s105.2.2.2))) = (some (.nx t) : Option (Ctl (List Int × Int × List (Int × za) × List (Int × Bool) × ze) Bool)) ∧ Main people cals steps t.2.1 t.2.2.1 t.2.2.2.1 t.2.2.2.2 ∧ t.1.length < script.length by
  refine .inr (.inr (hgo _ ?_))
  by_cases hk0 : (kd == 0) = true
  ·rw [if_pos hk0, Option.bind_some]
   by_cases hx1 : x1 < 0 ∨ (work.length : Int) ≤ x1
   ·have e4 : (if (decide (x1 < 0)) = true then (some true) else (some (decide ((work.length : Int) ≤ x1)))) = some true := by
     by_cases h : x1 < 0
     ·rw [if_pos (by simpa using h)]
     ·rw [if_neg (by simpa using h), decide_eq_true (hx1.resolve_left h)]
    rw [e4, Option.bind_some, if_pos rfl]
    exact ⟨_, _, _, _, rfl, ⟨by omega, h.inv, h.waits, h.away⟩⟩
   ·have e4 : (if (decide (x1 < 0)) = true then (some true) else (some (decide ((work.length : Int) ≤ x1)))) = some false := by
     rw [if_neg (by simp; omega), decide_eq_false (by omega)]
    obtain ⟨w, ew, _⟩ := zdn (l := work) (i := x1) (by omega) (by omega)
    obtain ⟨gv, e, R', c1, c2⟩ := zcW hc h hm' (zix (m := m + x3) w (h2 w (ziA ew)))
    have ca : QP R w (m + x3) = some (gv, e, R') := by
     unfold QP
     rw [c1]
     rfl
    rw [e4, Option.bind_some, if_neg (by decide), ew, Option.bind_some, ca, Option.bind_some]
    dsimp only
    rcases c2 with ⟨he, rfl, rfl⟩ | ⟨rfl, i1, i2, i3, i4, S, S', s1, s2, ⟨p1, p2, p3⟩, q1, q2⟩
    ·rw [if_neg (by simpa using he), Option.bind_some, zgm hs1 e he]
     exact ⟨_, _, _, _, rfl, ⟨by omega, h.inv, h.waits, h.away⟩⟩
    ·have hw' : ∀ t, zw (QO waits w.ticket w) t = zw R'.work t := fun t => by rw [q2, p2, s2, Jh, Jh, h.waits]
     have ha' : zbX people R'.assigner.away aw := by rw [q1, p1, s1]; exact h.away
     rw [if_pos (show ((0 : Int) == 0) = true from rfl), Option.bind_some, zfx hc ⟨by omega, by omega⟩ i1 i3 ha' i4 hw' hs]
     exact ⟨_, _, _, _, rfl, ⟨by omega, by rw [i2]; exact i1, hw', ha'⟩⟩
  rw [if_neg hk0]
  suffices hoth : ∃ (e : Int) (gv : List zb) (R' : ze) (aw' : List (Int × Bool)), (if (kd == 1) = true then Option.bind (qS R x2 (m + x3)) fun x340 => some (x340.2.1, x340.1, x340.2.2, aw) else Option.bind (if (kd == 2) = true then Option.bind (Qd R x2 (m + x3)) fun x390 => Option.bind (if (x390.2.1 == 0) = true then some (QO aw x2 true) else some aw) fun s411 => some (x390.2.1, x390.1, x390.2.2, s411) else Option.bind (if (kd == 3) = true then Option.bind (qV R x2 (m + x3)) fun x454 => Option.bind (if (x454.2.1 == 0) = true then some (zaf aw x2) else some aw) fun s475 => some (x454.2.1, x454.1, x454.2.2, s475) else Option.bind (QK R (m + x3)) fun x494 => some (x494.2.1, x494.1, x494.2.2, aw)) fun s431 => some (s431.1, s431.2.1, s431.2.2.1, s431.2.2.2)) fun s367 => some (s367.1, s367.2.1, s367.2.2.1, s367.2.2.2)) = some (e, gv, R', aw') ∧
    ((e ≠ 0 ∧ gv = [] ∧ R' = R ∧ aw' = aw) ∨ (e = 0 ∧ RInv people cals steps (m + x3) R' ∧ R'.now = m + x3 ∧ Idle people cals steps (m + x3) R' ∧ (∀ x ∈ gv, zdE people cals steps R'.work x) ∧ R'.work = R.work ∧ zbX people R'.assigner.away aw')) by
   obtain ⟨e, gv, R', aw', e5, c2⟩ := hoth
   rw [e5, Option.bind_some]
   dsimp only
   rcases c2 with ⟨he, rfl, rfl, rfl⟩ | ⟨rfl, i1, i2, i3, i4, i5, ha'⟩
   ·rw [zgm hs1 e he]
    exact ⟨_, _, _, _, rfl, ⟨by omega, h.inv, h.waits, h.away⟩⟩
   ·have hw' : ∀ t, zw waits t = zw R'.work t := fun t => by rw [i5, h.waits]
    rw [zfx hc ⟨by omega, by omega⟩ i1 i3 ha' i4 hw' hs]
    exact ⟨_, _, _, _, rfl, ⟨by omega, by rw [i2]; exact i1, hw', ha'⟩⟩
  by_cases hk1 : (kd == 1) = true
  ·obtain ⟨gv, e, R', c1, c2⟩ := zcW hc h hm' (zii (m := m + x3) x2)
   have ca : qS R x2 (m + x3) = some (gv, e, R') := by
    unfold qS
    rw [c1]
    rfl
   rw [if_pos hk1, ca]
   refine ⟨e, gv, R', aw, rfl, c2.imp (fun q => ⟨q.1, q.2.1, q.2.2, rfl⟩) ?_⟩
   rintro ⟨q1, q2, q3, q4, q5, S, S', s1, s2, ⟨p1, p2⟩, t1, t2⟩
   exact ⟨q1, q2, q3, q4, q5, by rw [t2, p2, s2], by rw [t1, p1, s1]; exact h.away⟩
  rw [if_neg hk1]
  by_cases hk2 : (kd == 2) = true
  ·obtain ⟨gv, e, R', c1, c2⟩ := zcW hc h hm' (zjk (m := m + x3) hp x2)
   have ca : Qd R x2 (m + x3) = some (gv, e, R') := by
    unfold Qd
    rw [c1]
    rfl
   rw [if_pos hk2, ca, Option.bind_some]
   dsimp only
   rcases c2 with ⟨he, rfl, rfl⟩ | ⟨rfl, q2, q3, q4, q5, S, S', s1, s2, ⟨p1, k, p, p2, p3, p4⟩, t1, t2⟩
   ·rw [if_neg (by simpa using he)]
    exact ⟨e, [], _, aw, rfl, .inl ⟨he, rfl, rfl, rfl⟩⟩
   ·rw [if_pos (show ((0 : Int) == 0) = true from rfl)]
    refine ⟨0, gv, R', _, rfl, .inr ⟨rfl, q2, q3, q4, q5, by rw [t2, p1, s2], ?_⟩⟩
    rw [t1, p4, s1]
    refine zhU hp h.away p2 true (by rw [Jh, if_pos p3.symm]; rfl) fun n hn => ?_
    rw [Jh, if_neg (fun e => hn (by rw [p3, e]))]
  rw [if_neg hk2]
  by_cases hk3 : (kd == 3) = true
  ·obtain ⟨gv, e, R', c1, c2⟩ := zcW hc h hm' (zic (m := m + x3) x2)
   have ca : qV R x2 (m + x3) = some (gv, e, R') := by
    unfold qV
    rw [c1]
    rfl
   rw [if_pos hk3, ca, Option.bind_some]
   dsimp only
   rcases c2 with ⟨he, rfl, rfl⟩ | ⟨rfl, q2, q3, q4, q5, S, S', s1, s2, ⟨p1, k, p, p2, p3, p4⟩, t1, t2⟩
   ·rw [if_neg (by simpa using he)]
    exact ⟨e, [], _, aw, rfl, .inl ⟨he, rfl, rfl, rfl⟩⟩
   ·rw [if_pos (show ((0 : Int) == 0) = true from rfl)]
    refine ⟨0, gv, R', _, rfl, .inr ⟨rfl, q2, q3, q4, q5, by rw [t2, p1, s2], ?_⟩⟩
    rw [t1, p4, s1]
    refine zhU hp h.away p2 false (by rw [zfz, if_pos p3.symm]; rfl) fun n hn => ?_
    rw [zfz, if_neg (fun e => hn (by rw [p3, e]))]
  rw [if_neg hk3]
  obtain ⟨gv, e, R', c1, c2⟩ := zcW hc h hm' (zkk (m := m + x3))
  have ca : QK R (m + x3) = some (gv, e, R') := by
   unfold QK
   rw [c1]
   rfl
  rw [ca]
  refine ⟨e, gv, R', aw, rfl, c2.imp (fun q => ⟨q.1, q.2.1, q.2.2, rfl⟩) ?_⟩
  rintro ⟨q1, q2, q3, q4, q5, S, S', s1, s2, ⟨p1, p2⟩, t1, t2⟩
  exact ⟨q1, q2, q3, q4, q5, by rw [t2, p2, s2], by rw [t1, p1, s1]; exact h.away⟩
 rintro r ⟨m', waits', aw', R', rfl, hM⟩
 rw [Option.bind_some, Lp.andThen_fin, hsl]
 exact ⟨_, rfl, hM, by dsimp only; rw [List.length_drop]; omega⟩
end Go.Proofs.YtiblagcmjobknaaGreatDoor.M
