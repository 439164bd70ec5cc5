/-
  Common and its reference agree: plain part.
-/
import Derived.Test.YtoflhekllembeaaCalCommonComSweep
namespace Go.Proofs.Ytoflhekllembeaa.M
open Go Go.Pu
set_option linter.unusedSimpArgs false
set_option linter.unusedVariables false

theorem equal_spans (l : List cal_Span) : slices_Equal_Lcal_Span_cal_Span l l = some true := by
  unfold slices_Equal_Lcal_Span_cal_Span
  simp only [bne_self_eq_false, Bool.false_eq_true, if_false]
  obtain ⟨t, h, _⟩ := rangeB_inv (R := Bool) (b := fun k9 (_ : Unit) => Option.bind (idx l (k9 : Int)) fun x29 => Option.bind (idx l (k9 : Int)) fun x34 => if (!(x29.from_ == x34.from_ && (x29.to_ == x34.to_))) = true then some (.rt false) else some (.nx ())) l.length (fun _ _ => True) (s := ()) trivial
    (fun k s hk _ => by rw [idx_lt _ _ hk]; simp)
  rw [h]
  rfl

theorem spansOf_val (from_ to_ : Int) (holds : Int → Option Bool) (O : Int → Prop) (h0 : 0 ≤ from_) (h1 : from_ ≤ to_) (h2 : to_ ≤ 3000001) (hh : ∀ m, from_ ≤ m → m < to_ → ∃ b, holds m = some b ∧ (b = true ↔ O m)) :
    ∃ l, portref2_spansOf from_ to_ holds = some l ∧ Apart O from_ to_ l := by
  unfold portref2_spansOf
  obtain ⟨o, ho, l, q, rfl, hl⟩ := whileB_spec (R := List cal_Span) (body := fun s12 : List cal_Span × Int => if (decide (s12.2 < to_)) = true then Option.bind (Option.bind (holds s12.2) fun x36 => if (!x36) = true then some s12.1 else Option.bind (if (decide ((0 : Int) < (s12.1.length : Int))) = true then (Option.bind (idx s12.1 (w64 ((s12.1.length : Int) - 1))) fun x45 => some (x45.to_ == s12.2)) else (some false)) fun s44 => Option.bind (if s44 = true then Option.bind (idx s12.1 (w64 ((s12.1.length : Int) - 1))) fun x62 => Option.bind (setI s12.1 (w64 ((s12.1.length : Int) - 1)) ({ (x62 : cal_Span) with to_ := w64 (x62.to_ + 1) })) fun x73 => some x73 else Option.bind (appendL 8796093022208 s12.1 ([(⟨s12.2, w64 (s12.2 + 1)⟩ : cal_Span)] : List cal_Span)) fun x84 => some x84) fun s52 => some s52) fun s27 => some (.nx (s27, w64 (s12.2 + 1))) else some (.bk (s12.1, s12.2)))
    (fun s => from_ ≤ s.2 ∧ s.2 ≤ to_ ∧ Apart O from_ s.2 s.1 ∧ (s.1.length : Int) ≤ s.2) (fun s => (to_ - s.2).toNat) (fun o => ∃ l q, o = .fin (l, q) ∧ Apart O from_ to_ l) (s := ([], from_))
    ⟨Int.le_refl _, h1, ⟨fun x hx => by simp at hx, .nil, fun m q1 q2 => by simp only at q2; omega⟩, by simpa using h0⟩ (by
      rintro ⟨l, m⟩ ⟨i1, i2, i3, i4⟩
      simp only at i1 i2 i3 i4 ⊢
      by_cases hm : m < to_
      rotate_left
      · simp only [hm, decide_false, Bool.false_eq_true, if_false]
        obtain rfl : m = to_ := by omega
        exact ⟨_, rfl, l, m, rfl, i3⟩
      obtain ⟨b, hb, hbo⟩ := hh m i1 hm
      have hw1 : w64 (m + 1) = m + 1 := w64_id (by omega) (by omega)
      simp only [hm, decide_true, if_true, hb, Option.bind_some, hw1]
      cases b with
      | false =>
        simp only [Bool.not_false, if_true, Option.bind_some]
        exact ⟨_, rfl, ⟨by omega, by omega, apart_wait i3 (fun h => by have := hbo.2 h; cases this), by simp only; omega⟩, by simp only; omega⟩
      | true =>
        have ho : O m := hbo.1 rfl
        simp only [Bool.not_true, Bool.false_eq_true, if_false]
        rcases List.eq_nil_or_concat l with rfl | ⟨l0, x, rfl⟩
        · simp only [List.length_nil, show ¬ (0 : Int) < ((0 : Nat) : Int) by decide, decide_false, Bool.false_eq_true, if_false, Option.bind_some]
          rw [appendL, if_pos (by simp)]
          refine ⟨_, rfl, ⟨by omega, by omega, ?_, by simp; omega⟩, by simp only; omega⟩
          exact apart_new i3 i1 ho (by simp)
        · have hlen : (((l0.concat x).length : Int) - 1) = (l0.length : Int) := by simp
          have hw2 : w64 (((l0.concat x).length : Int) - 1) = (l0.length : Int) := by rw [hlen]; simp at i4; exact w64_id (by omega) (by omega)
          have hpos : (0 : Int) < ((l0.concat x).length : Int) := by rw [List.length_concat]; omega
          have hg : (l0.concat x)[l0.length]? = some x := by simp
          rw [List.concat_eq_append] at i3
          have hxe := i3.each x (by simp)
          simp only [hpos, decide_true, if_true, hw2, idx_nat, hg, Option.bind_some]
          by_cases hx : x.to_ = m
          · have hxb : (x.to_ == m) = true := by simpa using hx
            have hs : setI (l0.concat x) (l0.length : Int) (⟨x.from_, w64 (x.to_ + 1)⟩ : cal_Span) = some (l0 ++ [⟨x.from_, m + 1⟩]) := by
              rw [setI, if_pos ⟨by omega, by simp⟩, hx, hw1, List.concat_eq_append]
              congr 1
              rw [Int.toNat_natCast, List.set_append_right _ _ (by simp)]
              simp
            simp only [hxb, if_true, hs, Option.bind_some]
            refine ⟨_, rfl, ⟨by omega, by omega, apart_grow i3 ho hx, by simp at i4 ⊢; omega⟩, by simp only; omega⟩
          · have hxb : (x.to_ == m) = false := by simpa using hx
            simp only [hxb, Bool.false_eq_true, if_false]
            rw [appendL, if_pos (by simp at i4 ⊢; omega)]
            refine ⟨_, rfl, ⟨by omega, by omega, ?_, by simp at i4 ⊢; omega⟩, by simp only; omega⟩
            rw [List.concat_eq_append]
            refine apart_new i3 i1 ho fun y hy => ?_
            rcases List.mem_append.1 hy with hy | hy
            · have := (List.pairwise_append.1 i3.apart).2.2 y hy x (by simp)
              omega
            · simp at hy; subst hy; omega)
  rw [ho]
  exact ⟨l, rfl, hl⟩

theorem flatK_flat {α β : Type} (g : α → List β) (l : List α) : ∀ k, flatK (fun _ x => g x) k l = l.flatMap g := by
  induction l with
  | nil => intro k; rfl
  | cons x l ih => intro k; rw [flatK, List.flatMap_cons, ih]
theorem points_one (all : List cal_Span) : pointsL [all] = all.flatMap fun s => [s.from_, s.to_] := by
  unfold pointsL
  rw [flatK, flatK, List.append_nil, flatK_flat]
theorem points_len (all : List cal_Span) : (all.flatMap fun s => [s.from_, s.to_]).length = 2 * all.length := by
  induction all with
  | nil => rfl
  | cons x l ih => rw [List.flatMap_cons, List.length_append, ih, List.length_cons]; simp; omega
theorem swept_one (all : List cal_Span) (need f t : Int) (hn : 1 ≤ need) (hft : f ≤ t) (hl : ∀ s ∈ all, f ≤ s.from_ ∧ s.from_ < s.to_ ∧ s.to_ ≤ t) (hlen : all.length ≤ 10000000) :
    ∃ r, cal_swept [all] (fun y => cal_Common_1 y need) = some r ∧ Apart (fun m => decide (need ≤ opened m all) = true) f t r := by
  have hpl := points_one all
  have hpn := points_len all
  have h1 := rangeB_flat (R := List cal_Span) [all] (fun k x => flatK (fun _ s => ends2 k s) 0 x) 5864062014805 (fun k6 s14 => Option.bind (Option.bind (idx [all] (k6 : Int)) fun x39 => Option.bind (rangeB (R := Empty) (fun k49 s57 => Option.bind (idx x39 (k49 : Int)) fun x72 => Option.bind (appendL 5864062014805 s57 ([(⟨x72.from_, (k6 : Int), 1⟩ : cal_edge), (⟨x72.to_, (k6 : Int), (-1)⟩ : cal_edge)] : List cal_edge)) fun x94 => some (.nx x94)) x39.length 0 s14) fun o46 => o46.andThen (fun y => y.elim) fun s47 => some s47) fun s30 => some (.nx s30))
    (fun k x s hx hs => by
      simp only [idx_nat, hx, Option.bind_some]
      rw [rangeB_flat (R := Empty) x (fun _ s => ends2 k s) 5864062014805 _ (fun j y t hy ht => by
        rw [hy, Option.bind_some, appendL, if_pos (by simpa [ends2] using ht)]
        rfl) s hs]
      rfl) [] (by have := edges_len [all]; unfold edgesL at this; rw [this, hpl, hpn]; simp; omega)
  rw [List.nil_append] at h1
  change _ = some (Lp.fin (edgesL [all])) at h1
  unfold cal_swept
  rw [h1, Option.bind_some, Lp.andThen_fin]
  have hel := edges_len [all]
  rw [hpl, hpn] at hel
  rw [sortFuncP, if_pos ⟨by omega, swept_swo⟩, Option.bind_some]
  obtain ⟨hp, hs⟩ := pdqL_spec (cmp := fun y1 y2 => (cal_swept_1 y1 y2).getD 0) swept_swo (edgesL [all])
  generalize pdqL (fun y1 y2 => (cal_swept_1 y1 y2).getD 0) (edgesL [all]) = E at hp hs
  have hps : (E.map (·.at_)).Pairwise (· ≤ ·) := by
    rw [List.pairwise_map]
    exact hs.imp fun {x y} h => by rw [swept_lt] at h; omega
  have hmem : ∀ x, x ∈ E.map (·.at_) ↔ ∃ s ∈ all, x = s.from_ ∨ x = s.to_ := by
    intro x
    rw [(hp.map (·.at_)).mem_iff, edges_at, hpl, List.mem_flatMap]
    simp
  have hpe := hp.length_eq
  rw [makeL, if_pos ⟨by simp, by simp⟩, Option.bind_some, Int.toNat_natCast]
  obtain ⟨c, q, hv⟩ := sweep_val [all] (fun y => cal_Common_1 y need) (fun a => decide (need ≤ opened a all)) (by
      intro l hll s hs
      simp at hll
      subst hll
      exact (hl s hs).2.1) (by
      intro a
      show cal_Common_1 [opened a all] need = _
      unfold cal_Common_1
      simp [idx]) E hp (by
    intro s t x y hst hx hy
    rcases Nat.lt_or_ge s t with h | h
    · have h3 := List.pairwise_iff_getElem.1 hs s t (List.getElem?_eq_some_iff.1 hx).1 (List.getElem?_eq_some_iff.1 hy).1 h
      rw [(List.getElem?_eq_some_iff.1 hx).2, (List.getElem?_eq_some_iff.1 hy).2, swept_lt] at h3
      omega
    · obtain rfl : s = t := by omega
      rw [hx] at hy
      cases hy
      exact Int.le_refl _) (by omega)
  rw [hv, Option.bind_some, Lp.andThen_fin]
  refine ⟨_, rfl, ?_⟩
  have hrise := (uniqA_rise (E.map (·.at_)) none hps (by intro q hq; cases hq)).1
  have hall : ∀ x, x ∈ uniqA none (E.map (·.at_)) ↔ ∃ s ∈ all, x = s.from_ ∨ x = s.to_ := by
    intro x
    rw [← hmem]
    refine ⟨uniqA_mem _ _ x, fun h => ?_⟩
    rcases uniqA_all _ none x h with h | h
    · cases h
    · exact h
  generalize uniqA none (E.map (·.at_)) = C at hrise hall
  have hfrom : ∀ s ∈ all, s.from_ ∈ C := fun s hs => (hall _).2 ⟨s, hs, .inl rfl⟩
  have hto : ∀ s ∈ all, s.to_ ∈ C := fun s hs => (hall _).2 ⟨s, hs, .inr rfl⟩
  have hno : ∀ m, (∀ s ∈ all, ¬ (s.from_ ≤ m ∧ m < s.to_)) → decide (need ≤ opened m all) = false := by
    intro m h
    rw [opened_none m all h]
    simp; omega
  cases C with
  | nil =>
    rw [mergeF]
    · refine ⟨by simp, .nil, fun m q1 q2 => ?_⟩
      rw [hno m fun s hs => absurd (hfrom s hs) (by simp)]
      simp
    · intro _ _ _ e; cases e
  | cons a r =>
    have hr := List.pairwise_cons.1 hrise
    have hin : ∀ x ∈ a :: r, f ≤ x ∧ x ≤ t := by
      intro x hx
      obtain ⟨s, hs, e⟩ := (hall x).1 hx
      have := hl s hs
      omega
    refine merge_apart (fun a => decide (need ≤ opened a all)) f t r a [] (fun x hx => (hin x hx).2) (hin a (by simp)).1 hrise (fun x m h1 h2 h3 => ?_) (fun m h => ?_) ⟨by simp, .nil, fun m q1 q2 => ?_⟩
    · show decide (need ≤ opened m all) = decide (need ≤ opened x all)
      rw [opened_same x m all fun s hs => ?_]
      have e1 := h3 _ (hfrom s hs)
      have e2 := h3 _ (hto s hs)
      omega
    · exact hno m fun s hs => by
        have := h _ (hto s hs)
        omega
    · rw [hno m fun s hs => ?_]
      · simp
      · have := hfrom s hs
        rcases List.mem_cons.1 this with e | e
        · omega
        · have := hr.1 _ e
          omega

theorem take_succ_flat (l : List cal_Calendar) (f : cal_Calendar → List cal_Span) (k : Nat) (hk : k < l.length) : (l.take (k + 1)).flatMap f = (l.take k).flatMap f ++ f l[k] := by
  rw [List.take_add_one, List.getElem?_eq_getElem hk, List.flatMap_append]
  simp
theorem common_eq (l : List cal_Calendar) (need from_ to_ : Int) : ∃ r, cal_Common l need from_ to_ = some r ∧ portref2_CommonIn l need from_ to_ = some r := by
  unfold cal_Common portref2_CommonIn
  by_cases h50 : (50 : Int) < (l.length : Int)
  · simp only [h50, decide_true, if_true]
    exact ⟨_, rfl, rfl⟩
  simp only [h50, decide_false, Bool.false_eq_true, if_false]
  rcases rangeB_sim (R := List cal_Span × Int) (b := fun k13 (_ : Unit) => Option.bind (idx l (k13 : Int)) fun x32 => Option.bind (cal_CheckCalendar x32) fun x67 => if (x67 != 0) = true then some (.rt (([] : (List cal_Span)), x67)) else some (.nx ())) (b' := fun k18 s26 => Option.bind (idx l (k18 : Int)) fun x41 => Option.bind (portref2_CalendarFault x41) fun x76 => if (x76 != 0) = true then some (.rt (([] : (List cal_Span)), x76)) else Option.bind (portref2_NewClock x41) fun x91 => Option.bind (appendL 17592186044416 s26 [x91]) fun x105 => some (.nx x105)) l.length (fun _ => True) (fun k _ s => s = l.take k ∧ ∀ c ∈ l.take k, CalOk c) (s := ()) (s' := []) ⟨by simp, by simp⟩ (by
    rintro k _ _ hk ⟨rfl, hok⟩
    obtain ⟨r, a1, b1, c1⟩ := cal_eq l[k]
    simp only [idx_lt _ _ hk, Option.bind_some, a1, b1]
    by_cases hr : r = 0
    · subst hr
      right
      simp only [bne_self_eq_false, Bool.false_eq_true, if_false, portref2_NewClock, Option.bind_some]
      rw [appendL, if_pos (by simp; omega)]
      refine ⟨(), _, (by first | rfl | trivial), rfl, (by rw [List.take_add_one, List.getElem?_eq_getElem hk]; rfl), fun c hc => ?_⟩
      rw [List.take_add_one, List.getElem?_eq_getElem hk] at hc
      rcases List.mem_append.1 hc with hc | hc
      · exact hok c hc
      · simp at hc; subst hc; exact c1 rfl
    · left
      have : (r != 0) = true := by simpa using hr
      simp only [this, if_true]
      exact ⟨_, rfl, rfl, trivial⟩) with ⟨r, e1, e2, _⟩ | ⟨_, s, e1, e2, hs, hok⟩
  · rw [e1, e2]
    exact ⟨r, rfl, rfl⟩
  rw [e1, e2]
  simp only [Option.bind_some, Lp.andThen_fin]
  rw [List.take_length] at hs hok
  have hs' := hs.symm
  subst hs'
  by_cases hw : 1 ≤ need ∧ need ≤ 50
  rotate_left
  · have w1 : (!(cal_within need 1 50)) = true := by unfold cal_within; simp; omega
    have w2 : ((decide (need < 1)) || (decide ((50 : Int) < need))) = true := by simp; omega
    simp only [w1, w2, if_true]
    exact ⟨_, rfl, rfl⟩
  have w1 : (!(cal_within need 1 50)) = false := by unfold cal_within; simp; omega
  have w2 : ((decide (need < 1)) || (decide ((50 : Int) < need))) = false := by simp; omega
  have hst : portref2_rangeFault from_ to_ = cal_stretch from_ to_ := by
    unfold portref2_rangeFault cal_stretch
    have e : ((!(portref2_IsMoment from_)) || (!(portref2_IsEnd to_))) = ((!(cal_within from_ 0 3000000)) || (!(cal_within to_ 0 3000001))) := by
      unfold portref2_IsMoment portref2_IsEnd cal_within
      rfl
    rw [e]
  simp only [w1, w2, hst, Bool.false_eq_true, if_false]
  by_cases hsf : cal_stretch from_ to_ = 0
  rotate_left
  · have h1 : (cal_stretch from_ to_ != 0) = true := by simpa using hsf
    simp only [h1, if_true]
    exact ⟨_, rfl, rfl⟩
  have hb : (0 ≤ from_ ∧ from_ ≤ 3000000) ∧ (0 ≤ to_ ∧ to_ ≤ 3000001) ∧ from_ ≤ to_ := by
    unfold cal_stretch at hsf
    split at hsf
    · cases hsf
    · rename_i h
      simp [cal_within] at h
      split at hsf
      · cases hsf
      · rename_i h2
        simp at h2
        omega
  simp only [hsf, bne_self_eq_false, Bool.false_eq_true, if_false]
  have hlk : ∀ k, k ≤ l.length → ((l.take k).flatMap fun c => openL c from_ to_).length ≤ 49999 * k := by
    intro k
    induction k with
    | zero => intro _; simp
    | succ k ih =>
      intro hk
      have := ih (by omega)
      rw [take_succ_flat _ _ _ hk, List.length_append]
      have := open_len (hok l[k] (List.getElem_mem _)) from_ to_
      omega
  have hll := hlk l.length (Nat.le_refl _)
  rw [List.take_length] at hll
  obtain ⟨t, hv, rfl⟩ := rangeB_inv (R := List cal_Span × Int) (b := fun k80 s88 => Option.bind (idx l (k80 : Int)) fun x103 => Option.bind (cal_Calendar_open x103 from_ to_) fun x138 => Option.bind (slices_AppendSeq_Lcal_Span_cal_Span s88 (fun _ y s => cal_Calendar_open_1 y s x138.1 x138.2.1 x138.2.2)) fun x148 => some (.nx x148)) l.length (fun k s => s = (l.take k).flatMap fun c => openL c from_ to_) (s := []) (by simp) (by
    rintro k _ hk rfl
    have hc := hok l[k] (List.getElem_mem _)
    have hkl := hlk k (by omega)
    have hol := open_len hc from_ to_
    simp only [idx_lt _ _ hk, Option.bind_some, cal_Calendar_open]
    unfold slices_AppendSeq_Lcal_Span_cal_Span
    dsimp only
    rw [open_val hc from_ to_ (by omega) (by omega), iter_collect 8796093022208 (openL l[k] from_ to_) _ (by omega)]
    refine ⟨_, rfl, ?_⟩
    rw [take_succ_flat _ _ _ hk])
  rw [hv]
  simp only [Option.bind_some, Lp.andThen_fin]
  rw [List.take_length]
  have hin : ∀ s ∈ l.flatMap (fun c => openL c from_ to_), from_ ≤ s.from_ ∧ s.from_ < s.to_ ∧ s.to_ ≤ to_ := by
    intro s hs
    obtain ⟨c, hc, hs⟩ := List.mem_flatMap.1 hs
    exact (open_spec (hok c hc) from_ to_ (by omega) (by omega)).each s hs
  obtain ⟨r, hr, hra⟩ := swept_one _ need from_ to_ hw.1 hb.2.2 hin (by omega)
  rw [hr]
  obtain ⟨l2, hl2, hla⟩ := spansOf_val from_ to_ (fun y124 => portref2_CommonIn_1 y124 l need) (fun m => decide (need ≤ opened m (l.flatMap fun c => openL c from_ to_)) = true) hb.1.1 hb.2.2 hb.2.1.2 (by
    intro m q1 q2
    unfold portref2_CommonIn_1
    obtain ⟨t, hv, rfl, _⟩ := rangeB_inv (R := Bool) (b := fun k6 s12 => Option.bind (Option.bind (idx l (k6 : Int)) fun x33 => Option.bind (portref2_Clock_Open x33 m) fun x39 => Option.bind (if x39 = true then some (w64 (s12 + 1)) else some s12) fun s45 => some s45) fun s26 => some (.nx s26)) l.length (fun k s => s = opened m ((l.take k).flatMap fun c => openL c from_ to_) ∧ 0 ≤ s ∧ s ≤ k) (s := 0) ⟨by simp [opened], by simp, by simp⟩ (by
      rintro k _ hk ⟨rfl, hs0, hs1⟩
      have hc := hok l[k] (List.getElem_mem _)
      obtain ⟨b, hb1, hb2⟩ := clock_open hc m (by omega) (by omega)
      obtain ⟨o1, o2⟩ := opened_apart (open_spec hc from_ to_ (by omega) (by omega)) m q1 q2
      simp only [idx_lt _ _ hk, Option.bind_some, hb1]
      rw [take_succ_flat _ _ _ hk, opened_append]
      cases b with
      | true =>
        simp only [if_true, Option.bind_some]
        rw [o1 (hb2.1 rfl), w64_id (by omega) (by omega)]
        exact ⟨_, rfl, rfl, by omega, by omega⟩
      | false =>
        simp only [Bool.false_eq_true, if_false, Option.bind_some]
        rw [o2 fun h => by have := hb2.2 h; cases this]
        exact ⟨_, rfl, by omega, by omega, by omega⟩)
    rw [hv, List.take_length]
    exact ⟨_, rfl, Iff.rfl⟩)
  rw [hl2]
  have e := apart_unique _ _ _ _ hla hra
  subst e
  simp only [Option.bind_some, cal_limited]
  split <;> exact ⟨_, rfl, rfl⟩

theorem common_true (l : List cal_Calendar) (need from_ to_ : Int) : portlaw2_CalCommon l need from_ to_ = some true := by
  obtain ⟨r, h1, h2⟩ := common_eq l need from_ to_
  unfold portlaw2_CalCommon
  rw [h1, h2]
  simp only [Option.bind_some, beq_self_eq_true, if_true, equal_spans]
end Go.Proofs.Ytoflhekllembeaa.M
