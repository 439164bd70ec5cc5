/-
  The text of a calendar: plain part.
-/
import Derived.Test.YthhgggkhlcnbhaaDoorCalChecksCalBaseA
import Derived.Test.YthhgggkhlcnbhaaDoorCalChecksTextLines
namespace Go.Proofs.YthhgggkhlcnbhaaDoor.M
open Go Go.Pu
set_option linter.unusedSimpArgs false
set_option linter.unusedVariables false

def CalI (c : cal_Calendar) : Prop := I64 c.zone.offset ∧ (∀ x ∈ c.zone.changes, I64 x.at_ ∧ I64 x.offset) ∧ (∀ x ∈ c.week, I64 x.day ∧ I64 x.from_ ∧ I64 x.to_) ∧ ∀ x ∈ c.specials, I64 x.day ∧ ∀ s ∈ x.shifts, I64 s.from_ ∧ I64 s.to_
/-- the program's line -/
theorem text1 (word : ByteArray) (ns : List Int) (st : ByteArray) (hw : word.size ≤ 21) (hn : ∀ n ∈ ns, I64 n) (hl : ns.length ≤ 1000) (hst : st.size ≤ 2000000000) :
    cal_CalendarText_1 word ns st = some (st ++ lineB ((AnyV.str word :: ns.map AnyV.int).map AnyT)) := by
  unfold cal_CalendarText_1
  have e0 : strings_Builder_WriteString st word = some ((word.size : Int), (), st ++ word) := by
    unfold strings_Builder_WriteString
    rw [if_pos (by omega)]
  rw [e0, Option.bind_some]
  have zs : (⟨#[32]⟩ : ByteArray).size = 1 := rfl
  have hbound : ∀ k, (joinB (word :: (ns.take k).map itoaB) (⟨#[32]⟩ : ByteArray)).size ≤ 22 * 1001 := fun k => by
    have h1 := join_len 21 1 (word :: (ns.take k).map itoaB) (⟨#[32]⟩ : ByteArray) (fun x hx => by
      rcases List.mem_cons.1 hx with rfl | hx
      · exact hw
      · obtain ⟨n, hn2, rfl⟩ := List.mem_map.1 hx
        exact itoaB_size (hn n (List.mem_of_mem_take hn2))) (Nat.le_refl _)
    have h2 : (word :: (ns.take k).map itoaB).length ≤ 1001 := by rw [List.length_cons, List.length_map, List.length_take]; omega
    have := Nat.mul_le_mul_left (21 + 1) h2
    omega
  obtain ⟨t, e1, e2⟩ := rangeB_inv (R := ByteArray) (b := fun k11 s17 => Option.bind (idx ns (k11 : Int)) fun x30 => Option.bind (strconv_Itoa x30) fun x34 => Option.bind (catS (⟨#[32]⟩ : ByteArray) x34) fun x38 => Option.bind (strings_Builder_WriteString s17 x38) fun x39 => some (.nx x39.2.2)) ns.length (fun k t => t = st ++ joinB (word :: (ns.take k).map itoaB) (⟨#[32]⟩ : ByteArray)) (s := st ++ word) (by simp [joinB_single]) (fun k t hk ht => by
    subst ht
    have hx : ns[k]? = some ns[k] := List.getElem?_eq_getElem hk
    have hi := hn _ (List.getElem_mem hk)
    generalize ns[k] = n at hx hi
    have h1 := itoaB_size hi
    have h2 := cat_val (⟨#[32]⟩ : ByteArray) (itoaB n) (by omega) (by omega)
    have h3 := hbound k
    have h4 : (st ++ joinB (word :: (ns.take k).map itoaB) (⟨#[32]⟩ : ByteArray)).size = st.size + (joinB (word :: (ns.take k).map itoaB) (⟨#[32]⟩ : ByteArray)).size := ByteArray.size_append
    have h5 : strings_Builder_WriteString (st ++ joinB (word :: (ns.take k).map itoaB) (⟨#[32]⟩ : ByteArray)) ((⟨#[32]⟩ : ByteArray) ++ itoaB n) = some ((((⟨#[32]⟩ : ByteArray) ++ itoaB n).size : Int), (), st ++ joinB (word :: (ns.take k).map itoaB) (⟨#[32]⟩ : ByteArray) ++ ((⟨#[32]⟩ : ByteArray) ++ itoaB n)) := by
      unfold strings_Builder_WriteString
      rw [if_pos (by omega)]
    refine ⟨_, by rw [idx_nat, hx, Option.bind_some, itoa_some hi, Option.bind_some, h2.1, Option.bind_some, h5, Option.bind_some], ?_⟩
    rw [List.take_add_one, hx, List.map_append]
    show _ = st ++ joinB (word :: ((ns.take k).map itoaB ++ [itoaB n])) _
    rw [joinB_snoc, ByteArray.append_assoc])
  subst e2
  simp only [e1, Option.bind_some, Lp.andThen, List.take_length]
  have h6 := hbound ns.length
  rw [List.take_length] at h6
  have h7 : (st ++ joinB (word :: ns.map itoaB) (⟨#[32]⟩ : ByteArray)).size = st.size + (joinB (word :: ns.map itoaB) (⟨#[32]⟩ : ByteArray)).size := ByteArray.size_append
  unfold strings_Builder_WriteByte
  rw [if_pos (by omega), Option.bind_some]
  have hm : (AnyV.str word :: ns.map AnyV.int).map AnyT = word :: ns.map itoaB := by
    rw [List.map_cons, List.map_map]
    rfl
  rw [hm, lineB, ByteArray.append_assoc]

def zoneW (c : cal_Calendar) : List AnyV := [AnyV.str (⟨#[122, 111, 110, 101]⟩ : ByteArray), AnyV.int c.zone.offset]
def changeW (x : cal_Change) : List AnyV := [AnyV.str (⟨#[99, 104, 97, 110, 103, 101]⟩ : ByteArray), AnyV.int x.at_, AnyV.int x.offset]
def shiftW (x : cal_Shift) : List AnyV := [AnyV.str (⟨#[115, 104, 105, 102, 116]⟩ : ByteArray), AnyV.int x.day, AnyV.int x.from_, AnyV.int x.to_]
def dayN (x : cal_Special) : List Int := x.day :: x.shifts.flatMap fun s => [s.from_, s.to_]
def dayW (x : cal_Special) : List AnyV := AnyV.str (⟨#[100, 97, 121]⟩ : ByteArray) :: (dayN x).map AnyV.int
theorem flat2' {α β : Type} (f : α → List β) (n : Nat) (h : ∀ x, (f x).length = n) : ∀ l : List α, (l.flatMap f).length = n * l.length
  | [] => by simp
  | x :: l => by rw [List.flatMap_cons, List.length_append, h, flat2' f n h l, List.length_cons, Nat.mul_succ]; omega
def body (c : cal_Calendar) : ByteArray := linesN dayW (linesN shiftW (linesN changeW (lineB ((zoneW c).map AnyT)) c.zone.changes c.zone.changes.length) c.week c.week.length) c.specials c.specials.length
def fin (c : cal_Calendar) : ByteArray × Int := if (20000 : Int) < ((body c).size : Int) then ((⟨#[]⟩ : ByteArray), 4) else (body c, 0)

theorem text_eq (c : cal_Calendar) (h : CalOk c) (hi : CalI c) : cal_CalendarText c = (cal_CheckCalendar c).bind (fun x => some (if x = 0 then fin c else ((⟨#[]⟩ : ByteArray), x))) ∧ portref2_CalendarString c = (portref2_CalendarFault c).bind (fun x => some (if x = 0 then fin c else ((⟨#[]⟩ : ByteArray), x))) := by
  obtain ⟨i1, i2, i3, i4⟩ := hi
  have hch : c.zone.changes.length ≤ 60 := h.changes
  have hwk : c.week.length ≤ 60 := h.weeks
  have hsp : c.specials.length ≤ 200 := h.specials
  have hsh : ∀ x ∈ c.specials, x.shifts.length ≤ 12 := fun x hx => by
    obtain ⟨k, hk⟩ := List.getElem?_of_mem hx
    exact (h.special k x hk).2.2.1
  have z1 : ∀ x ∈ zoneW c, AnyOk 21 x := by
    intro x hx
    simp [zoneW] at hx
    rcases hx with rfl | rfl
    · show (4 : Nat) ≤ 21
      decide
    · exact i1
  have c1 : ∀ p ∈ c.zone.changes, (∀ x ∈ changeW p, AnyOk 21 x) ∧ (changeW p).length ≤ 3 := by
    intro p hp
    refine ⟨fun x hx => ?_, Nat.le_refl _⟩
    simp [changeW] at hx
    rcases hx with rfl | rfl | rfl
    · show (6 : Nat) ≤ 21
      decide
    · exact (i2 p hp).1
    · exact (i2 p hp).2
  have s1 : ∀ p ∈ c.week, (∀ x ∈ shiftW p, AnyOk 21 x) ∧ (shiftW p).length ≤ 4 := by
    intro p hp
    refine ⟨fun x hx => ?_, Nat.le_refl _⟩
    simp [shiftW] at hx
    rcases hx with rfl | rfl | rfl | rfl
    · show (5 : Nat) ≤ 21
      decide
    · exact (i3 p hp).1
    · exact (i3 p hp).2.1
    · exact (i3 p hp).2.2
  have dn : ∀ p ∈ c.specials, ∀ n ∈ dayN p, I64 n := by
    intro p hp n hn
    simp [dayN] at hn
    rcases hn with rfl | ⟨s, hs, rfl | rfl⟩
    · exact (i4 p hp).1
    · exact ((i4 p hp).2 s hs).1
    · exact ((i4 p hp).2 s hs).2
  have dl : ∀ p ∈ c.specials, (dayN p).length ≤ 25 := by
    intro p hp
    rw [dayN, List.length_cons, flat2' _ 2 (fun _ => rfl)]
    have := hsh p hp
    omega
  have d1 : ∀ p ∈ c.specials, (∀ x ∈ dayW p, AnyOk 21 x) ∧ (dayW p).length ≤ 26 := by
    intro p hp
    refine ⟨fun x hx => ?_, by rw [dayW, List.length_cons, List.length_map]; have := dl p hp; omega⟩
    rcases List.mem_cons.1 hx with rfl | hx
    · show (3 : Nat) ≤ 21
      decide
    · obtain ⟨n, hn, rfl⟩ := List.mem_map.1 hx
      exact dn p hp n hn
  have zsz := line_size2 z1 2 (Nat.le_refl _)
  have e : ∀ w : ByteArray, ByteArray.empty ++ w = w := fun w => by simp
  constructor
  · unfold cal_CalendarText
    congr 1
    funext x
    by_cases hx : x = 0
    · subst hx
      simp only [bne_self_eq_false, Bool.false_eq_true, if_false, if_true]
      have t0 := text1 (⟨#[122, 111, 110, 101]⟩ : ByteArray) [c.zone.offset] ByteArray.empty (by decide) (by simpa using i1) (by simp) (by decide)
      rw [e] at t0
      rw [t0, Option.bind_some]
      obtain ⟨l1, b1⟩ := lines_loop (R := ByteArray × Int) changeW (lineB ((zoneW c).map AnyT)) c.zone.changes 3 c1 (by omega) (by omega) (by omega) (fun k51 s57 => Option.bind (idx c.zone.changes (k51 : Int)) fun x70 => Option.bind (cal_CalendarText_1 (⟨#[99, 104, 97, 110, 103, 101]⟩ : ByteArray) ([x70.at_, x70.offset] : List Int) s57) fun x90 => some (.nx x90)) (fun k s p hp hs => by
        have hm := i2 p (List.mem_of_getElem? hp)
        rw [idx_nat, hp, Option.bind_some, text1 (⟨#[99, 104, 97, 110, 103, 101]⟩ : ByteArray) [p.at_, p.offset] s (by decide) (by simpa using hm) (by simp) hs, Option.bind_some]
        rfl)
      have l1' := l1
      rw [zoneW] at l1'
      simp only [List.map_cons, List.map_nil] at l1' ⊢
      rw [l1']
      simp only [Option.bind_some, Lp.andThen_fin]
      obtain ⟨l2, b2⟩ := lines_loop (R := ByteArray × Int) shiftW (linesN changeW (lineB ((zoneW c).map AnyT)) c.zone.changes c.zone.changes.length) c.week 4 s1 (by omega) (by omega) (by omega) (fun k105 s111 => Option.bind (idx c.week (k105 : Int)) fun x124 => Option.bind (cal_CalendarText_1 (⟨#[115, 104, 105, 102, 116]⟩ : ByteArray) ([x124.day, x124.from_, x124.to_] : List Int) s111) fun x145 => some (.nx x145)) (fun k s p hp hs => by
        have hm := i3 p (List.mem_of_getElem? hp)
        rw [idx_nat, hp, Option.bind_some, text1 (⟨#[115, 104, 105, 102, 116]⟩ : ByteArray) [p.day, p.from_, p.to_] s (by decide) (by simpa using hm) (by simp) hs, Option.bind_some]
        rfl)
      have l2' := l2
      rw [zoneW] at l2'
      simp only [List.map_cons, List.map_nil] at l2' ⊢
      rw [l2']
      simp only [Option.bind_some, Lp.andThen_fin]
      obtain ⟨l3, b3⟩ := lines_loop (R := ByteArray × Int) dayW (linesN shiftW (linesN changeW (lineB ((zoneW c).map AnyT)) c.zone.changes c.zone.changes.length) c.week c.week.length) c.specials 26 d1 (by omega) (by omega) (by omega) (fun k160 s166 => Option.bind (idx c.specials (k160 : Int)) fun x179 => Option.bind (rangeB (fun k212 s220 => Option.bind (idx x179.shifts (k212 : Int)) fun x235 => Option.bind (appendL 17592186044416 s220 ([x235.from_, x235.to_] : List Int)) fun x255 => some (.nx x255)) x179.shifts.length 0 ([x179.day] : List Int)) fun o209 => o209.andThen (fun y => some (.rt y)) fun s210 => Option.bind (cal_CalendarText_1 (⟨#[100, 97, 121]⟩ : ByteArray) s210 s166) fun x269 => some (.nx x269)) (fun k s p hp hs => by
        have hm := List.mem_of_getElem? hp
        have hl := hsh p hm
        have hr := rangeB_flat (R := ByteArray × Int) p.shifts (fun s => [s.from_, s.to_]) 2 17592186044416 (fun _ _ => Nat.le_refl _) (fun k212 s220 => Option.bind (idx p.shifts (k212 : Int)) fun x235 => Option.bind (appendL 17592186044416 s220 ([x235.from_, x235.to_] : List Int)) fun x255 => some (.nx x255)) (fun j t x hx ht => by
          have ha : appendL 17592186044416 t [x.from_, x.to_] = some (t ++ [x.from_, x.to_]) := by
            unfold appendL
            rw [if_pos (by simpa using ht)]
          rw [idx_nat, hx, Option.bind_some, ha, Option.bind_some]) [p.day] (by simp; omega)
        rw [idx_nat, hp, Option.bind_some, hr]
        simp only [Option.bind_some, Lp.andThen_fin]
        have := text1 (⟨#[100, 97, 121]⟩ : ByteArray) (dayN p) s (by decide) (dn p hm) (by have := dl p hm; omega) hs
        rw [dayN] at this
        rw [List.singleton_append, this, Option.bind_some]
        rfl)
      have l3' := l3
      rw [zoneW] at l3'
      simp only [List.map_cons, List.map_nil] at l3' ⊢
      rw [l3']
      simp only [Option.bind_some, Lp.andThen_fin, strings_Builder_Len, strings_Builder_String]
      unfold fin body
      rw [zoneW]
      simp only [List.map_cons, List.map_nil, decide_eq_true_eq]
      split <;> rfl
    · have : (x != 0) = true := by simpa using hx
      rw [if_pos this, if_neg hx]
  · unfold portref2_CalendarString
    congr 1
    funext x
    by_cases hx : x = 0
    · subst hx
      simp only [bne_self_eq_false, Bool.false_eq_true, if_false, if_true]
      have t0 := line_some 21 (zoneW c) (Nat.le_refl _) (by omega) z1 (by simp [zoneW])
      rw [zoneW] at t0
      rw [t0, Option.bind_some]
      obtain ⟨l1, b1⟩ := lines_loop (R := ByteArray × Int) changeW (lineB ((zoneW c).map AnyT)) c.zone.changes 3 c1 (by omega) (by omega) (by omega) (fun k45 s51 => Option.bind (idx c.zone.changes (k45 : Int)) fun x64 => Option.bind (portref2_line ([(AnyV.str (⟨#[99, 104, 97, 110, 103, 101]⟩ : ByteArray)), (AnyV.int x64.at_), (AnyV.int x64.offset)] : List AnyV)) fun x84 => Option.bind (catS s51 x84) fun x88 => some (.nx x88)) (fun k s p hp hs => by
        have hm := c1 p (List.mem_of_getElem? hp)
        have h1 := line_size2 hm.1 3 hm.2
        have h2 := line_some 21 (changeW p) (Nat.le_refl _) (by omega) hm.1 (by omega)
        have h3 := (cat_val s (lineB ((changeW p).map AnyT)) (by omega) (by omega)).1
        rw [idx_nat, hp, Option.bind_some]
        show Option.bind (portref2_line (changeW p)) _ = _
        rw [h2, Option.bind_some, h3, Option.bind_some])
      have l1' := l1
      rw [zoneW] at l1'
      rw [l1']
      simp only [Option.bind_some, Lp.andThen_fin]
      obtain ⟨l2, b2⟩ := lines_loop (R := ByteArray × Int) shiftW (linesN changeW (lineB ((zoneW c).map AnyT)) c.zone.changes c.zone.changes.length) c.week 4 s1 (by omega) (by omega) (by omega) (fun k99 s105 => Option.bind (idx c.week (k99 : Int)) fun x118 => Option.bind (portref2_line ([(AnyV.str (⟨#[115, 104, 105, 102, 116]⟩ : ByteArray)), (AnyV.int x118.day), (AnyV.int x118.from_), (AnyV.int x118.to_)] : List AnyV)) fun x139 => Option.bind (catS s105 x139) fun x143 => some (.nx x143)) (fun k s p hp hs => by
        have hm := s1 p (List.mem_of_getElem? hp)
        have h1 := line_size2 hm.1 4 hm.2
        have h2 := line_some 21 (shiftW p) (Nat.le_refl _) (by omega) hm.1 (by omega)
        have h3 := (cat_val s (lineB ((shiftW p).map AnyT)) (by omega) (by omega)).1
        rw [idx_nat, hp, Option.bind_some]
        show Option.bind (portref2_line (shiftW p)) _ = _
        rw [h2, Option.bind_some, h3, Option.bind_some])
      have l2' := l2
      rw [zoneW] at l2'
      rw [l2']
      simp only [Option.bind_some, Lp.andThen_fin]
      obtain ⟨l3, b3⟩ := lines_loop (R := ByteArray × Int) dayW (linesN shiftW (linesN changeW (lineB ((zoneW c).map AnyT)) c.zone.changes c.zone.changes.length) c.week c.week.length) c.specials 26 d1 (by omega) (by omega) (by omega) (fun k154 s160 => Option.bind (idx c.specials (k154 : Int)) fun x173 => Option.bind (rangeB (fun k206 s214 => Option.bind (idx x173.shifts (k206 : Int)) fun x229 => Option.bind (appendL 8796093022208 s214 ([(AnyV.int x229.from_), (AnyV.int x229.to_)] : List AnyV)) fun x249 => some (.nx x249)) x173.shifts.length 0 ([(AnyV.str (⟨#[100, 97, 121]⟩ : ByteArray)), (AnyV.int x173.day)] : List AnyV)) fun o203 => o203.andThen (fun y => some (.rt y)) fun s204 => Option.bind (portref2_line s204) fun x258 => Option.bind (catS s160 x258) fun x262 => some (.nx x262)) (fun k s p hp hs => by
        have hmm := List.mem_of_getElem? hp
        have hm := d1 p hmm
        have hl := hsh p hmm
        have hr := rangeB_flat (R := ByteArray × Int) p.shifts (fun s => [AnyV.int s.from_, AnyV.int s.to_]) 2 8796093022208 (fun _ _ => Nat.le_refl _) (fun k206 s214 => Option.bind (idx p.shifts (k206 : Int)) fun x229 => Option.bind (appendL 8796093022208 s214 ([(AnyV.int x229.from_), (AnyV.int x229.to_)] : List AnyV)) fun x249 => some (.nx x249)) (fun j t x hx ht => by
          have ha := append_some (s := t) (t := [AnyV.int x.from_, AnyV.int x.to_]) (by simpa using ht)
          rw [idx_nat, hx, Option.bind_some, ha, Option.bind_some]) [AnyV.str (⟨#[100, 97, 121]⟩ : ByteArray), AnyV.int p.day] (by simp; omega)
        have hd : [AnyV.str (⟨#[100, 97, 121]⟩ : ByteArray), AnyV.int p.day] ++ p.shifts.flatMap (fun s => [AnyV.int s.from_, AnyV.int s.to_]) = dayW p := by
          rw [dayW, dayN, List.map_cons, List.map_flatMap]
          rfl
        rw [hd] at hr
        have h1 := line_size2 hm.1 26 hm.2
        have h2 := line_some 21 (dayW p) (Nat.le_refl _) (by omega) hm.1 (by omega)
        have h3 := (cat_val s (lineB ((dayW p).map AnyT)) (by omega) (by omega)).1
        rw [idx_nat, hp, Option.bind_some, hr]
        simp only [Option.bind_some, Lp.andThen_fin]
        rw [h2, Option.bind_some, h3, Option.bind_some])
      have l3' := l3
      rw [zoneW] at l3'
      rw [l3']
      simp only [Option.bind_some, Lp.andThen_fin]
      unfold fin body
      rw [zoneW]
      simp only [decide_eq_true_eq]
      split <;> rfl
    · have : (x != 0) = true := by simpa using hx
      rw [if_pos this, if_neg hx]

theorem checks_true (c : cal_Calendar) (hi : CalI c) : portlaw2_CalChecks c = some true := by
  obtain ⟨r, e1, e2, e3⟩ := cal_eq c
  have key : ∃ s, cal_CalendarText c = some s ∧ portref2_CalendarString c = some s := by
    by_cases hr : r = 0
    · subst hr
      obtain ⟨t1, t2⟩ := text_eq c (e3 rfl) hi
      refine ⟨fin c, ?_, ?_⟩
      · rw [t1, e1]; rfl
      · rw [t2, e2]; rfl
    · have hne : (r != 0) = true := by simpa using hr
      refine ⟨((⟨#[]⟩ : ByteArray), r), ?_, ?_⟩
      · unfold cal_CalendarText
        rw [e1, Option.bind_some, if_pos hne]
      · unfold portref2_CalendarString
        rw [e2, Option.bind_some, if_pos hne]
  obtain ⟨s, t1, t2⟩ := key
  unfold portlaw2_CalChecks
  simp only [t1, t2, e1, e2, Option.bind_some, strEq_self, beq_self_eq_true, Bool.and_true, if_true]
end Go.Proofs.YthhgggkhlcnbhaaDoor.M
