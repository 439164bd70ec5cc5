/-
  The text of a clock: plain part.
-/
import Derived.Test.YtkdkejikbcdadaaDoorClockChecksClkOne
import Derived.Test.YtkdkejikbcdadaaDoorClockChecksTextLine
namespace Go.Proofs.YtkdkejikbcdadaaDoor.M
open Go Go.Pu
set_option linter.unusedSimpArgs false
set_option linter.unusedVariables false

theorem add_some (l : List Int) (s : List ByteArray) (h : ∀ x ∈ l, I64 x) (hs : s.length + l.length ≤ 8796093022208) : level_ClockText_1 l s = some (s ++ l.map itoaB) := by
  unfold level_ClockText_1
  rw [rangeB_flat l (fun x => [itoaB x]) 1 8796093022208 (fun _ _ => Nat.le_refl _) _ (fun j t x hx ht => ?_) s (by omega)]
  · rw [flatMap_one]
    rfl
  · have hw := h x (List.mem_of_getElem? hx)
    have := append_some (s := t) (t := [itoaB x]) (by simpa using ht)
    rw [idx_nat, hx, Option.bind_some, itoa_some hw, Option.bind_some, this, Option.bind_some]

def pieceNs (p : level_Piece) : List Int := [p.from_, p.to_, p.calendar]
def clockNs (c : level_Clock) : List Int := [c.kind, c.level, c.minutes, c.start, c.stop, c.end_]
theorem text_eq (c : level_Clock) (h : ClockOk c) (h1 : I64 c.kind) (h2 : I64 c.level) :
    ∃ r, level_ClockText c = (level_CheckClock c).bind (fun x => some (if x = 0 then (r, 0) else ((⟨#[]⟩ : ByteArray), x))) ∧ portref2_ClockString c = (portref2_ClockFault c).bind (fun x => some (if x = 0 then (r, 0) else ((⟨#[]⟩ : ByteArray), x))) := by
  have hp : ∀ p ∈ c.pieces, ∀ n ∈ pieceNs p, I64 n := by
    intro p hp n hn
    obtain ⟨k, hk⟩ := List.getElem?_of_mem hp
    have hq := h.pieces k p hk
    have e1 := hq.from_
    have e2 := hq.cal
    have e3 := hq.to_
    have e4 := h.start
    simp [pieceNs] at hn
    unfold I64
    rcases hn with rfl | rfl | rfl <;> omega
  have hc : ∀ n ∈ clockNs c, I64 n := by
    intro n hn
    have e1 := h.minutes
    have e2 := h.start
    have e3 := h.stop
    have e4 := h.ends
    simp [clockNs] at hn
    unfold I64 at h1 h2 ⊢
    rcases hn with rfl | rfl | rfl | rfl | rfl | rfl <;> omega
  have hlen := h.len
  -- all words
  let W : List AnyV := [AnyV.str (⟨#[99, 108, 111, 99, 107]⟩ : ByteArray)] ++ (clockNs c).map AnyV.int ++ c.pieces.flatMap (fun p => (pieceNs p).map AnyV.int)
  have hW : W.map AnyT = [(⟨#[99, 108, 111, 99, 107]⟩ : ByteArray)] ++ (clockNs c).map itoaB ++ c.pieces.flatMap (fun p => (pieceNs p).map itoaB) := by
    simp only [W, List.map_append, List.map_cons, List.map_nil, List.map_map, List.map_flatMap, AnyT]
    rfl
  have hok : ∀ x ∈ W, AnyOk 21 x := by
    intro x hx
    simp only [W, List.mem_append, List.mem_flatMap, List.mem_map, List.mem_singleton] at hx
    rcases hx with (rfl | ⟨n, hn, rfl⟩) | ⟨p, hp', n, hn, rfl⟩
    · show (5 : Nat) ≤ 21
      decide
    · exact hc n hn
    · exact hp p hp' n hn
  have hflat : ∀ {β : Type} (f : Int → β) (m : List level_Piece), (m.flatMap (fun p => (pieceNs p).map f)).length = 3 * m.length := by
    intro β f m
    induction m with
    | nil => rfl
    | cons p m ih => rw [List.flatMap_cons, List.length_append, ih, List.length_cons]; simp [pieceNs]; omega
  have hWl : W.length ≤ 18007 := by
    simp only [W, List.length_append, hflat, List.length_map, List.length_singleton]
    simp [clockNs]
    omega
  have hline := line_some 21 W (Nat.le_refl _) (by omega) hok (by omega)
  refine ⟨lineB (W.map AnyT), ?_, ?_⟩
  · unfold level_ClockText
    congr 1
    funext x
    by_cases hx : x = 0
    · subst hx
      have a1 := add_some (clockNs c) [(⟨#[99, 108, 111, 99, 107]⟩ : ByteArray)] hc (by simp [clockNs])
      rw [clockNs] at a1
      simp only [bne_self_eq_false, Bool.false_eq_true, if_false, a1, Option.bind_some, if_true]
      rw [rangeB_flat c.pieces (fun p => (pieceNs p).map itoaB) 3 8796093022208 (fun p _ => by simp [pieceNs]) _ (fun j t p hx ht => ?_) _ (by simp; omega)]
      · simp only [Option.bind_some, Lp.andThen]
        have e : [(⟨#[99, 108, 111, 99, 107]⟩ : ByteArray)] ++ List.map itoaB [c.kind, c.level, c.minutes, c.start, c.stop, c.end_] ++ c.pieces.flatMap (fun p => (pieceNs p).map itoaB) = W.map AnyT := by rw [hW]; rfl
        rw [e]
        have g1 : ∀ y ∈ W.map AnyT, y.size ≤ 21 := by
          intro y hy
          obtain ⟨x, hx, rfl⟩ := List.mem_map.1 hy
          exact anyT_size (Nat.le_refl _) (hok x hx)
        have g2 : (W.map AnyT).length ≤ 18007 := by rw [List.length_map]; exact hWl
        have g3 : (21 + 1) * (W.map AnyT).length ≤ 396154 := by omega
        have g4 := join_len 21 1 (W.map AnyT) (⟨#[32]⟩ : ByteArray) g1 (Nat.le_refl _)
        have z : (⟨#[10]⟩ : ByteArray).size = 1 := rfl
        rw [join_some 21 1 (W.map AnyT) (⟨#[32]⟩ : ByteArray) g1 (Nat.le_refl _) (by omega) (by omega), Option.bind_some, (cat_val (joinB (W.map AnyT) (⟨#[32]⟩ : ByteArray)) (⟨#[10]⟩ : ByteArray) (by omega) (by omega)).1]
        rfl
      · have hm := List.mem_of_getElem? hx
        have a2 := add_some (pieceNs p) t (hp p hm) (by simp only [pieceNs, List.length_cons, List.length_nil]; omega)
        rw [pieceNs] at a2
        rw [idx_nat, hx, Option.bind_some, a2, Option.bind_some]
        rfl
    · have : (x != 0) = true := by simpa using hx
      rw [if_pos this, if_neg hx]
  · unfold portref2_ClockString
    congr 1
    funext x
    by_cases hx : x = 0
    · subst hx
      simp only [bne_self_eq_false, Bool.false_eq_true, if_false, if_true]
      rw [rangeB_flat c.pieces (fun p => (pieceNs p).map AnyV.int) 3 8796093022208 (fun p _ => by simp [pieceNs]) _ (fun j t p hx ht => ?_) _ (by simp; omega)]
      · simp only [Option.bind_some, Lp.andThen]
        have e : [(AnyV.str (⟨#[99, 108, 111, 99, 107]⟩ : ByteArray)), (AnyV.int c.kind), (AnyV.int c.level), (AnyV.int c.minutes), (AnyV.int c.start), (AnyV.int c.stop), (AnyV.int c.end_)] ++ c.pieces.flatMap (fun p => (pieceNs p).map AnyV.int) = W := rfl
        rw [e, hline]
        rfl
      · have a2 := append_some (s := t) (t := [AnyV.int p.from_, AnyV.int p.to_, AnyV.int p.calendar]) (by simpa using ht)
        rw [idx_nat, hx, Option.bind_some, a2, Option.bind_some]
        rfl
    · have : (x != 0) = true := by simpa using hx
      rw [if_pos this, if_neg hx]

theorem checks_true (c : level_Clock) (h1 : I64 c.kind) (h2 : I64 c.level) : portlaw2_ClockChecks c = some true := by
  obtain ⟨r, e1, e2, e3⟩ := clock_eq c
  unfold portlaw2_ClockChecks
  by_cases hr : r = 0
  · obtain ⟨s, t1, t2⟩ := text_eq c (e3 hr) h1 h2
    simp only [t1, t2, e1, e2, hr, Option.bind_some, if_true, strEq_self]
    rfl
  · have hne : (r != 0) = true := by simpa using hr
    have t1 : level_ClockText c = some ((⟨#[]⟩ : ByteArray), r) := by
      unfold level_ClockText
      rw [e1, Option.bind_some, if_pos hne]
    have t2 : portref2_ClockString c = some ((⟨#[]⟩ : ByteArray), r) := by
      unfold portref2_ClockString
      rw [e2, Option.bind_some, if_pos hne]
    simp only [t1, t2, e1, e2, Option.bind_some, strEq_self]
    simp
end Go.Proofs.YtkdkejikbcdadaaDoor.M
