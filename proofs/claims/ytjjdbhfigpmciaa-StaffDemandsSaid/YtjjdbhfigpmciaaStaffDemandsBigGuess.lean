/-
  Division of numbers in parts of 32 bits: the guess of one part of the quotient.
-/
import Derived.Test.YtjjdbhfigpmciaaStaffDemandsBigSub
namespace Go.Proofs.Ytjjdbhfigpmciaa.M
open Go Go.Pu
set_option linter.unusedSimpArgs false
set_option linter.unusedVariables false

def GuessI (V1 V2 U0 : UInt32) (top : Int) (s : Int × Int) : Prop := 0 ≤ s.1 ∧ (0 ≤ s.2 ∧ s.2 < 4294967296) ∧ s.1 * (V1.toNat : Int) + s.2 = top ∧ ∀ q, 0 ≤ q → q < 4294967296 → q * ((V1.toNat : Int) * 4294967296 + (V2.toNat : Int)) ≤ top * 4294967296 + (U0.toNat : Int) → q ≤ s.1
def GuessQ (V1 V2 U0 : UInt32) (top : Int) (x : Lp (Int × Int) (List UInt32 × List UInt32)) : Prop := ∃ g r, x = .fin (g, r) ∧ (0 ≤ g ∧ g < 4294967296) ∧ g * (V1.toNat : Int) + r = top ∧ g * (V2.toNat : Int) ≤ r * 4294967296 + (U0.toNat : Int) ∧ ∀ q, 0 ≤ q → q < 4294967296 → q * ((V1.toNat : Int) * 4294967296 + (V2.toNat : Int)) ≤ top * 4294967296 + (U0.toNat : Int) → q ≤ g

theorem guess_spec (v u : List UInt32) (i2 i0 : Int) (V1 V2 U0 : UInt32) (top g0 r0 : Int) (hv2 : idx v i2 = some V2) (hu0 : idx u i0 = some U0)
    (hV1 : 2147483648 ≤ (V1.toNat : Int)) (ht : g0 * (V1.toNat : Int) + r0 = top) (hr0 : 0 ≤ r0 ∧ r0 < (V1.toNat : Int)) (hg0 : 0 ≤ g0) (htop : top < (V1.toNat : Int) * 4294967296 + 4294967296) :
    ∃ g r, whileB (R := List UInt32 × List UInt32) (fun (s189 : Int × Int) => Option.bind (if (decide ((4294967296 : Int) ≤ s189.1)) = true then (some true) else (Option.bind (idx v i2) fun x202 => Option.bind (shl .u64 s189.2 32) fun x207 => Option.bind (idx u i0) fun x208 => some (decide ((bitsI .or .u64 x207 (IntKind.wrap .u64 (x208.toNat : Int))) < (IntKind.wrap .u64 (s189.1 * (IntKind.wrap .u64 (x202.toNat : Int)))))))) fun s201 => if s201 = true then if (decide ((4294967296 : Int) ≤ (IntKind.wrap .u64 (s189.2 + (IntKind.wrap .u64 (V1.toNat : Int)))))) = true then some (.bk (IntKind.wrap .u64 (s189.1 - 1), IntKind.wrap .u64 (s189.2 + (IntKind.wrap .u64 (V1.toNat : Int))))) else some (.nx (IntKind.wrap .u64 (s189.1 - 1), IntKind.wrap .u64 (s189.2 + (IntKind.wrap .u64 (V1.toNat : Int))))) else some (.bk (s189.1, s189.2))) (g0, r0) = some (.fin (g, r)) ∧
      (0 ≤ g ∧ g < 4294967296) ∧ g * (V1.toNat : Int) + r = top ∧ g * (V2.toNat : Int) ≤ r * 4294967296 + (U0.toNat : Int) ∧
      ∀ q, 0 ≤ q → q < 4294967296 → q * ((V1.toNat : Int) * 4294967296 + (V2.toNat : Int)) ≤ top * 4294967296 + (U0.toNat : Int) → q ≤ g := by
  have h1r := u32_rng V1
  have h2r := u32_rng V2
  have h0r := u32_rng U0
  -- what a failed test says
  have down : ∀ g r : Int, g * (V1.toNat : Int) + r = top → r * 4294967296 + (U0.toNat : Int) < g * (V2.toNat : Int) → ∀ q, 0 ≤ q → q * ((V1.toNat : Int) * 4294967296 + (V2.toNat : Int)) ≤ top * 4294967296 + (U0.toNat : Int) → q ≤ g - 1 := by
    intro g r hgr hlt q hq0 hq
    by_cases h : q ≤ g - 1
    · exact h
    · have h3 := Int.mul_le_mul_of_nonneg_right (show g ≤ q by omega) (show 0 ≤ (V1.toNat : Int) * 4294967296 + (V2.toNat : Int) by omega)
      rw [Int.mul_add, ← Int.mul_assoc] at h3
      rw [← hgr, Int.add_mul] at hq
      omega
  obtain ⟨x, hx, g, r, rfl, h1, h2, h3, h4⟩ := whileB_spec (R := List UInt32 × List UInt32) (body := fun (s189 : Int × Int) => Option.bind (if (decide ((4294967296 : Int) ≤ s189.1)) = true then (some true) else (Option.bind (idx v i2) fun x202 => Option.bind (shl .u64 s189.2 32) fun x207 => Option.bind (idx u i0) fun x208 => some (decide ((bitsI .or .u64 x207 (IntKind.wrap .u64 (x208.toNat : Int))) < (IntKind.wrap .u64 (s189.1 * (IntKind.wrap .u64 (x202.toNat : Int)))))))) fun s201 => if s201 = true then if (decide ((4294967296 : Int) ≤ (IntKind.wrap .u64 (s189.2 + (IntKind.wrap .u64 (V1.toNat : Int)))))) = true then some (.bk (IntKind.wrap .u64 (s189.1 - 1), IntKind.wrap .u64 (s189.2 + (IntKind.wrap .u64 (V1.toNat : Int))))) else some (.nx (IntKind.wrap .u64 (s189.1 - 1), IntKind.wrap .u64 (s189.2 + (IntKind.wrap .u64 (V1.toNat : Int))))) else some (.bk (s189.1, s189.2)))
    (GuessI V1 V2 U0 top) (fun s => s.1.toNat) (GuessQ V1 V2 U0 top) (s := (g0, r0))
    ⟨hg0, ⟨hr0.1, by show r0 < 4294967296; omega⟩, ht, fun q hq0 hq1 hq => by
      show q ≤ g0
      by_cases h : q ≤ g0
      · exact h
      · have h3 := Int.mul_le_mul_of_nonneg_right (show g0 + 1 ≤ q by omega) (show 0 ≤ (V1.toNat : Int) * 4294967296 + (V2.toNat : Int) by omega)
        rw [Int.add_mul, Int.mul_add, ← Int.mul_assoc, Int.one_mul] at h3
        have h5 := Int.mul_nonneg hg0 h2r.1
        rw [← ht, Int.add_mul] at hq
        omega⟩
    (by
      rintro ⟨g, r⟩ ⟨hg, hr, hgr, hup⟩
      dsimp only at hg hr hgr hup ⊢
      -- the guess is not far above 2^32
      have hgb : g ≤ 4294967297 := by
        by_cases h : g ≤ 4294967297
        · exact h
        · have h3 := Int.mul_le_mul_of_nonneg_right (show 4294967298 ≤ g by omega) h1r.1
          omega
      have wr : IntKind.u64.wrap (r + (V1.toNat : Int)) = r + (V1.toNat : Int) := wrapU64_id (by omega) (by omega)
      have step : (∀ q, 0 ≤ q → q < 4294967296 → q * ((V1.toNat : Int) * 4294967296 + (V2.toNat : Int)) ≤ top * 4294967296 + (U0.toNat : Int) → q ≤ g - 1) → 1 ≤ g → (∃ s', (if (decide ((4294967296 : Int) ≤ (IntKind.wrap .u64 (r + (IntKind.wrap .u64 (V1.toNat : Int)))))) = true then some (Ctl.bk (R := List UInt32 × List UInt32) (IntKind.wrap .u64 (g - 1), IntKind.wrap .u64 (r + (IntKind.wrap .u64 (V1.toNat : Int))))) else some (.nx (IntKind.wrap .u64 (g - 1), IntKind.wrap .u64 (r + (IntKind.wrap .u64 (V1.toNat : Int)))))) = some (.nx s') ∧ (GuessI V1 V2 U0 top s' ∧ s'.1.toNat < g.toNat)) ∨ (∃ s', (if (decide ((4294967296 : Int) ≤ (IntKind.wrap .u64 (r + (IntKind.wrap .u64 (V1.toNat : Int)))))) = true then some (Ctl.bk (R := List UInt32 × List UInt32) (IntKind.wrap .u64 (g - 1), IntKind.wrap .u64 (r + (IntKind.wrap .u64 (V1.toNat : Int))))) else some (.nx (IntKind.wrap .u64 (g - 1), IntKind.wrap .u64 (r + (IntKind.wrap .u64 (V1.toNat : Int)))))) = some (.bk s') ∧ GuessQ V1 V2 U0 top (.fin s')) := by
        intro hup2 hg1
        have wg : IntKind.u64.wrap (g - 1) = g - 1 := wrapU64_id (by omega) (by omega)
        rw [w64u, wr, wg]
        have hgr2 : (g - 1) * (V1.toNat : Int) + (r + (V1.toNat : Int)) = top := by rw [Int.sub_mul, Int.one_mul]; omega
        by_cases hb : 4294967296 ≤ r + (V1.toNat : Int)
        · rw [if_pos (by simpa using hb)]
          have hgl : g - 1 < 4294967296 := by
            by_cases h : g - 1 < 4294967296
            · exact h
            · have h3 := Int.mul_le_mul_of_nonneg_right (show 4294967296 ≤ g - 1 by omega) h1r.1
              omega
          refine .inr ⟨_, rfl, g - 1, r + (V1.toNat : Int), rfl, ⟨by omega, hgl⟩, hgr2, ?_, hup2⟩
          have h3 := Int.mul_le_mul (show g - 1 ≤ 4294967295 by omega) (show (V2.toNat : Int) ≤ 4294967295 by omega) h2r.1 (by decide)
          omega
        · rw [if_neg (by simpa using hb)]
          exact .inl ⟨_, rfl, ⟨by show 0 ≤ g - 1; omega, ⟨by show 0 ≤ r + (V1.toNat : Int); omega, by show r + (V1.toNat : Int) < 4294967296; omega⟩, hgr2, hup2⟩, by show (g - 1).toNat < g.toNat; omega⟩
      by_cases hbig : 4294967296 ≤ g
      · have e : decide ((4294967296 : Int) ≤ g) = true := by rw [decide_eq_true_eq]; exact hbig
        simp only [e, if_true, Option.bind_some]
        rcases step (fun q _ hq1 _ => by omega) (by omega) with ⟨s', p1, p2⟩ | ⟨s', p1, p2⟩
        · exact ⟨_, p1, p2⟩
        · exact ⟨_, p1, p2⟩
      · have e : decide ((4294967296 : Int) ≤ g) = false := by rw [decide_eq_false_iff_not]; exact hbig
        have hgv : 0 ≤ g * (V2.toNat : Int) ∧ g * (V2.toNat : Int) ≤ 4294967295 * 4294967295 := ⟨Int.mul_nonneg hg h2r.1, Int.mul_le_mul (by omega) (by omega) h2r.1 (by decide)⟩
        have w1 : IntKind.u64.wrap (g * (V2.toNat : Int)) = g * (V2.toNat : Int) := wrapU64_id (by omega) (by omega)
        simp only [e, Bool.false_eq_true, if_false, hv2, hu0, shl64 hr, Option.bind_some, w64u V2, w64u U0, or64 hr h0r, w1]
        by_cases hlt : r * 4294967296 + (U0.toNat : Int) < g * (V2.toNat : Int)
        · rw [if_pos (by simpa using hlt)]
          have hg1 : 1 ≤ g := by
            by_cases h : 1 ≤ g
            · exact h
            · obtain rfl : g = 0 := by omega
              omega
          rcases step (fun q hq0 _ hq => down g r hgr hlt q hq0 hq) hg1 with ⟨s', p1, p2⟩ | ⟨s', p1, p2⟩
          · exact ⟨_, p1, p2⟩
          · exact ⟨_, p1, p2⟩
        · rw [if_neg (by simpa using hlt)]
          exact ⟨_, rfl, g, r, rfl, ⟨hg, by omega⟩, hgr, by omega, hup⟩)
  exact ⟨g, r, hx, h1, h2, h3, h4⟩
end Go.Proofs.Ytjjdbhfigpmciaa.M
