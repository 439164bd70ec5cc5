import Derived.Test.YtjdjmddclfhpeaaGreatDoorGe
import Derived.Lib.LaidU8
import Derived.Lib.ItoaNum
import Derived.Lib.AppendIntMem
import Derived.MakeChecks
import Derived.Laws.BytesString
namespace Go.Gw
open Go Go.RowKit Go.Pu
variable {Dw : Prop}
set_option linter.unusedSimpArgs false
set_option linter.unusedVariables false
def Tb (P : Program) (A : Nat → Prop) (w : World) : Prop := Go.Lib.TabIs P w "internal/strconv.uint64pow10" .u64 Go.Lib.pow10Tab ∧ ∃ g, P.globalNamed "internal/strconv.uint64pow10" = some g ∧ A g ∧ g < w.heap.size
section
variable {P : Program} {A A1 : Nat → Prop} {w w1 : World} {B : Nat}
end
section
variable {P : Program} {n : Fr} {E : Env} {w : World} {A : Nat → Prop} {x : Operand} {ty t e : TypeId} {pos : String} {af : Array Edge} {v : Value}
theorem repL_bytes : ∀ {l : List UInt8} {cs : List Value}, repL A w cs l → cs = (l.map fun b => (b.toNat : Int)).map (Value.int .u8)
 | [], cs, h => h
 | b :: l, cs, h => by
  obtain ⟨c1, c2, rfl, h1, h2⟩ := h
  rw [repL_bytes h2, show c1 = [.int .u8 b.toNat] from h1]
  rfl
theorem push_bytes : ∀ (l : List UInt8) (s : ByteArray), (l.map fun b => (b.toNat : Int)).foldl (fun r n => r.push (UInt8.ofNat n.toNat)) s = ⟨s.data ++ l.toArray⟩
 | [], s => by simp
 | b :: l, s => by
  rw [List.map_cons, List.foldl_cons, push_bytes l]
  have hb : UInt8.ofNat (b.toNat : Int).toNat = b := by rw [Int.toNat_natCast]; exact UInt8.ofNat_toNat
  rw [hb]
  congr 1
  apply Array.toList_inj.1
  simp [ByteArray.push]
theorem Y_convBS {l : List UInt8} {ρd : Option Nat} {g : Option (Nat × Bool)} {ts : TypeId} (hsl : Sl A w v l) (hs : P.underlying ts = some (.slice e)) (he : P.underlying e = some (.int .u8)) (hd : P.underlying t = some .string) (hx : ev E x = some v) :
  Y P n E ⟨ρd, .convert ts t x, ty, pos, af, g⟩ w (.string ⟨l.toArray⟩) w := fun a hA => by
 simp only [execOp, hA.eval hx]
 obtain ⟨ad, cap, hv⟩ : ∃ ad cap, v = .slice ad l.length cap := by
  rcases hsl with ⟨a, c, rfl, rfl, _, _⟩ | ⟨b, off, cap, cs, h1, _⟩
  ·exact ⟨a, c, rfl⟩
  ·exact ⟨_, _, h1⟩
 have key : (convert ts t v).run P w = .ok (.string ⟨l.toArray⟩) w := by
  rcases hsl with ⟨a, c, rfl, rfl, _, hc⟩ | ⟨b, off, cap, cs, rfl, hb, hlt, hlc, hcm, hrep, hat⟩
  ·rw [run_convert_bytes_string w ts t e a 0 c hs he hd]
   cases a with
   | none => simp [Conv.bytesToString]; rfl
   | some a =>
    rw [run_bytesToString w a 0 c [] (by simp [loadCells, loadCellsFrom])]
    rfl
  ·rw [run_convert_bytes_string w ts t e _ l.length cap hs he hd]
   rw [run_bytesToString w _ l.length cap (l.map fun b => (b.toNat : Int)) ?_, push_bytes]
   ·simp
   ·have hcs := repL_bytes hrep
    have hlen : cs.length = l.length := by rw [hcs]; simp
    rw [← hcs, ← hlen]
    have := run_loadCellsFrom (P := P) (w := w) cs b off 0 #[] (fun j u hj => by rw [Nat.zero_add]; exact hat j u hj)
    simpa [loadCells] using this
 simp [key, Result.andThen]
end
section
variable {P : Program} {n : Fr} {E : Env} {w : World} {x y z : Operand} {ty t : TypeId} {pos : String} {af : Array Edge} {ρd : Option Nat} {g : Option (Nat × Bool)} {s r : ByteArray}
theorem sliceS_some {lo hi : Option Int} (h : sliceS s lo hi = some r) : ∃ l u : Nat, lo.getD 0 = (l : Int) ∧ hi.getD s.size = (u : Int) ∧ l ≤ u ∧ u ≤ s.size ∧ r = s.extract l u := by
 unfold sliceS at h
 simp only [Option.map_eq_some_iff] at h
 obtain ⟨p, hp, rfl⟩ := h
 unfold bounds at hp
 simp only at hp
 split at hp
 ·rename_i hb
  obtain rfl := Option.some.inj hp
  exact ⟨(lo.getD 0).toNat, (hi.getD s.size).toNat, by omega, by omega, by omega, by omega, rfl⟩
 ·cases hp
theorem Y_sliceSL {k : IntKind} {lo : Int} (h : sliceS s (some lo) none = some r) (ht : P.underlying t = some .string) (hx : ev E x = some (.string s)) (hy : ev E y = some (.int k lo)) : Y P n E ⟨ρd, .slice t x (some y) none none, ty, pos, af, g⟩ w (.string r) w := by
 intro a hA
 obtain ⟨l, u, h1, h2, h3, h4, rfl⟩ := sliceS_some h
 simp only [Option.getD_none, Option.getD_some] at h1 h2
 obtain rfl : u = s.size := by omega
 subst h1
 have hb : ¬ s.size < l := by omega
 simp [execOp, hA.eval hx, hA.eval hy, Instr.sliceAt, Instr.slice, Instr.sliceBounds, Instr.sliceBound, asIntOf, underlying, ht, hb]
theorem Y_sliceSH {k : IntKind} {hi : Int} (h : sliceS s none (some hi) = some r) (ht : P.underlying t = some .string) (hx : ev E x = some (.string s)) (hz : ev E z = some (.int k hi)) : Y P n E ⟨ρd, .slice t x none (some z) none, ty, pos, af, g⟩ w (.string r) w := by
 intro a hA
 obtain ⟨l, u, h1, h2, h3, h4, rfl⟩ := sliceS_some h
 simp only [Option.getD_none, Option.getD_some] at h1 h2
 obtain rfl : l = 0 := by omega
 subst h2
 have hb : ¬ s.size < u := by omega
 simp [execOp, hA.eval hx, hA.eval hz, Instr.sliceAt, Instr.slice, Instr.sliceBounds, Instr.sliceBound, asIntOf, underlying, ht, hb]
theorem Y_sliceSLH {k k2 : IntKind} {lo hi : Int} (h : sliceS s (some lo) (some hi) = some r) (ht : P.underlying t = some .string) (hx : ev E x = some (.string s)) (hy : ev E y = some (.int k lo)) (hz : ev E z = some (.int k2 hi)) : Y P n E ⟨ρd, .slice t x (some y) (some z) none, ty, pos, af, g⟩ w (.string r) w := by
 intro a hA
 obtain ⟨l, u, h1, h2, h3, h4, rfl⟩ := sliceS_some h
 simp only [Option.getD_some] at h1 h2
 subst h1
 subst h2
 have hb : u ≤ s.size := h4
 have hb2 : l ≤ u := h3
 simp [execOp, hA.eval hx, hA.eval hy, hA.eval hz, Instr.sliceAt, Instr.slice, Instr.sliceBounds, Instr.sliceBound, asIntOf, underlying, ht, hb, hb2]
end
end Go.Gw
