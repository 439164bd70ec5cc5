import GoSem.Core.View
import GoSem.ClaimData
namespace Go.Pu
open Go
set_option linter.unusedSimpArgs false
set_option linter.unusedVariables false
def w64 (n : Int) : Int := IntKind.i64.wrap n
theorem Zi {n : Int} (h : -9223372036854775808 ≤ n) (h' : n ≤ 9223372036854775807) : w64 n = n := by
 unfold w64
 simp only [IntKind.wrap, IntKind.bits, IntKind.signed]
 simp
 split <;> omega
def idx {α : Type} (l : List α) (i : Int) : Option α := if 0 ≤ i then l[i.toNat]? else none
def setI {α : Type} (l : List α) (i : Int) (x : α) : Option (List α) :=
 if 0 ≤ i ∧ i.toNat < l.length then some (l.set i.toNat x) else none
def optE {α : Type} (l : List α) (i : Int) : Option (Option α) := if i < 0 then some none else (idx l i).map some
def zt {α : Type} (lim : Nat) (l m : List α) : Option (List α) := if l.length + m.length ≤ lim then some (l ++ m) else none
def QN {α : Type} (lim : Nat) (k : Int) (z : α) : Option (List α) := if 0 ≤ k ∧ k.toNat ≤ lim then some (List.replicate k.toNat z) else none
def toU32 (x : Int) : UInt32 := UInt32.ofNat (IntKind.u32.wrap x).toNat
def toU8 (x : Int) : UInt8 := UInt8.ofNat (IntKind.u8.wrap x).toNat
def makeC {α : Type} (lim : Nat) (k c : Int) (z : α) : Option (List α) := if 0 ≤ k ∧ k ≤ c ∧ c.toNat ≤ lim then some (List.replicate k.toNat z) else none
def copyL {α : Type} (l m : List α) : List α := m.take l.length ++ l.drop m.length
def quo (a b : Int) : Option Int := if b = 0 then none else some (w64 (a.tdiv b))
def rem (a b : Int) : Option Int := if b = 0 then none else some (a.tmod b)
def shl (k : IntKind) (x y : Int) : Option Int := if y < 0 then none else some (k.wrap (x * 2 ^ (min y.toNat k.bits)))
def shr (k : IntKind) (x y : Int) : Option Int := if y < 0 then none else some (x.fdiv (2 ^ (min y.toNat k.bits)))
def idxS (s : ByteArray) (i : Int) : Option UInt8 := if 0 ≤ i then s[i.toNat]? else none
def catS (s u : ByteArray) : Option ByteArray := if ((s.size + u.size : Nat) : Int) > IntKind.i64.max then none else some (s ++ u)
def zeH (s u : ByteArray) : Bool := Op.bytesLess s.toList u.toList
def ja (s u : ByteArray) : Bool := s.toList == u.toList
def zdd (n : Nat) (lo hi : Option Int) : Option (Nat × Nat) :=
 let h := hi.getD n
 let l := lo.getD 0
 if 0 ≤ h ∧ h ≤ n ∧ 0 ≤ l ∧ l ≤ h then some (l.toNat, h.toNat) else none
def zdg (s : ByteArray) (lo hi : Option Int) : Option ByteArray := (zdd s.size lo hi).map fun p => s.extract p.1 p.2
def zaH {α : Type} (s : List α) (lo hi : Option Int) : Option (List α) := (zdd s.length lo hi).map fun p => (s.take p.2).drop p.1
def zdp : List UInt8 → UInt8 → Int
 | [], _ => -1
 | b :: l, c => if b == c then 0 else if zdp l c == -1 then -1 else zdp l c + 1
def indexByteS (s : ByteArray) (c : Int) : Int := zdp s.toList c.toNat.toUInt8
inductive Ctl (S R : Type) where
 | nx (s : S)
 | bk (s : S)
 | rt (r : R)
inductive Lp (S R : Type) where
 | fin (s : S)
 | rt (r : R)
def Lp.andThen {S R T : Type} (o : Lp S R) (g : R → Option T) (f : S → Option T) : Option T :=
 match o with
 | .fin s => f s
 | .rt r => g r
theorem Lp.andThen_fin {S R T : Type} {s : S} {g : R → Option T} {f : S → Option T} : (Lp.fin s).andThen g f = f s := rfl
theorem Lp.andThen_rt {S R T : Type} {r : R} {g : R → Option T} {f : S → Option T} : (Lp.rt r).andThen g f = g r := rfl
def zE {S R : Type} (body : Nat → S → Option (Ctl S R)) : Nat → Nat → S → Option (Lp S R)
 | 0, _, s => some (.fin s)
 | m + 1, k, s =>
  match body k s with
  | none => none
  | some (.nx s') => zE body m (k + 1) s'
  | some (.bk s') => some (.fin s')
  | some (.rt r) => some (.rt r)
def qJ {S R : Type} (body : S → Option (Ctl S R)) : Nat → S → Option (Lp S R)
 | 0, _ => none
 | n + 1, s =>
  match body s with
  | none => none
  | some (.nx s') => qJ body n s'
  | some (.bk s') => some (.fin s')
  | some (.rt r) => some (.rt r)
theorem zig {S R : Type} {body : S → Option (Ctl S R)} {n : Nat} {s : S} {r : Lp S R} (h : qJ body n s = some r) : qJ body (n + 1) s = some r := by
 induction n generalizing s with
 | zero => simp [qJ] at h
 | succ n ih =>
  rw [qJ] at h ⊢
  split <;> simp_all
theorem zgO {S R : Type} {body : S → Option (Ctl S R)} {n m : Nat} (hle : n ≤ m) {s : S} {r : Lp S R} (h : qJ body n s = some r) : qJ body m s = some r := by
 induction hle with
 | refl => exact h
 | step _ ih => exact zig ih
open Classical in
noncomputable def QT {S R : Type} (body : S → Option (Ctl S R)) (s : S) : Option (Lp S R) :=
 if h : ∃ n r, qJ body n s = some r then some h.choose_spec.choose else none
theorem zaj {S R : Type} {body : S → Option (Ctl S R)} {s : S} {r : Lp S R} : QT body s = some r ↔ ∃ n, qJ body n s = some r := by
 unfold QT
 constructor
 ·intro h
  split at h
  ·rename_i hx
   have := hx.choose_spec.choose_spec
   rw [Option.some.inj h] at this
   exact ⟨_, this⟩
  ·cases h
 ·rintro ⟨n, h⟩
  have hx : ∃ n r, qJ body n s = some r := ⟨n, r, h⟩
  rw [dif_pos hx]
  have h1 := hx.choose_spec.choose_spec
  have h2 := zgO (Nat.le_max_left hx.choose n) h1
  have h3 := zgO (Nat.le_max_right hx.choose n) h
  rw [h2] at h3
  exact h3
theorem zar {S R : Type} {body : S → Option (Ctl S R)} (I : S → Prop) (μ : S → Nat) (Q : Lp S R → Prop) {s : S} (h0 : I s)
  (round : ∀ s, I s → ∃ x, body s = some x ∧ match x with
   | .nx s' => I s' ∧ μ s' < μ s
   | .bk s' => Q (.fin s')
   | .rt r => Q (.rt r)) : ∃ r, QT body s = some r ∧ Q r := by
 have key : ∀ n s, μ s < n → I s → ∃ r, qJ body n s = some r ∧ Q r := by
  intro n
  induction n with
  | zero => intro s h; omega
  | succ n ih =>
   intro s hn hI
   obtain ⟨x, hx, hp⟩ := round s hI
   rw [qJ, hx]
   cases x with
   | nx s' =>
    obtain ⟨r, h1, h2⟩ := ih s' (by have := hp.2; omega) hp.1
    exact ⟨r, h1, h2⟩
   | bk s' => exact ⟨_, rfl, hp⟩
   | rt r => exact ⟨_, rfl, hp⟩
 obtain ⟨r, h1, h2⟩ := key (μ s + 1) s (by omega) h0
 exact ⟨r, zaj.2 ⟨_, h1⟩, h2⟩
theorem JO {S R : Type} {body : Nat → S → Option (Ctl S R)} (n : Nat) (I : Nat → S → Prop) (Q : Lp S R → Prop) {s : S} (h0 : I 0 s)
  (round : ∀ k s, k < n → I k s → ∃ x, body k s = some x ∧ match x with
   | .nx s' => I (k + 1) s'
   | .bk s' => Q (.fin s')
   | .rt r => Q (.rt r)) (hend : ∀ s, I n s → Q (.fin s)) : ∃ r, zE body n 0 s = some r ∧ Q r := by
 have key : ∀ m k s, k + m = n → I k s → ∃ r, zE body m k s = some r ∧ Q r := by
  intro m
  induction m with
  | zero =>
   intro k s hk hI
   obtain rfl : k = n := by omega
   exact ⟨_, rfl, hend s hI⟩
  | succ m ih =>
   intro k s hk hI
   obtain ⟨x, hx, hp⟩ := round k s (by omega) hI
   rw [zE, hx]
   cases x with
   | nx s' => exact ih (k + 1) s' (by omega) hp
   | bk s' => exact ⟨_, rfl, hp⟩
   | rt r => exact ⟨_, rfl, hp⟩
 exact key n 0 s (by omega) h0
def QD {X S : Type} (bd : X → S → Option (S × Option Nat)) (x : X) (z : S × Option Nat) : Option (Bool × (S × Option Nat)) :=
 Option.bind (if z.2.isNone then bd x z.1 else none) fun r => some (r.2.isNone, r)
end Go.Pu
