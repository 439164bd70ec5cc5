import Derived.Test.YtjdjmddclfhpeaaGreatDoorProg
import Derived.Test.YtjdjmddclfhpeaaGreatDoorGe
import Derived.Test.YtjdjmddclfhpeaaGreatDoorTopFoundM
import Derived.KernelRfl
import Derived.Test.YtjdjmddclfhpeaaGreatDoorSq
import Derived.Test.YtjdjmddclfhpeaaGreatDoorHr
import Derived.Test.YtjdjmddclfhpeaaGreatDoorHw
import Derived.Test.YtjdjmddclfhpeaaGreatDoorHq
import Derived.Test.YtjdjmddclfhpeaaGreatDoorIa
import Derived.Test.YtjdjmddclfhpeaaGreatDoorHs
import Derived.Test.YtjdjmddclfhpeaaGreatDoorIe
import Derived.Test.YtjdjmddclfhpeaaGreatDoorGu
import Derived.Shelf.Small.Strs
import Derived.Shelf.Strings.OnBuilder
import Derived.Shelf.Strings.Split
import Derived.Test.YtjdjmddclfhpeaaGreatDoorGi
import Derived.Test.YtjdjmddclfhpeaaGreatDoorHc
import Derived.Test.YtjdjmddclfhpeaaGreatDoorHa
import Derived.Test.YtjdjmddclfhpeaaGreatDoorHz
import Derived.Test.YtjdjmddclfhpeaaGreatDoorGj
import Derived.Test.YtjdjmddclfhpeaaGreatDoorGg
import Derived.Test.YtjdjmddclfhpeaaGreatDoorGv
import Derived.Test.YtjdjmddclfhpeaaGreatDoorHe
import Derived.Test.YtjdjmddclfhpeaaGreatDoorHf
import Derived.Shelf.Slices.In.SortNone
import Derived.Shelf.Sort.Plain
namespace Go.Proofs.YtjdjmddclfhpeaaGreatDoor.W
open Go Go.RowKit Go.Pu Go.Gw Go.Proofs Go.Proofs.YtjdjmddclfhpeaaGreatDoor.M
set_option linter.unusedVariables false
set_option linter.unusedSimpArgs false
variable {Dw : Prop}
set_option maxHeartbeats 4000000
set_option maxRecDepth 4000
open Tryz
variable {A : Nat → Prop} {w : World} {b off : Nat}
theorem Tryz_info3 : Tryz.prog.info? 3 = some Tryz.t3 := by kernel_rfl
theorem Tryz_info9 : Tryz.prog.info? 9 = some Tryz.t9 := by kernel_rfl
theorem Tryz_info23 : Tryz.prog.info? 23 = some Tryz.t23 := by kernel_rfl
theorem Tryz_info35 : Tryz.prog.info? 35 = some Tryz.t35 := by kernel_rfl
theorem Tryz_info38 : Tryz.prog.info? 38 = some Tryz.t38 := by kernel_rfl
theorem Tryz_info45 : Tryz.prog.info? 45 = some Tryz.t45 := by kernel_rfl
theorem Tryz_info55 : Tryz.prog.info? 55 = some Tryz.t55 := by kernel_rfl
theorem Tryz_info58 : Tryz.prog.info? 58 = some Tryz.t58 := by kernel_rfl
theorem Tryz_info68 : Tryz.prog.info? 68 = some Tryz.t68 := by kernel_rfl
theorem Tryz_info90 : Tryz.prog.info? 90 = some Tryz.t90 := by kernel_rfl
theorem Tryz_info98 : Tryz.prog.info? 98 = some Tryz.t98 := by kernel_rfl
theorem Tryz_places27 : ∀ fs, Tryz.prog.underlying 27 = some (.struct fs) → ∀ w : World, (Array.mapM (fun (f : Field) => do pure (f.offset, ← Go.sizeOf f.type)) fs).run Tryz.prog w = .ok #[(0, 1)] w := by
  intro fs h w
  rw [Tryz.underlying27] at h
  cases h
  kernel_rfl
theorem Tryz_places38 : ∀ fs, Tryz.prog.underlying 38 = some (.struct fs) → ∀ w : World, (Array.mapM (fun (f : Field) => do pure (f.offset, ← Go.sizeOf f.type)) fs).run Tryz.prog w = .ok #[(0, 1), (1, 1), (2, 1)] w := by
  intro fs h w
  rw [Tryz.underlying38] at h
  cases h
  kernel_rfl
theorem Tryz_places47 : ∀ fs, Tryz.prog.underlying 47 = some (.struct fs) → ∀ w : World, (Array.mapM (fun (f : Field) => do pure (f.offset, ← Go.sizeOf f.type)) fs).run Tryz.prog w = .ok #[(0, 1), (1, 1), (2, 1)] w := by
  intro fs h w
  rw [Tryz.underlying47] at h
  cases h
  kernel_rfl
theorem Tryz_places55 : ∀ fs, Tryz.prog.underlying 55 = some (.struct fs) → ∀ w : World, (Array.mapM (fun (f : Field) => do pure (f.offset, ← Go.sizeOf f.type)) fs).run Tryz.prog w = .ok #[(0, 1), (1, 1)] w := by
  intro fs h w
  rw [Tryz.underlying55] at h
  cases h
  kernel_rfl
theorem Tryz_places58 : ∀ fs, Tryz.prog.underlying 58 = some (.struct fs) → ∀ w : World, (Array.mapM (fun (f : Field) => do pure (f.offset, ← Go.sizeOf f.type)) fs).run Tryz.prog w = .ok #[(0, 1), (1, 1), (2, 1)] w := by
  intro fs h w
  rw [Tryz.underlying58] at h
  cases h
  kernel_rfl
theorem Tryz_places66 : ∀ fs, Tryz.prog.underlying 66 = some (.struct fs) → ∀ w : World, (Array.mapM (fun (f : Field) => do pure (f.offset, ← Go.sizeOf f.type)) fs).run Tryz.prog w = .ok #[(0, 1), (1, 1)] w := by
  intro fs h w
  rw [Tryz.underlying66] at h
  cases h
  kernel_rfl
theorem Tryz_places68 : ∀ fs, Tryz.prog.underlying 68 = some (.struct fs) → ∀ w : World, (Array.mapM (fun (f : Field) => do pure (f.offset, ← Go.sizeOf f.type)) fs).run Tryz.prog w = .ok #[(0, 1), (1, 1), (2, 1)] w := by
  intro fs h w
  rw [Tryz.underlying68] at h
  cases h
  kernel_rfl
theorem Tryz_places90 : ∀ fs, Tryz.prog.underlying 90 = some (.struct fs) → ∀ w : World, (Array.mapM (fun (f : Field) => do pure (f.offset, ← Go.sizeOf f.type)) fs).run Tryz.prog w = .ok #[(0, 1), (1, 1)] w := by
  intro fs h w
  rw [Tryz.underlying90] at h
  cases h
  kernel_rfl
theorem Tryz_places98 : ∀ fs, Tryz.prog.underlying 98 = some (.struct fs) → ∀ w : World, (Array.mapM (fun (f : Field) => do pure (f.offset, ← Go.sizeOf f.type)) fs).run Tryz.prog w = .ok #[(0, 1), (1, 1), (2, 1)] w := by
  intro fs h w
  rw [Tryz.underlying98] at h
  cases h
  kernel_rfl
theorem Tryz_ext113 : Tryz.prog.funcs[113]? = some Tryz.f113 := by kernel_rfl
theorem Tryz_extn113 : Extern.findNext Tryz.f113 = none := by kernel_rfl
theorem Tryz_extf113 : Extern.find Tryz.f113 = some Extern.BytealgIndexByte.indexByte := by kernel_rfl
theorem Tryz_extb113 : (Tryz.f113.name == "runtime.NumGoroutine") = false ∧ Tryz.f113.body.isNone = true := by constructor <;> kernel_rfl
theorem Tryz_eqt55_10000 (a0 : Int) (a1 : Int) (b0 : Int) (b1 : Int) (w : World) : (Op.equalIn 10000 55 (.agg #[.int .i64 a0, .int .i64 a1]) (.agg #[.int .i64 b0, .int .i64 b1])).run Tryz.prog w = .ok (a0 == b0 && (a1 == b1)) w := by
  refine (run_equalIn_struct w 9999 55 _ _ (by kernel_rfl) (by kernel_rfl)).trans ?_
  rw [show Tryz.prog.fieldsOf 55 = _ from by unfold Program.fieldsOf; rw [Tryz.underlying55]]
  cases h0 : (a0 == b0) <;> cases h1 : (a1 == b1) <;> simp_all [Op.eqFields, part, strEq, Tryz.isAgg3, run_equalIn_int _ _ _ _ _ _ _ Tryz.underlying3]
theorem Tryz_eqg55 : Tryz.prog.eqGuardType Tryz.prog.depth 55 = false := by kernel_rfl
theorem Tryz_mixed : Tryz.prog.follows .mixedOrders = true := by kernel_rfl
instance : GoT know_queryReader := GoT.of (β := ByteArray × Int) fun x => (x.s, x.at_)
instance : Flat know_queryReader := ⟨fun {A w A1 w1 cs x} h => Flat.flat (α := ByteArray × Int) (x := (x.s, x.at_)) (A := A) (w := w) h⟩
theorem El_know_queryReader_ {A : Nat → Prop} {w : World} {b off : Nat} {x : know_queryReader} (h : El A w b off x) : El (α := ByteArray × Int) A w b off (x.s, x.at_) := h
theorem El_know_queryReader_1 {A : Nat → Prop} {w : World} {b off : Nat} {x : know_queryReader} (h : El A w b off x) : El A w b (off + 1) x.at_ := El.snd (El_know_queryReader_ h)
instance : GoT know_Part := GoT.of (β := Int × Bool × (List ByteArray)) fun x => (x.kind, x.not_, x.words)
theorem El_know_Part_ {A : Nat → Prop} {w : World} {b off : Nat} {x : know_Part} (h : El A w b off x) : El (α := Int × Bool × (List ByteArray)) A w b off (x.kind, x.not_, x.words) := h
theorem El_know_Part_0 {A : Nat → Prop} {w : World} {b off : Nat} {x : know_Part} (h : El A w b off x) : El A w b (off + 0) x.kind := El.fst (El_know_Part_ h)
theorem El_know_Part_1 {A : Nat → Prop} {w : World} {b off : Nat} {x : know_Part} (h : El A w b off x) : El A w b (off + 1) x.not_ := El.fst (El.snd (El_know_Part_ h))
theorem El_know_Part_2 {A : Nat → Prop} {w : World} {b off : Nat} {x : know_Part} (h : El A w b off x) : El A w b (off + 2) x.words := El.snd (El.snd (El_know_Part_ h))
theorem El_know_Part {A : Nat → Prop} {w : World} {b off : Nat} {x : know_Part} (h : El A w b off x) : ∃ v1, At w b off [.int .i64 x.kind, .bool x.not_, v1] ∧ Sl A w v1 x.words := by
  obtain ⟨h1, h2, cs, h3, h4⟩ := h
  obtain ⟨_, _, rfl, rfl, ⟨_, _, rfl, rfl, ⟨u1, rfl, g1⟩⟩⟩ := h3
  exact ⟨u1, h4, g1⟩
instance : GoT know_Query := GoT.of (β := (List know_Part)) fun x => (x.parts)
theorem El_know_Query_ {A : Nat → Prop} {w : World} {b off : Nat} {x : know_Query} (h : El A w b off x) : El (α := (List know_Part)) A w b off (x.parts) := h
theorem El_know_Query_0 {A : Nat → Prop} {w : World} {b off : Nat} {x : know_Query} (h : El A w b off x) : El A w b (off + 0) x.parts := (El_know_Query_ h)
theorem El_know_Query {A : Nat → Prop} {w : World} {b off : Nat} {x : know_Query} (h : El A w b off x) : ∃ v1, At w b off [v1] ∧ Sl A w v1 x.parts := by
  obtain ⟨h1, h2, cs, h3, h4⟩ := h
  obtain ⟨u1, rfl, g1⟩ := h3
  exact ⟨u1, h4, g1⟩
instance : GoT know_Version := GoT.of (β := Int × ByteArray × ByteArray) fun x => (x.at_, x.title, x.body)
instance : Flat know_Version := ⟨fun {A w A1 w1 cs x} h => Flat.flat (α := Int × ByteArray × ByteArray) (x := (x.at_, x.title, x.body)) (A := A) (w := w) h⟩
theorem El_know_Version_ {A : Nat → Prop} {w : World} {b off : Nat} {x : know_Version} (h : El A w b off x) : El (α := Int × ByteArray × ByteArray) A w b off (x.at_, x.title, x.body) := h
theorem El_know_Version_0 {A : Nat → Prop} {w : World} {b off : Nat} {x : know_Version} (h : El A w b off x) : El A w b (off + 0) x.at_ := El.fst (El_know_Version_ h)
theorem El_know_Version_1 {A : Nat → Prop} {w : World} {b off : Nat} {x : know_Version} (h : El A w b off x) : El A w b (off + 1) x.title := El.fst (El.snd (El_know_Version_ h))
theorem El_know_Version_2 {A : Nat → Prop} {w : World} {b off : Nat} {x : know_Version} (h : El A w b off x) : El A w b (off + 2) x.body := El.snd (El.snd (El_know_Version_ h))
theorem El_know_Version {A : Nat → Prop} {w : World} {b off : Nat} {x : know_Version} (h : El A w b off x) : At w b off [.int .i64 x.at_, .string x.title, .string x.body] ∧ True := by
  obtain ⟨h1, h2, cs, h3, h4⟩ := h
  obtain ⟨_, _, rfl, rfl, ⟨_, _, rfl, rfl, rfl⟩⟩ := h3
  exact ⟨h4, trivial⟩
instance : GoT know_Article := GoT.of (β := Int × Int × (List know_Version)) fun x => (x.id_, x.group, x.versions)
theorem El_know_Article_ {A : Nat → Prop} {w : World} {b off : Nat} {x : know_Article} (h : El A w b off x) : El (α := Int × Int × (List know_Version)) A w b off (x.id_, x.group, x.versions) := h
theorem El_know_Article_0 {A : Nat → Prop} {w : World} {b off : Nat} {x : know_Article} (h : El A w b off x) : El A w b (off + 0) x.id_ := El.fst (El_know_Article_ h)
theorem El_know_Article_1 {A : Nat → Prop} {w : World} {b off : Nat} {x : know_Article} (h : El A w b off x) : El A w b (off + 1) x.group := El.fst (El.snd (El_know_Article_ h))
theorem El_know_Article_2 {A : Nat → Prop} {w : World} {b off : Nat} {x : know_Article} (h : El A w b off x) : El A w b (off + 2) x.versions := El.snd (El.snd (El_know_Article_ h))
theorem El_know_Article {A : Nat → Prop} {w : World} {b off : Nat} {x : know_Article} (h : El A w b off x) : ∃ v1, At w b off [.int .i64 x.id_, .int .i64 x.group, v1] ∧ Sl A w v1 x.versions := by
  obtain ⟨h1, h2, cs, h3, h4⟩ := h
  obtain ⟨_, _, rfl, rfl, ⟨_, _, rfl, rfl, ⟨u1, rfl, g1⟩⟩⟩ := h3
  exact ⟨u1, h4, g1⟩
theorem ElR_know_Article {A : Nat → Prop} {w : World} {b off : Nat} {x : know_Article} (h : ∃ cs, GoT.rep A w cs x ∧ At w b off cs) : ∃ v1, At w b off [.int .i64 x.id_, .int .i64 x.group, v1] ∧ Sl A w v1 x.versions := by
  obtain ⟨cs, h3, h4⟩ := h
  obtain ⟨_, _, rfl, rfl, ⟨_, _, rfl, rfl, ⟨u1, rfl, g1⟩⟩⟩ := h3
  exact ⟨u1, h4, g1⟩
instance : GoT know_Entry := GoT.of (β := Int × ByteArray × ByteArray) fun x => (x.id_, x.title, x.body)
instance : Flat know_Entry := ⟨fun {A w A1 w1 cs x} h => Flat.flat (α := Int × ByteArray × ByteArray) (x := (x.id_, x.title, x.body)) (A := A) (w := w) h⟩
theorem El_know_Entry_ {A : Nat → Prop} {w : World} {b off : Nat} {x : know_Entry} (h : El A w b off x) : El (α := Int × ByteArray × ByteArray) A w b off (x.id_, x.title, x.body) := h
theorem El_know_Entry_0 {A : Nat → Prop} {w : World} {b off : Nat} {x : know_Entry} (h : El A w b off x) : El A w b (off + 0) x.id_ := El.fst (El_know_Entry_ h)
theorem El_know_Entry_1 {A : Nat → Prop} {w : World} {b off : Nat} {x : know_Entry} (h : El A w b off x) : El A w b (off + 1) x.title := El.fst (El.snd (El_know_Entry_ h))
theorem El_know_Entry_2 {A : Nat → Prop} {w : World} {b off : Nat} {x : know_Entry} (h : El A w b off x) : El A w b (off + 2) x.body := El.snd (El.snd (El_know_Entry_ h))
theorem El_know_Entry {A : Nat → Prop} {w : World} {b off : Nat} {x : know_Entry} (h : El A w b off x) : At w b off [.int .i64 x.id_, .string x.title, .string x.body] ∧ True := by
  obtain ⟨h1, h2, cs, h3, h4⟩ := h
  obtain ⟨_, _, rfl, rfl, ⟨_, _, rfl, rfl, rfl⟩⟩ := h3
  exact ⟨h4, trivial⟩
instance : GoT know_Posting := GoT.of (β := Int × (List Int) × (List Int)) fun x => (x.id_, x.title, x.body)
theorem El_know_Posting_ {A : Nat → Prop} {w : World} {b off : Nat} {x : know_Posting} (h : El A w b off x) : El (α := Int × (List Int) × (List Int)) A w b off (x.id_, x.title, x.body) := h
theorem El_know_Posting_0 {A : Nat → Prop} {w : World} {b off : Nat} {x : know_Posting} (h : El A w b off x) : El A w b (off + 0) x.id_ := El.fst (El_know_Posting_ h)
theorem El_know_Posting_1 {A : Nat → Prop} {w : World} {b off : Nat} {x : know_Posting} (h : El A w b off x) : El A w b (off + 1) x.title := El.fst (El.snd (El_know_Posting_ h))
theorem El_know_Posting_2 {A : Nat → Prop} {w : World} {b off : Nat} {x : know_Posting} (h : El A w b off x) : El A w b (off + 2) x.body := El.snd (El.snd (El_know_Posting_ h))
theorem El_know_Posting {A : Nat → Prop} {w : World} {b off : Nat} {x : know_Posting} (h : El A w b off x) : ∃ v1 v3, At w b off [.int .i64 x.id_, v1, v3] ∧ Sl A w v1 x.title ∧ Sl A w v3 x.body := by
  obtain ⟨h1, h2, cs, h3, h4⟩ := h
  obtain ⟨_, _, rfl, rfl, ⟨_, _, rfl, ⟨u1, rfl, g1⟩, ⟨u2, rfl, g2⟩⟩⟩ := h3
  exact ⟨u1, u2, h4, g1, g2⟩
instance : GoT know_Term := GoT.of (β := ByteArray × (List know_Posting)) fun x => (x.word, x.list_)
theorem El_know_Term_ {A : Nat → Prop} {w : World} {b off : Nat} {x : know_Term} (h : El A w b off x) : El (α := ByteArray × (List know_Posting)) A w b off (x.word, x.list_) := h
theorem El_know_Term_0 {A : Nat → Prop} {w : World} {b off : Nat} {x : know_Term} (h : El A w b off x) : El A w b (off + 0) x.word := El.fst (El_know_Term_ h)
theorem El_know_Term_1 {A : Nat → Prop} {w : World} {b off : Nat} {x : know_Term} (h : El A w b off x) : El A w b (off + 1) x.list_ := El.snd (El_know_Term_ h)
theorem El_know_Term {A : Nat → Prop} {w : World} {b off : Nat} {x : know_Term} (h : El A w b off x) : ∃ v1, At w b off [.string x.word, v1] ∧ Sl A w v1 x.list_ := by
  obtain ⟨h1, h2, cs, h3, h4⟩ := h
  obtain ⟨_, _, rfl, rfl, ⟨u1, rfl, g1⟩⟩ := h3
  exact ⟨u1, h4, g1⟩
theorem ElR_know_Term {A : Nat → Prop} {w : World} {b off : Nat} {x : know_Term} (h : ∃ cs, GoT.rep A w cs x ∧ At w b off cs) : ∃ v1, At w b off [.string x.word, v1] ∧ Sl A w v1 x.list_ := by
  obtain ⟨cs, h3, h4⟩ := h
  obtain ⟨_, _, rfl, rfl, ⟨u1, rfl, g1⟩⟩ := h3
  exact ⟨u1, h4, g1⟩
theorem Rep_know_Term {A : Nat → Prop} {w : World} {cs : List Value} {x : know_Term} (h : GoT.rep A w cs x) : ∃ v1, cs = [.string x.word, v1] ∧ Sl A w v1 x.list_ := by
  obtain ⟨_, _, rfl, rfl, ⟨u1, rfl, g1⟩⟩ := h
  exact ⟨u1, rfl, g1⟩
instance : GoT know_Index := GoT.of (β := (List Int) × (List Int) × (List know_Term)) fun x => (x.ids, x.sizes, x.terms)
theorem El_know_Index_ {A : Nat → Prop} {w : World} {b off : Nat} {x : know_Index} (h : El A w b off x) : El (α := (List Int) × (List Int) × (List know_Term)) A w b off (x.ids, x.sizes, x.terms) := h
theorem El_know_Index_0 {A : Nat → Prop} {w : World} {b off : Nat} {x : know_Index} (h : El A w b off x) : El A w b (off + 0) x.ids := El.fst (El_know_Index_ h)
theorem El_know_Index_1 {A : Nat → Prop} {w : World} {b off : Nat} {x : know_Index} (h : El A w b off x) : El A w b (off + 1) x.sizes := El.fst (El.snd (El_know_Index_ h))
theorem El_know_Index_2 {A : Nat → Prop} {w : World} {b off : Nat} {x : know_Index} (h : El A w b off x) : El A w b (off + 2) x.terms := El.snd (El.snd (El_know_Index_ h))
theorem El_know_Index {A : Nat → Prop} {w : World} {b off : Nat} {x : know_Index} (h : El A w b off x) : ∃ v1 v3 v5, At w b off [v1, v3, v5] ∧ Sl A w v1 x.ids ∧ Sl A w v3 x.sizes ∧ Sl A w v5 x.terms := by
  obtain ⟨h1, h2, cs, h3, h4⟩ := h
  obtain ⟨_, _, rfl, ⟨u1, rfl, g1⟩, ⟨_, _, rfl, ⟨u2, rfl, g2⟩, ⟨u3, rfl, g3⟩⟩⟩ := h3
  exact ⟨u1, u2, u3, h4, g1, g2, g3⟩
instance : GoT know_Hit := GoT.of (β := Int × Int) fun x => (x.id_, x.score)
instance : Flat know_Hit := ⟨fun {A w A1 w1 cs x} h => Flat.flat (α := Int × Int) (x := (x.id_, x.score)) (A := A) (w := w) h⟩
theorem El_know_Hit_ {A : Nat → Prop} {w : World} {b off : Nat} {x : know_Hit} (h : El A w b off x) : El (α := Int × Int) A w b off (x.id_, x.score) := h
theorem El_know_Hit_0 {A : Nat → Prop} {w : World} {b off : Nat} {x : know_Hit} (h : El A w b off x) : El A w b (off + 0) x.id_ := El.fst (El_know_Hit_ h)
theorem El_know_Hit_1 {A : Nat → Prop} {w : World} {b off : Nat} {x : know_Hit} (h : El A w b off x) : El A w b (off + 1) x.score := El.snd (El_know_Hit_ h)
theorem El_know_Hit {A : Nat → Prop} {w : World} {b off : Nat} {x : know_Hit} (h : El A w b off x) : At w b off [.int .i64 x.id_, .int .i64 x.score] ∧ True := by
  obtain ⟨h1, h2, cs, h3, h4⟩ := h
  obtain ⟨_, _, rfl, rfl, rfl⟩ := h3
  exact ⟨h4, trivial⟩
theorem Rep_know_Hit {A : Nat → Prop} {w : World} {cs : List Value} {x : know_Hit} (h : GoT.rep A w cs x) : cs = [.int .i64 x.id_, .int .i64 x.score] ∧ True := by
  obtain ⟨_, _, rfl, rfl, rfl⟩ := h
  exact ⟨rfl, trivial⟩
abbrev o_98 (v : Value) (l : List know_Posting) : Ob := obS (α := know_Posting) 98 v l
abbrev o_35 (v : Value) (l : List know_Article) : Ob := obS (α := know_Article) 35 v l
abbrev o_38 (v : Value) (l : List know_Version) : Ob := obS (α := know_Version) 38 v l
abbrev o_58 (v : Value) (l : List know_Entry) : Ob := obS (α := know_Entry) 58 v l
abbrev o_68 (v : Value) (l : List know_Part) : Ob := obS (α := know_Part) 68 v l
abbrev o_3 (v : Value) (l : List Int) : Ob := obS (α := Int) 3 v l
abbrev o_9 (v : Value) (l : List ByteArray) : Ob := obS (α := ByteArray) 9 v l
abbrev o_55 (v : Value) (l : List know_Hit) : Ob := obS (α := know_Hit) 55 v l
abbrev o_90 (v : Value) (l : List know_Term) : Ob := obS (α := know_Term) 90 v l
theorem know_digit_c (w : World) (c : Int) : Ret prog 76 #[.int .u8 c] w fun v w' => v = .bool (know_digit c) ∧ w = w' := by
 generalize hm : know_digit c = r
 unfold know_digit at hm
 refine enter func76 rfl ntmps76 rfl ?_
 refine Sr (As (To ?_))
 refine Sr (Mm (Vy (Y_geq rfl rfl) (Mm ?_)))
 refine V_cut 3 (fun _ : Unit => [(8, .bool ((decide ((48 : Int) ≤ c)) && (decide (c ≤ 57))))]) (fun _ w' => w = w') ?_ ?_
 ·simp only [List.take, List.drop]
  rcases Be (decide ((48 : Int) ≤ c)) with hc1 | hc1
  ·refine Gf hc1 (Mm (Gf hc1 (Vy (Y_leq rfl rfl) (Vy (Y_pick_te rfl hc1 rfl) ?_))))
   exact V_end fun a ha => ⟨(), ha.sub ⟨(by rw [hc1]; rfl), trivial⟩, rfl⟩
  refine Gm hc1 (Gm hc1 (Vy (Y_pick_fe rfl hc1 rfl) ?_))
  exact V_end fun a ha => ⟨(), ha.sub ⟨(by rw [hc1]; rfl), trivial⟩, rfl⟩
 simp only [List.take, List.drop]
 rintro _ _ rfl
 refine As (To ?_)
 obtain rfl := hm
 refine Rt (Res.one results76 rfl) ?_
 exact ⟨rfl, rfl⟩
theorem know_letter_c (w : World) (c : Int) : Ret prog 75 #[.int .u8 c] w fun v w' => v = .bool (know_letter c) ∧ w = w' := by
 generalize hm : know_letter c = r
 unfold know_letter at hm
 refine enter func75 rfl ntmps75 rfl ?_
 refine Sr (As (To ?_))
 refine Sr (Mm (Vy (Y_geq rfl rfl) (Mm ?_)))
 refine V_cut 3 (fun _ : Unit => [(0, .int .u8 c), (8, .bool ((decide ((97 : Int) ≤ c)) && (decide (c ≤ 122))))]) (fun _ w' => w = w') ?_ ?_
 ·simp only [List.take, List.drop]
  rcases Be (decide ((97 : Int) ≤ c)) with hc1 | hc1
  ·refine Gf hc1 (Mm (Gf hc1 (Vy (Y_leq rfl rfl) (Vy (Y_pick_te rfl hc1 rfl) ?_))))
   exact V_end fun a ha => ⟨(), ha.sub ⟨rfl, (by rw [hc1]; rfl), trivial⟩, rfl⟩
  refine Gm hc1 (Gm hc1 (Vy (Y_pick_fe rfl hc1 rfl) ?_))
  exact V_end fun a ha => ⟨(), ha.sub ⟨rfl, (by rw [hc1]; rfl), trivial⟩, rfl⟩
 simp only [List.take, List.drop]
 rintro _ _ rfl
 refine Mm ?_
 refine V_cut 7 (fun _ : Unit => [(16, .bool (((decide ((97 : Int) ≤ c)) && (decide (c ≤ 122))) || ((decide ((65 : Int) ≤ c)) && (decide (c ≤ 90)))))]) (fun _ w' => w = w') ?_ ?_
 ·simp only [List.take, List.drop]
  rcases Be (((decide ((97 : Int) ≤ c)) && (decide (c ≤ 122)))) with hc3 | hc3
  ·refine Gm hc3 (Gm hc3 (Gm hc3 ?_))
   refine V_gu rfl rfl rfl rfl rfl ?_
   refine V_gu rfl rfl rfl rfl rfl ?_
   refine Gm hc3 (Vy (Y_pick_te rfl hc3 rfl) ?_)
   exact V_end fun a ha => ⟨(), ha.sub ⟨(by rw [hc3]; rfl), trivial⟩, rfl⟩
  refine Gf hc3 (Mm (Gf hc3 (Vy (Y_geq rfl rfl) (Gf hc3 (Mm ?_)))))
  refine V_cut 3 (fun _ : Unit => [(9, .bool ((decide ((97 : Int) ≤ c)) && (decide (c ≤ 122)))), (15, .bool ((decide ((65 : Int) ≤ c)) && (decide (c ≤ 90))))]) (fun _ w' => w = w') ?_ ?_
  ·simp only [List.take, List.drop]
   rcases Be (decide ((65 : Int) ≤ c)) with hc5 | hc5
   ·refine Gf hc5 (Mm (Gf hc5 (Vy (Y_leq rfl rfl) (Gf hc3 (Vy (Y_pick_te rfl hc5 rfl) ?_)))))
    exact V_end fun a ha => ⟨(), ha.sub ⟨rfl, (by rw [hc5]; rfl), trivial⟩, rfl⟩
   refine Gm hc5 (Gm hc5 (Gf hc3 (Vy (Y_pick_fe rfl hc5 rfl) ?_)))
   exact V_end fun a ha => ⟨(), ha.sub ⟨rfl, (by rw [hc5]; rfl), trivial⟩, rfl⟩
  simp only [List.take, List.drop]
  rintro _ _ rfl
  refine Vy (Y_pick_fe rfl hc3 rfl) ?_
  exact V_end fun a ha => ⟨(), ha.sub ⟨(by rw [hc3]; rfl), trivial⟩, rfl⟩
 simp only [List.take, List.drop]
 rintro _ _ rfl
 refine As (To ?_)
 obtain rfl := hm
 refine Rt (Res.one results75 rfl) ?_
 exact ⟨rfl, rfl⟩
theorem know_inWord_c (w : World) (c : Int) : Ret prog 44 #[.int .u8 c] w fun v w' => v = .bool (know_inWord c) ∧ w = w' := by
 generalize hm : know_inWord c = r
 unfold know_inWord at hm
 refine enter func44 rfl ntmps44 rfl ?_
 refine Sr (As (To ?_))
 refine Sr (Mm ?_)
 refine Vc call75 (know_letter_c w c) ?_
 rintro _ _ ⟨rfl, rfl⟩
 refine Mm ?_
 refine V_cut 3 (fun _ : Unit => [(0, .int .u8 c), (8, .bool ((know_letter c) || (know_digit c)))]) (fun _ w' => w = w') ?_ ?_
 ·simp only [List.take, List.drop]
  rcases Be ((know_letter c)) with hc1 | hc1
  ·refine Gm hc1 (Gm hc1 (Vy (Y_pick_te rfl hc1 rfl) ?_))
   exact V_end fun a ha => ⟨(), ha.sub ⟨rfl, (by rw [hc1]; rfl), trivial⟩, rfl⟩
  refine Gf hc1 (Mm (Gf hc1 ?_))
  refine Vc call76 (know_digit_c w c) ?_
  rintro _ _ ⟨rfl, rfl⟩
  refine Vy (Y_pick_fe rfl hc1 rfl) ?_
  exact V_end fun a ha => ⟨(), ha.sub ⟨rfl, (by rw [hc1]; rfl), trivial⟩, rfl⟩
 simp only [List.take, List.drop]
 rintro _ _ rfl
 refine Mm ?_
 refine V_cut 3 (fun _ : Unit => [(12, .bool (((know_letter c) || (know_digit c)) || (decide ((128 : Int) ≤ c))))]) (fun _ w' => w = w') ?_ ?_
 ·simp only [List.take, List.drop]
  rcases Be (((know_letter c) || (know_digit c))) with hc3 | hc3
  ·refine Gm hc3 (Gm hc3 (Vy (Y_pick_te rfl hc3 rfl) ?_))
   exact V_end fun a ha => ⟨(), ha.sub ⟨(by rw [hc3]; rfl), trivial⟩, rfl⟩
  refine Gf hc3 (Mm (Gf hc3 (Vy (Y_geq rfl rfl) (Vy (Y_pick_fe rfl hc3 rfl) ?_))))
  exact V_end fun a ha => ⟨(), ha.sub ⟨(by rw [hc3]; rfl), trivial⟩, rfl⟩
 simp only [List.take, List.drop]
 rintro _ _ rfl
 refine As (To ?_)
 obtain rfl := hm
 refine Rt (Res.one results44 rfl) ?_
 exact ⟨rfl, rfl⟩
theorem know_lower_c (w : World) {A : Nat → Prop} (hA : ∀ b, w.heap.size ≤ b → A b) (s : ByteArray) {r : ByteArray} (hm : know_lower s = some r) : Ret prog 45 #[.string s] w fun v w' => v = .string r ∧ Kp Dw w w' := by
 unfold know_lower at hm
 refine enter func45 rfl ntmps45 rfl ?_
 have hA0 := hA
 obtain ⟨hB, hK, hH⟩ := St (Dw := Dw) hA
 refine Sr (As (To ?_))
 refine Sr (Mm ?_)
 obtain ⟨x1, hx1, hm⟩ := Bs hm
 refine V_convU (Dw := Dw) (e := 5) hH hx1 underlying9 underlying135 underlying5 hB hA rfl rfl ?_
 intro v2 w3 A4 hH5 ht6
 replace hK := Tt hK ht6; replace hB := Bx hB ht6; replace hA := ht6.new
 replace hH : Hp _ _ _ (obU 5 v2 x1 :: []) := hH5
 refine As (To ?_)
 refine C_seq (Sr (Mm (Vy (Y_lenSl (Hp.anyU (e := 5) (v := v2) (l := x1) hH (i := 0) rfl) rfl underlying135 rfl) (Mm (To ?_)))))
 have hn31 := Hp.leU (e := 5) (v := v2) (l := x1) hH (i := 0) rfl
 obtain ⟨o7, ho7, hm⟩ := Bs hm
 refine C_cutG (ι := ((List UInt8) × Value × (Nat → Prop))) (fun ⟨s8, v14, A16⟩ => [(3, v14)]) (fun ⟨s8, v14, A16⟩ => fun w' => o7 = .fin s8 ∧ Hp w.heap.size A16 w' (obU 5 v14 s8 :: []) ∧ Tr Dw w.heap.size A4 w3 A16 w') ?_ ?_
 ·refine C_block ?_
  refine C_range ho7 (fun k10 s18 a w' => ∃ i : (Value × (Nat → Prop)), Has ⟨30, [], none⟩ a ([(3, i.1), (8, i.1), (9, Ii (x1.length : Int)), (10, Ii (k10 : Int))]) ∧ Hp w.heap.size i.2 w' (obU 5 i.1 s18 :: []) ∧ Tr Dw w.heap.size A4 w3 i.2 w') (fun a ha => ⟨(v2, A4), ha.sb, ⟨hH, Tr.refl (Dw := Dw) hA⟩⟩) ?_
  rintro K k10 s18 a w19 ⟨⟨v20, A22⟩, ha74, hH23, hr9⟩ hle27 K30 h29
  refine C_of ?_ ha74
  replace hB := Bx hB hr9; replace hA := hr9.new
  replace hH : Hp _ _ _ (obU 5 v20 s18 :: []) := hH23
  refine Sr (Vy (Y_lss rfl rfl) (To ?_))
  refine C_seq ?_
  refine Cc (fun hc32 => ?_) fun hc32 => ?_
  ·have hlt28 := lt_of_dec hc32
   obtain ⟨x24, h25, h26⟩ := K30 hlt28
   refine Sk ?_
   refine C_seq ?_
   obtain ⟨s34, ho33, h25⟩ := Bs h25
   refine C_cutG (ι := (Value × (Nat → Prop))) (fun ⟨v36, A41⟩ => [(3, v36), (8, v36), (9, Ii (x1.length : Int)), (10, Ii (k10 : Int))]) (fun ⟨v36, A41⟩ => fun w' => Hp w.heap.size A41 w' (obU 5 v36 s34 :: []) ∧ Tr Dw w.heap.size A22 w19 A41 w') ?_ ?_
   ·have hr35 : Tr Dw w.heap.size A22 w19 A22 w19 := Tr.refl (Dw := Dw) hA
    refine C_block (Sr (Mm ?_))
    obtain ⟨x43, hx43, ho33⟩ := Bs ho33
    refine V_indexAddrU (e := 5) (v := v20) (l := s18) hH (i := 0) rfl hx43 underlying135 sizeOf5 rfl rfl rfl ?_
    intro b44 o45 h46 hl47
    refine Ld (El.u8 h46) isAgg5 (As (As (To ?_)))
    refine Sr (Mm (Vy (Y_geq rfl rfl) (Mm ?_)))
    refine V_cut 3 (fun _ : Unit => [(3, v20), (4, Ii (k10 : Int)), (5, .int .u8 (x43.toNat : Int)), (8, v20), (9, Ii (x1.length : Int)), (10, Ii (k10 : Int)), (20, .bool ((decide ((65 : Int) ≤ (x43.toNat : Int))) && (decide ((x43.toNat : Int) ≤ 90))))]) (fun _ w' => w19 = w') ?_ ?_
    ·simp only [List.take, List.drop]
     rcases Be (decide ((65 : Int) ≤ (x43.toNat : Int))) with hc48 | hc48
     ·refine Gf hc48 (Mm (Gf hc48 (Vy (Y_leq rfl rfl) (Vy (Y_pick_te rfl hc48 rfl) ?_))))
      exact V_end fun a ha => ⟨(), ha.sub ⟨rfl, rfl, rfl, rfl, rfl, rfl, (by rw [hc48]; rfl), trivial⟩, rfl⟩
     refine Gm hc48 (Gm hc48 (Vy (Y_pick_fe rfl hc48 rfl) ?_))
     exact V_end fun a ha => ⟨(), ha.sub ⟨rfl, rfl, rfl, rfl, rfl, rfl, (by rw [hc48]; rfl), trivial⟩, rfl⟩
    simp only [List.take, List.drop]
    rintro _ _ rfl
    refine To ?_
    obtain ⟨s51, ho50, ho33⟩ := Bs ho33
    refine C_cutG (ι := (Value × (Nat → Prop))) (fun ⟨v53, A58⟩ => [(3, v53), (8, v53), (9, Ii (x1.length : Int)), (10, Ii (k10 : Int))]) (fun ⟨v53, A58⟩ => fun w' => Hp w.heap.size A58 w' (obU 5 v53 s51 :: []) ∧ Tr Dw w.heap.size A22 w19 A58 w') ?_ ?_
    ·have hr52 : Tr Dw w.heap.size A22 w19 A22 w19 := Tr.refl (Dw := Dw) hA
     refine Cc (fun hc60 => ?_) fun hc60 => ?_
     ·rw [if_pos hc60] at ho50
      refine C_region (Mm (Mm (Mm (Vy (Y_addB rfl rfl) (Vy (Y_subB rfl rfl) ?_)))))
      refine V_indexAddrU (e := 5) (v := v20) (l := s18) hH (i := 0) rfl hx43 underlying135 sizeOf5 rfl rfl rfl ?_
      intro b61 o62 h63 hl64
      obtain ⟨x65, hx65, ho50⟩ := Bs ho50
      refine V_storeU (Dw := Dw) (e := 5) (v := v20) (l := s18) hH (i := 0) rfl hl64 hx65 rfl sizeOf5 rfl hB hA rfl rfl ?_
      intro w66 hH67 ht68
      replace hr52 := Tt hr52 ht68
      replace hH : Hp _ _ _ (obU 5 v20 x65 :: []) := hH67
      obtain rfl := Oi ho50
      refine V_end (fun a ha69 => ?_)
      exact ⟨(v20, A22), ha69.sb, ⟨hH, hr52⟩⟩
     rw [if_neg (nt hc60)] at ho50
     obtain rfl := Oi ho50
     refine C_skip (fun a ha70 => ?_)
     exact ⟨(v20, A22), ha70.sb, ⟨hH, hr52⟩⟩
    rintro ⟨v53, A58⟩ w55 ⟨hH59, hk56⟩ a ha57
    replace hr35 := Tr.trans hr35 hk56; replace hA := hk56.new
    replace hH : Hp _ _ _ (obU 5 v53 s51 :: []) := hH59
    obtain rfl := Oi ho33
    exact ⟨(v53, A58), ha57.sb, ⟨hH, hr35⟩⟩
   rintro ⟨v36, A41⟩ w38 ⟨hH42, hk39⟩ a ha40
   replace hr9 := Tr.trans hr9 hk39; replace hA := hk39.new
   replace hH : Hp _ _ _ (obU 5 v36 s34 :: []) := hH42
   refine C_at (n := ⟨30, [], none⟩) (fun _ _ => rfl) ?_ ha40
   refine C_region (Vy (Y_addI rfl rfl) (Mm ?_))
   obtain rfl := Oi h25
   refine V_end (fun a ha72 => ?_)
   exact ⟨s34, hlt28, h26, ⟨(v36, A41), ha72.sub ⟨rfl, rfl, rfl, Ws hlt28 hn31, trivial⟩, ⟨hH, hr9⟩⟩⟩
  refine C_exit (fun a ha73 => ?_)
  exact ⟨(s18, v20, A22), ha73.sb, ⟨(h29 (eq_of_dec hle27 hc32)).symm, hH, hr9⟩⟩
 rintro ⟨s8, v14, A16⟩ w11 ⟨rfl, hH17, hk12⟩ a ha13
 rw [Lp.andThen_fin] at hm
 replace hK := Tr.trans hK hk12; replace hA := hk12.new
 replace hH : Hp _ _ _ (obU 5 v14 s8 :: []) := hH17
 refine C_at (n := ⟨30, [], none⟩) (fun _ _ => rfl) ?_ ha13
 refine Sr (Mm ?_)
 obtain ⟨A75, ht76, h77, hH78⟩ := Hp.freezeU (Dw := Dw) (v := v14) (l := s8) hH (i := 0) rfl hA
 replace hK := Tt hK ht76; replace hH := hH78
 refine Vy (Y_convBS (l := s8) h77 underlying135 underlying5 underlying9 rfl) (As (To ?_))
 obtain rfl := Oi hm
 refine Rt (Res.one results45 rfl) ?_
 exact ⟨rfl, hK.kp⟩
theorem know_Words_c (w : World) {A : Nat → Prop} (hA : ∀ b, w.heap.size ≤ b → A b) (s : ByteArray) {r : (List ByteArray)} (hm : know_Words s = some r) : Ret prog 17 #[.string s] w fun v w' => ∃ s0, v = s0 ∧ Ownd 9 w w' s0 r ∧ Kp Dw w w' := by
 unfold know_Words at hm
 refine enter func17 rfl ntmps17 rfl ?_
 have hA0 := hA
 obtain ⟨hB, hK, hH⟩ := St (Dw := Dw) hA
 refine Sr (As (To ?_))
 refine Sr (As (To ?_))
 refine C_seq (Sr (As (To ?_)))
 replace hH : Hp w.heap.size A w (o_9 (.slice none 0 0) ([] : (List ByteArray)) :: []) := Hp.addNil (α := ByteArray) (e := 9) hH
 obtain ⟨o1, ho1, hm⟩ := Bs hm
 refine C_cutG (ι := (((List ByteArray) × Int) × Value × (Nat → Prop))) (fun ⟨s2, v8, A10⟩ => [(3, v8)]) (fun ⟨s2, v8, A10⟩ => fun w' => o1 = .fin s2 ∧ Hp w.heap.size A10 w' (o_9 v8 s2.1 :: []) ∧ Tr Dw w.heap.size A w A10 w') ?_ ?_
 ·refine C_block ?_
  refine C_while ho1 (fun s12 a w' => ∃ i : (Value × (Nat → Prop)), Has ⟨44, [], none⟩ a ([(0, .string s), (3, i.1), (4, Ii s12.2)]) ∧ Hp w.heap.size i.2 w' (o_9 i.1 s12.1 :: []) ∧ Tr Dw w.heap.size A w i.2 w') (fun a ha => ⟨(.slice none 0 0, A), ha.sb, ⟨hH, Tr.refl (Dw := Dw) hA⟩⟩) ?_
  rintro K s12 a w13 ⟨⟨v14, A16⟩, ha83, hH17, hr3⟩ K24
  refine C_of ?_ ha83
  replace hB := Bx hB hr3; replace hA := hr3.new
  replace hH : Hp _ _ _ (o_9 v14 s12.1 :: []) := hH17
  obtain ⟨x18, h19, h20⟩ := K24
  refine C_seq (Sr (Mm (Mm (Vy (Y_lenStr rfl underlying9 rfl) (Vy (Y_lss rfl rfl) (To ?_))))))
  refine Cc (fun hc25 => ?_) fun hc25 => ?_
  ·rw [if_pos hc25] at h19
   refine Sk ?_
   refine C_seq (C_block (Sr (Mm (As (To ?_)))))
   refine C_seq ?_
   obtain ⟨o26, ho26, h19⟩ := Bs h19
   refine C_cutG (ι := Int) (fun (s27 : Int) => [(0, .string s), (3, v14), (4, Ii s12.2), (5, Ii s27)]) (fun (s27 : Int) => fun w' => o26 = .fin s27 ∧ w13 = w') ?_ ?_
   ·refine C_block ?_
    refine C_while ho26 (fun s33 a w' => ∃ i : Unit, Has ⟨44, [], none⟩ a ([(0, .string s), (3, v14), (4, Ii s12.2), (5, Ii s33)]) ∧ w13 = w') (fun a ha => ⟨(), ha.sb, rfl⟩) ?_
    rintro K s33 a _ ⟨_, ha48, rfl⟩ K41
    refine C_of ?_ ha48
    obtain ⟨x35, h36, h37⟩ := K41
    refine C_seq (Sr (Mm (Mm (Vy (Y_lenStr rfl underlying9 rfl) (Vy (Y_lss rfl rfl) (Mm ?_))))))
    obtain ⟨s43, hs43, h36⟩ := Bs h36
    refine V_cut 5 (fun _ : Unit => [(0, .string s), (3, v14), (4, Ii s12.2), (5, Ii s33), (22, .bool s43)]) (fun _ w' => w13 = w') ?_ ?_
    ·simp only [List.take, List.drop]
     rcases Be (decide (s33 < (s.size : Int))) with hc42 | hc42
     ·rw [if_pos hc42] at hs43
      refine Gf hc42 (Mm (Gf hc42 (Mm (Gf hc42 ?_))))
      obtain ⟨x44, hx44, hs43⟩ := Bs hs43
      refine Vy (Y_indexS hx44 underlying9 rfl rfl) (Gf hc42 ?_)
      refine Vc call44 (know_inWord_c w13 (x44.toNat : Int)) ?_
      rintro _ _ ⟨rfl, rfl⟩
      refine Vy (Y_pick_te rfl hc42 rfl) ?_
      obtain rfl := Oi hs43
      exact V_end fun a ha => ⟨(), ha.sb, rfl⟩
     rw [if_neg (nt hc42)] at hs43
     refine Gm hc42 (Gm hc42 (Gm hc42 (Gm hc42 (Vy (Y_pick_fe rfl hc42 rfl) ?_))))
     obtain rfl := Oi hs43
     exact V_end fun a ha => ⟨(), ha.sb, rfl⟩
    simp only [List.take, List.drop]
    rintro _ _ rfl
    refine To ?_
    refine Cc (fun hc45 => ?_) fun hc45 => ?_
    ·rw [if_pos hc45] at h36
     refine Sk ?_
     refine C_block (C_region (Mm (Vy (Y_addI rfl rfl) (As ?_))))
     obtain rfl := Oi h36
     refine V_end (fun a ha46 => ?_)
     exact ⟨w64 (s33 + 1), h37, ⟨(), ha46.sb, rfl⟩⟩
    rw [if_neg (nt hc45)] at h36
    obtain rfl := Oi h36
    refine C_exit (fun a ha47 => ?_)
    exact ⟨s33, ha47.sb, ⟨h37.symm, rfl⟩⟩
   rintro s27 _ ⟨rfl, rfl⟩ a ha32
   rw [Lp.andThen_fin] at h19
   refine C_at (n := ⟨44, [], none⟩) (fun _ _ => rfl) ?_ ha32
   refine C_seq (Sr (Mm (Mm (Vy (Y_gtr rfl rfl) (Mm ?_)))))
   refine V_cut 5 (fun _ : Unit => [(0, .string s), (3, v14), (4, Ii s12.2), (5, Ii s27), (33, .bool ((decide (s12.2 < s27)) && (decide ((w64 (s27 - s12.2)) ≤ 30))))]) (fun _ w' => w13 = w') ?_ ?_
   ·simp only [List.take, List.drop]
    rcases Be (decide (s12.2 < s27)) with hc49 | hc49
    ·refine Gf hc49 (Mm (Gf hc49 (Mm (Gf hc49 (Vy (Y_subI rfl rfl) (Gf hc49 (Vy (Y_leq rfl rfl) (Vy (Y_pick_te rfl hc49 rfl) ?_))))))))
     exact V_end fun a ha => ⟨(), ha.sub ⟨rfl, rfl, rfl, rfl, (by rw [hc49]; rfl), trivial⟩, rfl⟩
    refine Gm hc49 (Gm hc49 (Gm hc49 (Gm hc49 (Vy (Y_pick_fe rfl hc49 rfl) ?_))))
    exact V_end fun a ha => ⟨(), ha.sub ⟨rfl, rfl, rfl, rfl, (by rw [hc49]; rfl), trivial⟩, rfl⟩
   simp only [List.take, List.drop]
   rintro _ _ rfl
   refine To ?_
   obtain ⟨s52, ho51, h19⟩ := Bs h19
   refine C_cutG (ι := (Value × (Nat → Prop))) (fun ⟨v54, A59⟩ => [(0, .string s), (3, v54), (5, Ii s27)]) (fun ⟨v54, A59⟩ => fun w' => Hp w.heap.size A59 w' (o_9 v54 s52 :: []) ∧ Tr Dw w.heap.size A16 w13 A59 w') ?_ ?_
   ·have hr53 : Tr Dw w.heap.size A16 w13 A16 w13 := Tr.refl (Dw := Dw) hA
    refine Cc (fun hc61 => ?_) fun hc61 => ?_
    ·rw [if_pos hc61] at ho51
     refine C_region (Mm (Mm (Mm (Mm ?_))))
     obtain ⟨x62, hx62, ho51⟩ := Bs ho51
     refine Vy (Y_sliceSLH hx62 underlying9 rfl rfl rfl) ?_
     obtain ⟨x63, hx63, ho51⟩ := Bs ho51
     refine Vc call45 (know_lower_c (Dw := Dw) w13 hA x62 hx63) ?_
     rintro _ w65 ⟨rfl, hk66⟩
     have ht67 := Kp.tr hk66 hA hB; replace hH := Hp.kp hH hk66; replace hr53 := Tt hr53 ht67; replace hB := Bx hB ht67; replace hA := ht67.new
     refine V_buildSlice (Dw := Dw) (l := ([x63] : List ByteArray)) (len := 1) underlying62 sizeOf9 zeroValue9 rfl (by with_unfolding_all rfl) (show (1 * 1 : Nat) ≠ 0 by decide) (show (1 * 1 : Nat) ≤ 2 ^ 24 by decide) hA ⟨[.string x63], _, rfl, rfl, rfl⟩ rfl rfl ?_
     intro v68 w69 hk71 h70
     have ht72 := Kp.tr hk71 hA hB; replace hH := Hp.kp hH hk71; replace hr53 := Tt hr53 ht72; replace hB := Bx hB ht72; replace hA := ht72.new
     obtain ⟨x73, hx73, ho51⟩ := Bs ho51
     refine V_appendH (Dw := Dw) (e := 9) (v := v14) (l := s12.1) (ti := t9) (bytes := 16) (lim := 8796093022208) hH (i := 0) rfl h70 hx73 underlying62 Tryz_info9 rfl rfl rfl rfl (by decide) (by decide) (by decide) hB hA rfl rfl rfl ?_
     intro v74 w75 A76 hH77 ht78
     replace hr53 := Tt hr53 ht78
     replace hH : Hp _ _ _ (o_9 v74 x73 :: []) := hH77
     refine As ?_
     obtain rfl := Oi ho51
     refine V_end (fun a ha79 => ?_)
     exact ⟨(v74, A76), ha79.sb, ⟨hH, hr53⟩⟩
    rw [if_neg (nt hc61)] at ho51
    obtain rfl := Oi ho51
    refine C_skip (fun a ha80 => ?_)
    exact ⟨(v14, A16), ha80.sb, ⟨hH, hr53⟩⟩
   rintro ⟨v54, A59⟩ w56 ⟨hH60, hk57⟩ a ha58
   replace hr3 := Tr.trans hr3 hk57; replace hA := hk57.new
   replace hH : Hp _ _ _ (o_9 v54 s52 :: []) := hH60
   refine C_at (n := ⟨44, [], none⟩) (fun _ _ => rfl) ?_ ha58
   refine C_region (Mm (As (To ?_)))
   refine C_region (Mm (Vy (Y_addI rfl rfl) (As ?_)))
   obtain rfl := Oi h19
   refine V_end (fun a ha81 => ?_)
   exact ⟨(s52, w64 (s27 + 1)), h20, ⟨(v54, A59), ha81.sb, ⟨hH, hr3⟩⟩⟩
  rw [if_neg (nt hc25)] at h19
  obtain rfl := Oi h19
  refine C_exit (fun a ha82 => ?_)
  exact ⟨((s12.1, s12.2), v14, A16), ha82.sb, ⟨h20.symm, hH, hr3⟩⟩
 rintro ⟨s2, v8, A10⟩ w5 ⟨rfl, hH11, hk6⟩ a ha7
 rw [Lp.andThen_fin] at hm
 replace hK := Tr.trans hK hk6; replace hA := hk6.new
 replace hH : Hp _ _ _ (o_9 v8 s2.1 :: []) := hH11
 refine C_at (n := ⟨44, [], none⟩) (fun _ _ => rfl) ?_ ha7
 refine Sr (Mm (As (To ?_)))
 obtain rfl := Oi hm
 refine Rt (Res.one results17 rfl) ?_
 exact ⟨v8, rfl, (Hp.ownd hH (i := 0) rfl), hK.kp⟩
theorem porttop_awakeKnow_c (w : World) {A : Nat → Prop} (hA : ∀ b, w.heap.size ≤ b → A b)  {r : Bool} (hm : porttop_awakeKnow  = some r) : Ret prog 4 #[] w fun v w' => v = .bool r ∧ Kp Dw w w' := by
 unfold porttop_awakeKnow at hm
 refine enter func4 rfl ntmps4 rfl ?_
 have hA0 := hA
 obtain ⟨hB, hK, hH⟩ := St (Dw := Dw) hA
 refine Sr (As (To ?_))
 refine Sr ?_
 obtain ⟨x1, hx1, hm⟩ := Bs hm
 refine Vc call17 (know_Words_c (Dw := Dw) w hA (⟨#[97]⟩ : ByteArray) hx1) ?_
 rintro v2 w4 ⟨_, rfl, h3, hk5⟩
 obtain ⟨A6, ht7, hH8⟩ := Hp.addOwnd (Dw := Dw) hH hB hA hk5 h3
 replace hK := Tt hK ht7
 replace hH : Hp _ _ _ (o_9 v2 x1 :: []) := hH8
 refine Vy (Y_lenSl (Hp.any (α := ByteArray) (e := 9) (v := v2) (l := x1) hH (i := 0) rfl) rfl underlying62 rfl) (Vy (Y_eql rfl rfl) (As (To ?_)))
 obtain rfl := Oi hm
 refine Rt (Res.one results4 rfl) ?_
 exact ⟨rfl, hK.kp⟩
theorem know_queryReader_is_c (w : World) {A : Nat → Prop} {B : Nat} (hB : B ≤ w.heap.size) (hA : ∀ b, w.heap.size ≤ b → A b) (r_ : know_queryReader) (b_r_ : Nat) (c : Int) {L : List Ob} (hH : Hp B A w (obC b_r_ [.string r_.s, Ii r_.at_] 66 :: L)) {r : (Bool × know_queryReader)} (hm : know_queryReader_is r_ c = some r) : Ret prog 20 #[Pt b_r_, .int .u8 c] w fun v w' => ∃ A1 : Nat → Prop, v = .bool r.1 ∧ Hp B A1 w' (obC b_r_ [.string r.2.s, Ii r.2.at_] 66 :: L) ∧ Tr Dw B A w A1 w' := by
 unfold know_queryReader_is at hm
 refine enter func20 rfl ntmps20 rfl ?_
 have hK : Tr Dw B A w A w := Tr.refl (Dw := Dw) hA
 refine Sr (As (To ?_))
 refine C_seq (C_seq ?_)
 refine C_region_q (Dw := Dw) Tryz_mixed (by kernel_rfl) ?_
 refine Qm (Qn (Qv (fun w' hw' => Y_fieldAddrC (off2 := 1) underlying66 rfl sizeOf3 (by decide) rfl rfl) ?_))
 refine VQ_y (fun w' hw' => Y_load ((World.cell?_of_block (hw'.block _ (World.block_lt_of_cell? _ _ (Hp.cell (j := 1) hH (i := 0) rfl rfl)))).trans (Hp.cell (j := 1) hH (i := 0) rfl rfl)) isAgg3 rfl) rfl rfl rfl ?_
 refine Qm (Qn (Qv (fun w' hw' => Y_fieldAddrC (off2 := 0) underlying66 rfl sizeOf9 (by decide) rfl rfl) ?_))
 refine VQ_y (fun w' hw' => Y_load ((World.cell?_of_block (hw'.block _ (World.block_lt_of_cell? _ _ (Hp.cell (j := 0) hH (i := 0) rfl rfl)))).trans (Hp.cell (j := 0) hH (i := 0) rfl rfl)) isAgg9 rfl) rfl rfl rfl ?_
 refine Qv (fun w' hw' => Y_lenStr rfl underlying9 rfl) (Qv (fun w' hw' => Y_lss rfl rfl) (Qm ?_))
 obtain ⟨s2, hs2, hm⟩ := Bs hm
 refine VQ_cut 12 (fun _ : Unit => [(0, Pt b_r_), (27, .bool s2)]) (fun _ => True) ?_ ?_
 ·simp only [List.take, List.drop]
  rcases Be (decide (r_.at_ < (r_.s.size : Int))) with hc1 | hc1
  ·rw [if_pos hc1] at hs2
   refine Qh hc1 (Qm (Qh hc1 (Qn (Qh hc1 (Qv (fun w' hw' => Y_fieldAddrC (off2 := 0) underlying66 rfl sizeOf9 (by decide) rfl rfl) (Qh hc1 ?_))))))
   refine VQ_y (fun w' hw' => Y_load ((World.cell?_of_block (hw'.block _ (World.block_lt_of_cell? _ _ (Hp.cell (j := 0) hH (i := 0) rfl rfl)))).trans (Hp.cell (j := 0) hH (i := 0) rfl rfl)) isAgg9 rfl) rfl rfl rfl ?_
   refine Qh hc1 (Qm (Qh hc1 (Qn (Qh hc1 (Qv (fun w' hw' => Y_fieldAddrC (off2 := 1) underlying66 rfl sizeOf3 (by decide) rfl rfl) (Qh hc1 ?_))))))
   refine VQ_y (fun w' hw' => Y_load ((World.cell?_of_block (hw'.block _ (World.block_lt_of_cell? _ _ (Hp.cell (j := 1) hH (i := 0) rfl rfl)))).trans (Hp.cell (j := 1) hH (i := 0) rfl rfl)) isAgg3 rfl) rfl rfl rfl ?_
   refine Qh hc1 ?_
   obtain ⟨x3, hx3, hs2⟩ := Bs hs2
   refine Qv (fun w' hw' => Y_indexS hx3 underlying9 rfl rfl) (Qh hc1 (Qm (Qh hc1 (Qv (fun w' hw' => Y_eql rfl rfl) ?_))))
   refine VQ_y (fun _ _ => Y_pick_te rfl hc1 rfl) rfl rfl rfl ?_
   obtain rfl := Oi hs2
   exact VQ_end fun a ha => ⟨(), ha.sb, trivial⟩
  rw [if_neg (nt hc1)] at hs2
  refine Qg hc1 (Qg hc1 (Qg hc1 (Qg hc1 (Qg hc1 (Qg hc1 (Qg hc1 (Qg hc1 (Qg hc1 (Qg hc1 ?_)))))))))
  refine Qg hc1 ?_
  refine VQ_y (fun _ _ => Y_pick_fe rfl hc1 rfl) rfl rfl rfl ?_
  obtain rfl := Oi hs2
  exact VQ_end fun a ha => ⟨(), ha.sb, trivial⟩
 simp only [List.take, List.drop]
 rintro _ _
 refine VQ_to (fun _ _ => rfl) (fun w4 hk5 => ?_)
 have ht6 := Kp.tr hk5 hA hB; replace hH := Hp.kp hH hk5; replace hK := Tt hK ht6; replace hB := Bx hB ht6; replace hA := ht6.new
 refine Cc (fun hc7 => ?_) fun hc7 => ?_
 ·rw [if_pos hc7] at hm
  refine Sr (Mm (Nc (Vy (Y_fieldAddrC (off2 := 1) underlying66 rfl sizeOf3 (by decide) rfl rfl) (Ld (Hp.cell (j := 1) hH (i := 0) rfl rfl) isAgg3 (Vy (Y_addI rfl rfl) (Nc (Vy (Y_fieldAddrC (off2 := 1) underlying66 rfl sizeOf3 (by decide) rfl rfl) ?_)))))))
  refine V_storeC (Dw := Dw) (off := 1) (ds := [.string r_.s, Ii (w64 (r_.at_ + 1))]) hH (i := 0) rfl sizeOf3 rfl (Nat.le_of_ble_eq_true rfl) (by simp [Value.cells, Value.oneCell']) rfl hB hA rfl rfl ?_
  intro w9 hH10 ht11
  replace hK := Tt hK ht11
  replace hH : Hp _ _ _ (obC b_r_ [.string r_.s, Ii (w64 (r_.at_ + 1))] 66 :: L) := hH10
  refine To ?_
  refine Sr (As (To ?_))
  obtain rfl := Oi hm
  refine Rt (Res.one results20 rfl) ?_
  exact ⟨A, rfl, hH, hK⟩
 rw [if_neg (nt hc7)] at hm
 refine Sk ?_
 refine Sr (As (To ?_))
 obtain rfl := Oi hm
 refine Rt (Res.one results20 rfl) ?_
 exact ⟨A, rfl, hH, hK⟩
theorem know_queryReader_blanks_c (w : World) {A : Nat → Prop} {B : Nat} (hB : B ≤ w.heap.size) (hA : ∀ b, w.heap.size ≤ b → A b) (r_ : know_queryReader) (b_r_ : Nat) {L : List Ob} (hH : Hp B A w (obC b_r_ [.string r_.s, Ii r_.at_] 66 :: L)) {r : know_queryReader} (hm : know_queryReader_blanks r_ = some r) : Ret prog 18 #[Pt b_r_] w fun v w' => ∃ A1 : Nat → Prop, v = .tuple #[] ∧ Hp B A1 w' (obC b_r_ [.string r.s, Ii r.at_] 66 :: L) ∧ Tr Dw B A w A1 w' := by
 unfold know_queryReader_blanks at hm
 refine enter func18 rfl ntmps18 rfl ?_
 have hK : Tr Dw B A w A w := Tr.refl (Dw := Dw) hA
 obtain ⟨o1, ho1, hm⟩ := Bs hm
 refine C_cutG (ι := (know_queryReader × (Nat → Prop))) (fun ⟨s2, A8⟩ => []) (fun ⟨s2, A8⟩ => fun w' => o1 = .fin s2 ∧ Hp B A8 w' (obC b_r_ [.string s2.s, Ii s2.at_] 66 :: L) ∧ Tr Dw B A w A8 w') ?_ ?_
 ·refine C_block ?_
  refine C_while ho1 (fun s10 a w' => ∃ i : (Nat → Prop), Has ⟨4, [], none⟩ a ([(0, Pt b_r_)]) ∧ Hp B i w' (obC b_r_ [.string s10.s, Ii s10.at_] 66 :: L) ∧ Tr Dw B A w i w') (fun a ha => ⟨A, ha.sb, ⟨hH, Tr.refl (Dw := Dw) hA⟩⟩) ?_
  rintro K s10 a w11 ⟨A12, ha29, hH13, hr3⟩ K20
  refine C_of ?_ ha29
  replace hB := Bx hB hr3; replace hA := hr3.new
  replace hH : Hp _ _ _ (obC b_r_ [.string s10.s, Ii s10.at_] 66 :: L) := hH13
  obtain ⟨x14, h15, h16⟩ := K20
  refine C_seq (Sr (Mm ?_))
  obtain ⟨x21, hx21, h15⟩ := Bs h15
  refine Vc call20 (know_queryReader_is_c (Dw := Dw) w11 hB hA s10 b_r_ 32 hH hx21) ?_
  rintro _ w22 ⟨A23, rfl, hH24, ht25⟩
  replace hr3 := Tt hr3 ht25
  replace hH : Hp _ _ _ (obC b_r_ [.string x21.2.s, Ii x21.2.at_] 66 :: L) := hH24
  refine To ?_
  refine Cc (fun hc26 => ?_) fun hc26 => ?_
  ·rw [if_pos hc26] at h15
   refine Sk ?_
   refine C_block ?_
   obtain rfl := Oi h15
   refine C_skip (fun a ha27 => ?_)
   exact ⟨x21.2, h16, ⟨A23, ha27.sb, ⟨hH, hr3⟩⟩⟩
  rw [if_neg (nt hc26)] at h15
  obtain rfl := Oi h15
  refine C_exit (fun a ha28 => ?_)
  exact ⟨(x21.2, A23), ha28.sub trivial, ⟨h16.symm, hH, hr3⟩⟩
 rintro ⟨s2, A8⟩ w5 ⟨rfl, hH9, hk6⟩ a ha7
 rw [Lp.andThen_fin] at hm
 replace hK := Tr.trans hK hk6; replace hA := hk6.new
 replace hH : Hp _ _ _ (obC b_r_ [.string s2.s, Ii s2.at_] 66 :: L) := hH9
 obtain rfl := Oi hm
 try simp only [↓ib, ↓th]
 exact normQ (retQ rfl (Res.zero results18) ⟨A8, rfl, hH, hK⟩ a ha7)
theorem internal_stringslite_IndexByte_c (w : World) (s : ByteArray) (c : Int) : Ret prog 77 #[.string s, .int .u8 c] w fun v w' => v = Ii (internal_stringslite_IndexByte s c) ∧ w = w' := by
 generalize hm : internal_stringslite_IndexByte s c = r
 unfold internal_stringslite_IndexByte at hm
 refine enter func77 rfl ntmps77 rfl ?_
 refine Sr (As (To ?_))
 refine Sr (Mm (Mm (Vy (Y_ext Tryz_ext113 Tryz_extb113.1 Tryz_extb113.2 Tryz_extn113 Tryz_extf113 rfl rfl (run_indexByteS _ _ _)) (As (To ?_)))))
 obtain rfl := hm
 refine Rt (Res.one results77 rfl) ?_
 exact ⟨rfl, rfl⟩
theorem strings_IndexByte_c (w : World) (s : ByteArray) (c : Int) : Ret prog 46 #[.string s, .int .u8 c] w fun v w' => v = Ii (strings_IndexByte s c) ∧ w = w' := by
 generalize hm : strings_IndexByte s c = r
 unfold strings_IndexByte at hm
 refine enter func46 rfl ntmps46 rfl ?_
 refine Sr (As (To ?_))
 refine Sr (Mm (Mm ?_))
 refine Vc call77 (internal_stringslite_IndexByte_c w s c) ?_
 rintro _ _ ⟨rfl, rfl⟩
 refine As (To ?_)
 obtain rfl := hm
 refine Rt (Res.one results46 rfl) ?_
 exact ⟨rfl, rfl⟩
theorem know_queryReader_part_c (w : World) {A : Nat → Prop} {B : Nat} (hB : B ≤ w.heap.size) (hA : ∀ b, w.heap.size ≤ b → A b) (r_ : know_queryReader) (b_r_ : Nat) {L : List Ob} (hH : Hp B A w (obC b_r_ [.string r_.s, Ii r_.at_] 66 :: L)) {r : (know_Part × Bool × know_queryReader)} (hm : know_queryReader_part r_ = some r) : Ret prog 19 #[Pt b_r_] w fun v w' => ∃ s0, ∃ A1 : Nat → Prop, v = .tuple #[.agg #[Ii r.1.kind, .bool r.1.not_, s0], .bool r.2.1] ∧ Sl A1 w' s0 r.1.words ∧ Hp B A1 w' (obC b_r_ [.string r.2.2.s, Ii r.2.2.at_] 66 :: L) ∧ Tr Dw B A w A1 w' := by
 unfold know_queryReader_part at hm
 refine enter func19 rfl ntmps19 rfl ?_
 have hK : Tr Dw B A w A w := Tr.refl (Dw := Dw) hA
 refine Sr ?_
 refine V_allocH (Dw := Dw) (B := B) hH zeroValue68 hB hA rfl ?_
 intro b1 w2 A3 hH4 ht5
 replace hK := Tt hK ht5; replace hB := Bx hB ht5; replace hA := ht5.new
 replace hH : Hp _ _ _ (obC b1 [Ii 0, .bool false, .slice none 0 0] 68 :: obC b_r_ [.string r_.s, Ii r_.at_] 66 :: L) := hH4
 refine As (To ?_)
 refine Sr (Mm ?_)
 replace hH : Hp B A3 w2 (obC b_r_ [.string r_.s, Ii r_.at_] 66 :: obC b1 [Ii 0, .bool false, .slice none 0 0] 68 :: L) := Hp.front hH (i := 1) rfl
 obtain ⟨x6, hx6, hm⟩ := Bs hm
 refine Vc call20 (know_queryReader_is_c (Dw := Dw) w2 hB hA r_ b_r_ 45 hH hx6) ?_
 rintro _ w7 ⟨A8, rfl, hH9, ht10⟩
 replace hK := Tt hK ht10; replace hB := Bx hB ht10; replace hA := ht10.new
 replace hH : Hp _ _ _ (obC b_r_ [.string x6.2.s, Ii x6.2.at_] 66 :: obC b1 [Ii 0, .bool false, .slice none 0 0] 68 :: L) := hH9
 refine Vy (Y_build underlying68 zeroValue68 (Tryz_places68 _ underlying68) rfl (by with_unfolding_all rfl)) ?_
 refine V_allocH (Dw := Dw) (B := B) hH zeroValue68 hB hA rfl ?_
 intro b11 w12 A13 hH14 ht15
 replace hK := Tt hK ht15; replace hB := Bx hB ht15; replace hA := ht15.new
 replace hH : Hp _ _ _ (obC b11 [Ii 0, .bool false, .slice none 0 0] 68 :: obC b_r_ [.string x6.2.s, Ii x6.2.at_] 66 :: obC b1 [Ii 0, .bool false, .slice none 0 0] 68 :: L) := hH14
 refine V_storeC (Dw := Dw) (off := 0) (ds := [Ii 0, .bool x6.1, .slice none 0 0]) hH (i := 0) rfl sizeOf68 rfl (Nat.le_of_ble_eq_true rfl) (by exact (List.forall_mem_cons.2 ⟨rfl, (List.forall_mem_cons.2 ⟨rfl, (List.forall_mem_cons.2 ⟨rfl, (fun _ h => nomatch h)⟩)⟩)⟩)) rfl hB hA rfl rfl ?_
 intro w17 hH18 ht19
 replace hK := Tt hK ht19; replace hB := Bx hB ht19; replace hA := ht19.new
 replace hH : Hp _ _ _ (obC b11 [Ii 0, .bool x6.1, .slice none 0 0] 68 :: obC b_r_ [.string x6.2.s, Ii x6.2.at_] 66 :: obC b1 [Ii 0, .bool false, .slice none 0 0] 68 :: L) := hH18
 refine To ?_
 refine Sr (Mm (Nc (Vy (Y_fieldAddrC (off2 := 1) underlying66 rfl sizeOf3 (by decide) rfl rfl) (Ld (Hp.cell (j := 1) hH (i := 1) rfl rfl) isAgg3 (As (To ?_))))))
 refine C_seq (Sr (Mm ?_))
 replace hH : Hp B A13 w17 (obC b_r_ [.string x6.2.s, Ii x6.2.at_] 66 :: obC b11 [Ii 0, .bool x6.1, .slice none 0 0] 68 :: obC b1 [Ii 0, .bool false, .slice none 0 0] 68 :: L) := Hp.front hH (i := 1) rfl
 obtain ⟨x20, hx20, hm⟩ := Bs hm
 refine Vc call20 (know_queryReader_is_c (Dw := Dw) w17 hB hA x6.2 b_r_ 34 hH hx20) ?_
 rintro _ w21 ⟨A22, rfl, hH23, ht24⟩
 replace hK := Tt hK ht24; replace hB := Bx hB ht24; replace hA := ht24.new
 replace hH : Hp _ _ _ (obC b_r_ [.string x20.2.s, Ii x20.2.at_] 66 :: obC b11 [Ii 0, .bool x6.1, .slice none 0 0] 68 :: obC b1 [Ii 0, .bool false, .slice none 0 0] 68 :: L) := hH23
 refine To ?_
 refine Cc (fun hc25 => ?_) fun hc25 => ?_
 ·rw [if_pos hc25] at hm
  refine C_seq ?_
  refine C_region_q (Dw := Dw) Tryz_mixed (by kernel_rfl) ?_
  refine Qm (Qn (Qv (fun w' hw' => Y_fieldAddrC (off2 := 0) underlying66 rfl sizeOf9 (by decide) rfl rfl) ?_))
  refine VQ_y (fun w' hw' => Y_load ((World.cell?_of_block (hw'.block _ (World.block_lt_of_cell? _ _ (Hp.cell (j := 0) hH (i := 0) rfl rfl)))).trans (Hp.cell (j := 0) hH (i := 0) rfl rfl)) isAgg9 rfl) rfl rfl rfl ?_
  refine Qm (Qn (Qv (fun w' hw' => Y_fieldAddrC (off2 := 1) underlying66 rfl sizeOf3 (by decide) rfl rfl) ?_))
  refine VQ_y (fun w' hw' => Y_load ((World.cell?_of_block (hw'.block _ (World.block_lt_of_cell? _ _ (Hp.cell (j := 1) hH (i := 0) rfl rfl)))).trans (Hp.cell (j := 1) hH (i := 0) rfl rfl)) isAgg3 rfl) rfl rfl rfl ?_
  obtain ⟨x26, hx26, hm⟩ := Bs hm
  refine Qv (fun w' hw' => Y_sliceSL hx26 underlying9 rfl rfl) ?_
  refine VQ_call (Ii (strings_IndexByte x26 34)) call46 rfl rfl rfl rfl (fun w' hw' => (strings_IndexByte_c w' x26 34).mono (fun _ _ h => ⟨h.1, h.2 ▸ hw'⟩)) ?_
  refine Qa ?_
  refine VQ_to (fun _ _ => rfl) (fun w27 hk28 => ?_)
  have ht29 := Kp.tr hk28 hA hB; replace hH := Hp.kp hH hk28; replace hK := Tt hK ht29; replace hB := Bx hB ht29; replace hA := ht29.new
  refine C_seq (Sr (Mm (Vy (Y_geq rfl rfl) (To ?_))))
  obtain ⟨s31, ho30, hm⟩ := Bs hm
  refine C_cutG (ι := (Value × (Nat → Prop))) (fun ⟨v33, A38⟩ => [(0, Pt b_r_), (2, Pt b1), (4, Pt b11), (5, Ii x6.2.at_), (6, Ii (strings_IndexByte x26 34))]) (fun ⟨v33, A38⟩ => fun w' => Sl A38 w' v33 s31.words ∧ Hp B A38 w' (obC b_r_ [.string x20.2.s, Ii x20.2.at_] 66 :: obC b11 [Ii s31.kind, .bool s31.not_, v33] 68 :: obC b1 [Ii 0, .bool false, .slice none 0 0] 68 :: L) ∧ Tr Dw B A22 w27 A38 w') ?_ ?_
  ·have hr32 : Tr Dw B A22 w27 A22 w27 := Tr.refl (Dw := Dw) hA
   refine Cc (fun hc40 => ?_) fun hc40 => ?_
   ·rw [if_pos hc40] at ho30
    refine C_region_ch (Dw := Dw) A22 20 [(1, 0), (1, 1), (1, 2), (0, 3), (1, 4), (1, 5), (1, 6), (0, 7), (1, 8), (1, 9), (1, 10), (0, 11), (1, 12), (1, 13), (1, 14), (1, 16), (2, 15), (4, 17), (1, 18), (4, 19)] Tryz_mixed (by kernel_rfl) (fun w41 hk42 => ?_)
    have ht43 := Kp.tr hk42 hA hB; replace hH := Hp.kp hH hk42; replace hr32 := Tt hr32 ht43; replace hB := Bx hB ht43; replace hA := ht43.new
    refine CH_q2 rfl (Qm (VQ_CH (CH_q2 rfl (Qn (VQ_CH (CH_q2 rfl (Qv (fun w' hw' => Y_fieldAddrC (off2 := 0) underlying66 rfl sizeOf9 (by decide) rfl rfl) (VQ_CH (CH_q1 rfl ?_)))))))))
    refine VQ_y (fun w' hw' => Y_load ((World.cell?_of_block (hw'.block _ (World.block_lt_of_cell? _ _ (Hp.cell (j := 0) hH (i := 0) rfl rfl)))).trans (Hp.cell (j := 0) hH (i := 0) rfl rfl)) isAgg9 rfl) rfl rfl rfl ?_
    refine VQ_CH (CH_q2 rfl (Qm (VQ_CH (CH_q2 rfl (Qn (VQ_CH (CH_q2 rfl (Qv (fun w' hw' => Y_fieldAddrC (off2 := 1) underlying66 rfl sizeOf3 (by decide) rfl rfl) (VQ_CH ?_)))))))))
    refine CH_q1 rfl ?_
    refine VQ_y (fun w' hw' => Y_load ((World.cell?_of_block (hw'.block _ (World.block_lt_of_cell? _ _ (Hp.cell (j := 1) hH (i := 0) rfl rfl)))).trans (Hp.cell (j := 1) hH (i := 0) rfl rfl)) isAgg3 rfl) rfl rfl rfl ?_
    refine VQ_CH (CH_q2 rfl (Qm (VQ_CH (CH_q2 rfl (Qn (VQ_CH (CH_q2 rfl (Qv (fun w' hw' => Y_fieldAddrC (off2 := 1) underlying66 rfl sizeOf3 (by decide) rfl rfl) (VQ_CH ?_)))))))))
    refine CH_q1 rfl ?_
    refine VQ_y (fun w' hw' => Y_load ((World.cell?_of_block (hw'.block _ (World.block_lt_of_cell? _ _ (Hp.cell (j := 1) hH (i := 0) rfl rfl)))).trans (Hp.cell (j := 1) hH (i := 0) rfl rfl)) isAgg3 rfl) rfl rfl rfl ?_
    refine VQ_CH (CH_q2 rfl (Qm (VQ_CH (CH_q2 rfl (Qv (fun w' hw' => Y_addI rfl rfl) (VQ_CH (CH_q2 rfl ?_)))))))
    obtain ⟨x44, hx44, ho30⟩ := Bs ho30
    refine Qv (fun w' hw' => Y_sliceSLH hx44 underlying9 rfl rfl rfl) (VQ_CH (CH_q2 rfl (Qv (fun w' hw' => Y_fieldAddrC (off2 := 0) underlying68 rfl sizeOf3 (by decide) rfl rfl) (VQ_CH ?_))))
    refine CH_l1 (k := 0) rfl ?_
    obtain ⟨x45, hx45, ho30⟩ := Bs ho30
    refine Vc call17 (know_Words_c (Dw := Dw) w41 hA x44 hx45) ?_
    rintro v46 w48 ⟨_, rfl, h47, hk49⟩
    obtain ⟨A50, ht51, hH52⟩ := Hp.addOwnd (Dw := Dw) hH hB hA hk49 h47
    replace hr32 := Tt hr32 ht51; replace hB := Bx hB ht51; replace hA := ht51.new
    replace hH : Hp _ _ _ (o_9 v46 x45 :: obC b_r_ [.string x20.2.s, Ii x20.2.at_] 66 :: obC b11 [Ii 0, .bool x6.1, .slice none 0 0] 68 :: obC b1 [Ii 0, .bool false, .slice none 0 0] 68 :: L) := hH52
    refine V_CH (hk49) ?_
    refine CH_l1 (k := 2) rfl ?_
    refine V_storeC (Dw := Dw) (off := 0) (ds := [Ii 1, .bool x6.1, .slice none 0 0]) hH (i := 2) rfl sizeOf3 rfl (Nat.le_of_ble_eq_true rfl) (by simp [Value.cells, Value.oneCell']) rfl hB hA rfl rfl ?_
    intro w53 hH54 ht55
    replace hr32 := Tt hr32 ht55; replace hB := Bx hB ht55; replace hA := ht55.new
    replace hH : Hp _ _ _ (o_9 v46 x45 :: obC b_r_ [.string x20.2.s, Ii x20.2.at_] 66 :: obC b11 [Ii 1, .bool x6.1, .slice none 0 0] 68 :: obC b1 [Ii 0, .bool false, .slice none 0 0] 68 :: L) := hH54
    refine V_CHw ?_
    refine CH_q2 rfl (Qv (fun w' hw' => Y_fieldAddrC (off2 := 2) underlying68 rfl sizeOf62 (by decide) rfl rfl) (VQ_CH ?_))
    refine CH_l1 (k := 2) rfl ?_
    obtain ⟨A56, ht57, h58, hH59⟩ := Hp.freeze (Dw := Dw) (α := ByteArray) (v := v46) (l := x45) hH (i := 0) rfl hA
    replace hr32 := Tt hr32 ht57; replace hB := Bx hB ht57; replace hA := ht57.new
    replace hH : Hp _ _ _ (obC b_r_ [.string x20.2.s, Ii x20.2.at_] 66 :: obC b11 [Ii 1, .bool x6.1, .slice none 0 0] 68 :: obC b1 [Ii 0, .bool false, .slice none 0 0] 68 :: L) := hH59
    have h66 : (v46).oneCell' = true := by obtain ⟨_, _, e, _⟩ := Sl.form h58; rw [e]; rfl
    refine V_storeC (Dw := Dw) (off := 2) (ds := [Ii 1, .bool x6.1, v46]) hH (i := 1) rfl sizeOf62 (by show (v46 : Value).cells.size = _; rw [← Array.length_toList, Value.cells_one h66]; rfl) (Nat.le_of_ble_eq_true rfl) (by intro u hu; change u ∈ (v46 : Value).cells.toList at hu; rw [Value.cells_one h66] at hu; simp at hu; subst hu; assumption) (by show _ ++ (v46 : Value).cells.toList ++ _ = _; rw [Value.cells_one h66]; rfl) hB hA rfl rfl ?_
    intro w61 hH62 ht63
    replace h58 := Sl.tr h58 ht63; replace hr32 := Tt hr32 ht63
    replace hH : Hp _ _ _ (obC b_r_ [.string x20.2.s, Ii x20.2.at_] 66 :: obC b11 [Ii 1, .bool x6.1, v46] 68 :: obC b1 [Ii 0, .bool false, .slice none 0 0] 68 :: L) := hH62
    refine V_CHw ?_
    refine CH_tail ?_
    show V _ _ _ _ [] _ _
    obtain rfl := Oi ho30
    refine V_end (fun a ha67 => ?_)
    exact ⟨(v46, A56), ha67.sb, ⟨h58, hH, hr32⟩⟩
   rw [if_neg (nt hc40)] at ho30
   obtain rfl := Oi ho30
   refine C_skip (fun a ha68 => ?_)
   exact ⟨(.slice none 0 0, A22), ha68.sb, ⟨Sl.nil, hH, hr32⟩⟩
  rintro ⟨v33, A38⟩ w35 ⟨h34, hH39, hk36⟩ a ha37
  replace hK := Tr.trans hK hk36; replace hB := Nat.le_trans hB hk36.ex.size; replace hA := hk36.new
  replace hH : Hp _ _ _ (obC b_r_ [.string x20.2.s, Ii x20.2.at_] 66 :: obC b11 [Ii s31.kind, .bool s31.not_, v33] 68 :: obC b1 [Ii 0, .bool false, .slice none 0 0] 68 :: L) := hH39
  refine C_at (n := ⟨127, [], none⟩) (fun _ _ => rfl) ?_ ha37
  refine C_seq (Sr (Vy (Y_fieldAddrC (off2 := 2) underlying68 rfl sizeOf62 (by decide) rfl rfl) (Ld (Hp.cell (j := 2) hH (i := 1) rfl rfl) isAgg62 (Vy (Y_lenSl h34 rfl underlying62 rfl) (Vy (Y_eql rfl rfl) (To ?_))))))
  refine Cc (fun hc69 => ?_) fun hc69 => ?_
  ·rw [if_pos hc69] at hm
   refine Sr (Mm (Mm (Nc (Vy (Y_fieldAddrC (off2 := 1) underlying66 rfl sizeOf3 (by decide) rfl rfl) ?_))))
   refine V_storeC (Dw := Dw) (off := 1) (ds := [.string x20.2.s, Ii x6.2.at_]) hH (i := 0) rfl sizeOf3 rfl (Nat.le_of_ble_eq_true rfl) (by simp [Value.cells, Value.oneCell']) rfl hB hA rfl rfl ?_
   intro w70 hH71 ht72
   replace h34 := Sl.tr h34 ht72; replace hK := Tt hK ht72; replace hB := Bx hB ht72; replace hA := ht72.new
   replace hH : Hp _ _ _ (obC b_r_ [.string x20.2.s, Ii x6.2.at_] 66 :: obC b11 [Ii s31.kind, .bool s31.not_, v33] 68 :: obC b1 [Ii 0, .bool false, .slice none 0 0] 68 :: L) := hH71
   refine To ?_
   refine Sr (Vy (Y_loadA (Hp.part (off := 0) (n := 3) (ds := [Ii s31.kind, .bool s31.not_, v33]) hH (i := 1) rfl rfl) isAgg68 sizeOf68 rfl) ?_)
   have h78 : (v33).oneCell' = true := by obtain ⟨_, _, e, _⟩ := Sl.form h34; rw [e]; rfl
   refine V_storeC (Dw := Dw) (off := 0) (ds := [Ii s31.kind, .bool s31.not_, v33]) hH (i := 2) rfl sizeOf68 rfl (Nat.le_of_ble_eq_true rfl) (by exact (List.forall_mem_cons.2 ⟨rfl, (List.forall_mem_cons.2 ⟨rfl, (List.forall_mem_cons.2 ⟨h78, (fun _ h => nomatch h)⟩)⟩)⟩)) rfl hB hA rfl rfl ?_
   intro w73 hH74 ht75
   replace h34 := Sl.tr h34 ht75; replace hK := Tt hK ht75
   replace hH : Hp _ _ _ (obC b_r_ [.string x20.2.s, Ii x6.2.at_] 66 :: obC b11 [Ii s31.kind, .bool s31.not_, v33] 68 :: obC b1 [Ii s31.kind, .bool s31.not_, v33] 68 :: L) := hH74
   refine As (To ?_)
   obtain rfl := Oi hm
   have hv79 := loadVar_agg (Hp.part (off := 0) (n := 3) (ds := [Ii s31.kind, .bool s31.not_, v33]) hH (i := 2) rfl rfl) isAgg68 sizeOf68
   replace hH : Hp B A38 w73 (obC b_r_ [.string x20.2.s, Ii x6.2.at_] 66 :: obC b1 [Ii s31.kind, .bool s31.not_, v33] 68 :: L) := Hp.drop hH (i := 1) rfl
   replace hH : Hp B A38 w73 (obC b_r_ [.string x20.2.s, Ii x6.2.at_] 66 :: L) := Hp.drop hH (i := 1) rfl
   refine Rt (Res.l2 results19 (RL.cell rfl hv79) (RL.tmp rfl)) ?_
   exact ⟨v33, A38, rfl, h34, hH, hK⟩
  rw [if_neg (nt hc69)] at hm
  refine Sk ?_
  refine Sr (Mm (Nc (Vy (Y_fieldAddrC (off2 := 1) underlying66 rfl sizeOf3 (by decide) rfl rfl) (Ld (Hp.cell (j := 1) hH (i := 0) rfl rfl) isAgg3 (Mm (Vy (Y_addI rfl rfl) (Vy (Y_addI rfl rfl) (Nc (Vy (Y_fieldAddrC (off2 := 1) underlying66 rfl sizeOf3 (by decide) rfl rfl) ?_)))))))))
  refine V_storeC (Dw := Dw) (off := 1) (ds := [.string x20.2.s, Ii (w64 (x20.2.at_ + (w64 ((strings_IndexByte x26 34) + 1))))]) hH (i := 0) rfl sizeOf3 rfl (Nat.le_of_ble_eq_true rfl) (by simp [Value.cells, Value.oneCell']) rfl hB hA rfl rfl ?_
  intro w80 hH81 ht82
  replace h34 := Sl.tr h34 ht82; replace hK := Tt hK ht82; replace hB := Bx hB ht82; replace hA := ht82.new
  replace hH : Hp _ _ _ (obC b_r_ [.string x20.2.s, Ii (w64 (x20.2.at_ + (w64 ((strings_IndexByte x26 34) + 1))))] 66 :: obC b11 [Ii s31.kind, .bool s31.not_, v33] 68 :: obC b1 [Ii 0, .bool false, .slice none 0 0] 68 :: L) := hH81
  refine To ?_
  refine Sr (Vy (Y_loadA (Hp.part (off := 0) (n := 3) (ds := [Ii s31.kind, .bool s31.not_, v33]) hH (i := 1) rfl rfl) isAgg68 sizeOf68 rfl) ?_)
  have h88 : (v33).oneCell' = true := by obtain ⟨_, _, e, _⟩ := Sl.form h34; rw [e]; rfl
  refine V_storeC (Dw := Dw) (off := 0) (ds := [Ii s31.kind, .bool s31.not_, v33]) hH (i := 2) rfl sizeOf68 rfl (Nat.le_of_ble_eq_true rfl) (by exact (List.forall_mem_cons.2 ⟨rfl, (List.forall_mem_cons.2 ⟨rfl, (List.forall_mem_cons.2 ⟨h88, (fun _ h => nomatch h)⟩)⟩)⟩)) rfl hB hA rfl rfl ?_
  intro w83 hH84 ht85
  replace h34 := Sl.tr h34 ht85; replace hK := Tt hK ht85
  replace hH : Hp _ _ _ (obC b_r_ [.string x20.2.s, Ii (w64 (x20.2.at_ + (w64 ((strings_IndexByte x26 34) + 1))))] 66 :: obC b11 [Ii s31.kind, .bool s31.not_, v33] 68 :: obC b1 [Ii s31.kind, .bool s31.not_, v33] 68 :: L) := hH84
  refine As (To ?_)
  obtain rfl := Oi hm
  have hv89 := loadVar_agg (Hp.part (off := 0) (n := 3) (ds := [Ii s31.kind, .bool s31.not_, v33]) hH (i := 2) rfl rfl) isAgg68 sizeOf68
  replace hH : Hp B A38 w83 (obC b_r_ [.string x20.2.s, Ii (w64 (x20.2.at_ + (w64 ((strings_IndexByte x26 34) + 1))))] 66 :: obC b1 [Ii s31.kind, .bool s31.not_, v33] 68 :: L) := Hp.drop hH (i := 1) rfl
  replace hH : Hp B A38 w83 (obC b_r_ [.string x20.2.s, Ii (w64 (x20.2.at_ + (w64 ((strings_IndexByte x26 34) + 1))))] 66 :: L) := Hp.drop hH (i := 1) rfl
  refine Rt (Res.l2 results19 (RL.cell rfl hv89) (RL.tmp rfl)) ?_
  exact ⟨v33, A38, rfl, h34, hH, hK⟩
 rw [if_neg (nt hc25)] at hm
 refine Sk ?_
 refine C_seq ?_
 obtain ⟨o90, ho90, hm⟩ := Bs hm
 refine C_cutG (ι := (know_queryReader × (Nat → Prop))) (fun ⟨s91, A97⟩ => [(0, Pt b_r_), (2, Pt b1), (4, Pt b11), (5, Ii x6.2.at_)]) (fun ⟨s91, A97⟩ => fun w' => o90 = .fin s91 ∧ Hp B A97 w' (obC b_r_ [.string s91.s, Ii s91.at_] 66 :: obC b11 [Ii 0, .bool x6.1, .slice none 0 0] 68 :: obC b1 [Ii 0, .bool false, .slice none 0 0] 68 :: L) ∧ Tr Dw B A22 w21 A97 w') ?_ ?_
 ·refine C_block ?_
  refine C_while ho90 (fun s99 a w' => ∃ i : (Nat → Prop), Has ⟨127, [], none⟩ a ([(0, Pt b_r_), (2, Pt b1), (4, Pt b11), (5, Ii x6.2.at_)]) ∧ Hp B i w' (obC b_r_ [.string s99.s, Ii s99.at_] 66 :: obC b11 [Ii 0, .bool x6.1, .slice none 0 0] 68 :: obC b1 [Ii 0, .bool false, .slice none 0 0] 68 :: L) ∧ Tr Dw B A22 w21 i w') (fun a ha => ⟨A22, ha.sb, ⟨hH, Tr.refl (Dw := Dw) hA⟩⟩) ?_
  rintro K s99 a w100 ⟨A101, ha124, hH102, hr92⟩ K109
  refine C_of ?_ ha124
  replace hB := Bx hB hr92; replace hA := hr92.new
  replace hH : Hp _ _ _ (obC b_r_ [.string s99.s, Ii s99.at_] 66 :: obC b11 [Ii 0, .bool x6.1, .slice none 0 0] 68 :: obC b1 [Ii 0, .bool false, .slice none 0 0] 68 :: L) := hH102
  obtain ⟨x103, h104, h105⟩ := K109
  refine C_seq (C_seq ?_)
  refine C_region_q (Dw := Dw) Tryz_mixed (by kernel_rfl) ?_
  refine Qm (Qn (Qv (fun w' hw' => Y_fieldAddrC (off2 := 1) underlying66 rfl sizeOf3 (by decide) rfl rfl) ?_))
  refine VQ_y (fun w' hw' => Y_load ((World.cell?_of_block (hw'.block _ (World.block_lt_of_cell? _ _ (Hp.cell (j := 1) hH (i := 0) rfl rfl)))).trans (Hp.cell (j := 1) hH (i := 0) rfl rfl)) isAgg3 rfl) rfl rfl rfl ?_
  refine Qm (Qn (Qv (fun w' hw' => Y_fieldAddrC (off2 := 0) underlying66 rfl sizeOf9 (by decide) rfl rfl) ?_))
  refine VQ_y (fun w' hw' => Y_load ((World.cell?_of_block (hw'.block _ (World.block_lt_of_cell? _ _ (Hp.cell (j := 0) hH (i := 0) rfl rfl)))).trans (Hp.cell (j := 0) hH (i := 0) rfl rfl)) isAgg9 rfl) rfl rfl rfl ?_
  refine Qv (fun w' hw' => Y_lenStr rfl underlying9 rfl) (Qv (fun w' hw' => Y_lss rfl rfl) (Qm ?_))
  refine VQ_cut 8 (fun _ : Unit => [(0, Pt b_r_), (2, Pt b1), (4, Pt b11), (5, Ii x6.2.at_), (83, .bool ((decide (s99.at_ < (s99.s.size : Int))) && (decide ((w64 (s99.at_ - x6.2.at_)) < 30))))]) (fun _ => True) ?_ ?_
  ·simp only [List.take, List.drop]
   rcases Be (decide (s99.at_ < (s99.s.size : Int))) with hc110 | hc110
   ·refine Qh hc110 (Qm (Qh hc110 (Qn (Qh hc110 (Qv (fun w' hw' => Y_fieldAddrC (off2 := 1) underlying66 rfl sizeOf3 (by decide) rfl rfl) (Qh hc110 ?_))))))
    refine VQ_y (fun w' hw' => Y_load ((World.cell?_of_block (hw'.block _ (World.block_lt_of_cell? _ _ (Hp.cell (j := 1) hH (i := 0) rfl rfl)))).trans (Hp.cell (j := 1) hH (i := 0) rfl rfl)) isAgg3 rfl) rfl rfl rfl ?_
    refine Qh hc110 (Qm (Qh hc110 (Qv (fun w' hw' => Y_subI rfl rfl) (Qh hc110 (Qv (fun w' hw' => Y_lss rfl rfl) ?_)))))
    refine VQ_y (fun _ _ => Y_pick_te rfl hc110 rfl) rfl rfl rfl ?_
    exact VQ_end fun a ha => ⟨(), ha.sub ⟨rfl, rfl, rfl, rfl, (by rw [hc110]; rfl), trivial⟩, trivial⟩
   refine Qg hc110 (Qg hc110 (Qg hc110 (Qg hc110 (Qg hc110 (Qg hc110 (Qg hc110 ?_))))))
   refine VQ_y (fun _ _ => Y_pick_fe rfl hc110 rfl) rfl rfl rfl ?_
   exact VQ_end fun a ha => ⟨(), ha.sub ⟨rfl, rfl, rfl, rfl, (by rw [hc110]; rfl), trivial⟩, trivial⟩
  simp only [List.take, List.drop]
  rintro _ _
  refine Qm ?_
  obtain ⟨s113, hs113, h104⟩ := Bs h104
  refine VQ_cut 11 (fun _ : Unit => [(0, Pt b_r_), (2, Pt b1), (4, Pt b11), (5, Ii x6.2.at_), (95, .bool s113)]) (fun _ => True) ?_ ?_
  ·simp only [List.take, List.drop]
   rcases Be (((decide (s99.at_ < (s99.s.size : Int))) && (decide ((w64 (s99.at_ - x6.2.at_)) < 30)))) with hc112 | hc112
   ·rw [if_pos hc112] at hs113
    refine Qh hc112 (Qm (Qh hc112 (Qn (Qh hc112 (Qv (fun w' hw' => Y_fieldAddrC (off2 := 0) underlying66 rfl sizeOf9 (by decide) rfl rfl) (Qh hc112 ?_))))))
    refine VQ_y (fun w' hw' => Y_load ((World.cell?_of_block (hw'.block _ (World.block_lt_of_cell? _ _ (Hp.cell (j := 0) hH (i := 0) rfl rfl)))).trans (Hp.cell (j := 0) hH (i := 0) rfl rfl)) isAgg9 rfl) rfl rfl rfl ?_
    refine Qh hc112 (Qm (Qh hc112 (Qn (Qh hc112 (Qv (fun w' hw' => Y_fieldAddrC (off2 := 1) underlying66 rfl sizeOf3 (by decide) rfl rfl) (Qh hc112 ?_))))))
    refine VQ_y (fun w' hw' => Y_load ((World.cell?_of_block (hw'.block _ (World.block_lt_of_cell? _ _ (Hp.cell (j := 1) hH (i := 0) rfl rfl)))).trans (Hp.cell (j := 1) hH (i := 0) rfl rfl)) isAgg3 rfl) rfl rfl rfl ?_
    refine Qh hc112 ?_
    obtain ⟨x114, hx114, hs113⟩ := Bs hs113
    refine Qv (fun w' hw' => Y_indexS hx114 underlying9 rfl rfl) (Qh hc112 ?_)
    refine VQ_call (.bool (know_inWord (x114.toNat : Int))) call44 rfl rfl rfl rfl (fun w' hw' => (know_inWord_c w' (x114.toNat : Int)).mono (fun _ _ h => ⟨h.1, h.2 ▸ hw'⟩)) ?_
    refine VQ_y (fun _ _ => Y_pick_te rfl hc112 rfl) rfl rfl rfl ?_
    obtain rfl := Oi hs113
    exact VQ_end fun a ha => ⟨(), ha.sb, trivial⟩
   rw [if_neg (nt hc112)] at hs113
   refine Qg hc112 (Qg hc112 (Qg hc112 (Qg hc112 (Qg hc112 (Qg hc112 (Qg hc112 (Qg hc112 (Qg hc112 (Qg hc112 ?_)))))))))
   refine VQ_y (fun _ _ => Y_pick_fe rfl hc112 rfl) rfl rfl rfl ?_
   obtain rfl := Oi hs113
   exact VQ_end fun a ha => ⟨(), ha.sb, trivial⟩
  simp only [List.take, List.drop]
  rintro _ _
  refine VQ_to (fun _ _ => rfl) (fun w115 hk116 => ?_)
  have ht117 := Kp.tr hk116 hA hB; replace hH := Hp.kp hH hk116; replace hr92 := Tt hr92 ht117; replace hB := Bx hB ht117; replace hA := ht117.new
  refine Cc (fun hc118 => ?_) fun hc118 => ?_
  ·rw [if_pos hc118] at h104
   refine Sk ?_
   refine C_block (C_region (Mm (Nc (Vy (Y_fieldAddrC (off2 := 1) underlying66 rfl sizeOf3 (by decide) rfl rfl) (Ld (Hp.cell (j := 1) hH (i := 0) rfl rfl) isAgg3 (Vy (Y_addI rfl rfl) (Nc (Vy (Y_fieldAddrC (off2 := 1) underlying66 rfl sizeOf3 (by decide) rfl rfl) ?_))))))))
   refine V_storeC (Dw := Dw) (off := 1) (ds := [.string s99.s, Ii (w64 (s99.at_ + 1))]) hH (i := 0) rfl sizeOf3 rfl (Nat.le_of_ble_eq_true rfl) (by simp [Value.cells, Value.oneCell']) rfl hB hA rfl rfl ?_
   intro w119 hH120 ht121
   replace hr92 := Tt hr92 ht121
   replace hH : Hp _ _ _ (obC b_r_ [.string s99.s, Ii (w64 (s99.at_ + 1))] 66 :: obC b11 [Ii 0, .bool x6.1, .slice none 0 0] 68 :: obC b1 [Ii 0, .bool false, .slice none 0 0] 68 :: L) := hH120
   obtain rfl := Oi h104
   refine V_end (fun a ha122 => ?_)
   exact ⟨(⟨s99.s, w64 (s99.at_ + 1)⟩ : know_queryReader), h105, ⟨A101, ha122.sb, ⟨hH, hr92⟩⟩⟩
  rw [if_neg (nt hc118)] at h104
  obtain rfl := Oi h104
  refine C_exit (fun a ha123 => ?_)
  exact ⟨(s99, A101), ha123.sb, ⟨h105.symm, hH, hr92⟩⟩
 rintro ⟨s91, A97⟩ w94 ⟨rfl, hH98, hk95⟩ a ha96
 rw [Lp.andThen_fin] at hm
 replace hK := Tr.trans hK hk95; replace hB := Nat.le_trans hB hk95.ex.size; replace hA := hk95.new
 replace hH : Hp _ _ _ (obC b_r_ [.string s91.s, Ii s91.at_] 66 :: obC b11 [Ii 0, .bool x6.1, .slice none 0 0] 68 :: obC b1 [Ii 0, .bool false, .slice none 0 0] 68 :: L) := hH98
 refine C_at (n := ⟨127, [], none⟩) (fun _ _ => rfl) ?_ ha96
 refine C_seq (Sr (Mm (Nc (Vy (Y_fieldAddrC (off2 := 1) underlying66 rfl sizeOf3 (by decide) rfl rfl) (Ld (Hp.cell (j := 1) hH (i := 0) rfl rfl) isAgg3 (Mm (Vy (Y_eql rfl rfl) (To ?_))))))))
 refine Cc (fun hc125 => ?_) fun hc125 => ?_
 ·rw [if_pos hc125] at hm
  refine Sr (Vy (Y_loadA (Hp.part (off := 0) (n := 3) (ds := [Ii 0, .bool x6.1, .slice none 0 0]) hH (i := 1) rfl rfl) isAgg68 sizeOf68 rfl) ?_)
  refine V_storeC (Dw := Dw) (off := 0) (ds := [Ii 0, .bool x6.1, .slice none 0 0]) hH (i := 2) rfl sizeOf68 rfl (Nat.le_of_ble_eq_true rfl) (by exact (List.forall_mem_cons.2 ⟨rfl, (List.forall_mem_cons.2 ⟨rfl, (List.forall_mem_cons.2 ⟨rfl, (fun _ h => nomatch h)⟩)⟩)⟩)) rfl hB hA rfl rfl ?_
  intro w126 hH127 ht128
  replace hK := Tt hK ht128
  replace hH : Hp _ _ _ (obC b_r_ [.string s91.s, Ii s91.at_] 66 :: obC b11 [Ii 0, .bool x6.1, .slice none 0 0] 68 :: obC b1 [Ii 0, .bool x6.1, .slice none 0 0] 68 :: L) := hH127
  refine As (To ?_)
  obtain rfl := Oi hm
  have hv129 := loadVar_agg (Hp.part (off := 0) (n := 3) (ds := [Ii 0, .bool x6.1, .slice none 0 0]) hH (i := 2) rfl rfl) isAgg68 sizeOf68
  replace hH : Hp B A97 w126 (obC b_r_ [.string s91.s, Ii s91.at_] 66 :: obC b1 [Ii 0, .bool x6.1, .slice none 0 0] 68 :: L) := Hp.drop hH (i := 1) rfl
  replace hH : Hp B A97 w126 (obC b_r_ [.string s91.s, Ii s91.at_] 66 :: L) := Hp.drop hH (i := 1) rfl
  refine Rt (Res.l2 results19 (RL.cell rfl hv129) (RL.tmp rfl)) ?_
  exact ⟨.slice none 0 0, A97, rfl, Sl.nil, hH, hK⟩
 rw [if_neg (nt hc125)] at hm
 refine Sk ?_
 refine C_seq ?_
 refine C_region_qt (Dw := Dw) 11 Tryz_mixed (by kernel_rfl) ?_
 simp only [List.take, List.drop]
 refine Qm (Qn (Qv (fun w' hw' => Y_fieldAddrC (off2 := 0) underlying66 rfl sizeOf9 (by decide) rfl rfl) ?_))
 refine VQ_y (fun w' hw' => Y_load ((World.cell?_of_block (hw'.block _ (World.block_lt_of_cell? _ _ (Hp.cell (j := 0) hH (i := 0) rfl rfl)))).trans (Hp.cell (j := 0) hH (i := 0) rfl rfl)) isAgg9 rfl) rfl rfl rfl ?_
 refine Qm (Qm (Qn (Qv (fun w' hw' => Y_fieldAddrC (off2 := 1) underlying66 rfl sizeOf3 (by decide) rfl rfl) ?_)))
 refine VQ_y (fun w' hw' => Y_load ((World.cell?_of_block (hw'.block _ (World.block_lt_of_cell? _ _ (Hp.cell (j := 1) hH (i := 0) rfl rfl)))).trans (Hp.cell (j := 1) hH (i := 0) rfl rfl)) isAgg3 rfl) rfl rfl rfl ?_
 obtain ⟨x130, hx130, hm⟩ := Bs hm
 refine Qv (fun w' hw' => Y_sliceSLH hx130 underlying9 rfl rfl rfl) ?_
 obtain ⟨x131, hx131, hm⟩ := Bs hm
 refine VQ_call (.string x131) call45 rfl rfl rfl rfl (fun w' hw' => (know_lower_c (Dw := Dw) w' (fun b hb => hA b (Nat.le_trans hw'.size hb)) x130 hx131).mono (fun _ _ h => ⟨h.1, Kp.trans (Dw := Dw) hw' h.2⟩)) ?_
 refine VQ_tail (fun w132 hk133 => ?_)
 try simp only [List.take, List.drop]
 have ht134 := Kp.tr hk133 hA hB; replace hH := Hp.kp hH hk133; replace hK := Tt hK ht134; replace hB := Bx hB ht134; replace hA := ht134.new
 refine V_buildSlice (Dw := Dw) (l := ([x131] : List ByteArray)) (len := 1) underlying62 sizeOf9 zeroValue9 rfl (by with_unfolding_all rfl) (show (1 * 1 : Nat) ≠ 0 by decide) (show (1 * 1 : Nat) ≤ 2 ^ 24 by decide) hA ⟨[.string x131], _, rfl, rfl, rfl⟩ rfl rfl ?_
 intro v135 w136 hk138 h137
 have ht139 := Kp.tr hk138 hA hB; replace hH := Hp.kp hH hk138; replace hK := Tt hK ht139; replace hB := Bx hB ht139; replace hA := ht139.new
 refine Vy (Y_fieldAddrC (off2 := 2) underlying68 rfl sizeOf62 (by decide) rfl rfl) ?_
 have h145 : (v135).oneCell' = true := by obtain ⟨_, _, e, _⟩ := Sl.form h137; rw [e]; rfl
 refine V_storeC (Dw := Dw) (off := 2) (ds := [Ii 0, .bool x6.1, v135]) hH (i := 1) rfl sizeOf62 (by show (v135 : Value).cells.size = _; rw [← Array.length_toList, Value.cells_one h145]; rfl) (Nat.le_of_ble_eq_true rfl) (by intro u hu; change u ∈ (v135 : Value).cells.toList at hu; rw [Value.cells_one h145] at hu; simp at hu; subst hu; assumption) (by show _ ++ (v135 : Value).cells.toList ++ _ = _; rw [Value.cells_one h145]; rfl) hB hA rfl rfl ?_
 intro w140 hH141 ht142
 replace h137 := Sl.tr h137 ht142; replace hK := Tt hK ht142; replace hB := Bx hB ht142; replace hA := ht142.new
 replace hH : Hp _ _ _ (obC b_r_ [.string s91.s, Ii s91.at_] 66 :: obC b11 [Ii 0, .bool x6.1, v135] 68 :: obC b1 [Ii 0, .bool false, .slice none 0 0] 68 :: L) := hH141
 refine To ?_
 refine C_seq (Sr (Mm ?_))
 obtain ⟨x146, hx146, hm⟩ := Bs hm
 refine Vc call20 (know_queryReader_is_c (Dw := Dw) w140 hB hA s91 b_r_ 42 hH hx146) ?_
 rintro _ w147 ⟨A148, rfl, hH149, ht150⟩
 replace h137 := Sl.tr h137 ht150; replace hK := Tt hK ht150; replace hB := Bx hB ht150; replace hA := ht150.new
 replace hH : Hp _ _ _ (obC b_r_ [.string x146.2.s, Ii x146.2.at_] 66 :: obC b11 [Ii 0, .bool x6.1, v135] 68 :: obC b1 [Ii 0, .bool false, .slice none 0 0] 68 :: L) := hH149
 refine To ?_
 obtain ⟨s152, ho151, hm⟩ := Bs hm
 refine C_cutG (ι := (Value × (Nat → Prop))) (fun ⟨v154, A159⟩ => [(2, Pt b1), (4, Pt b11)]) (fun ⟨v154, A159⟩ => fun w' => Sl A159 w' v154 s152.words ∧ Hp B A159 w' (obC b_r_ [.string x146.2.s, Ii x146.2.at_] 66 :: obC b11 [Ii s152.kind, .bool s152.not_, v154] 68 :: obC b1 [Ii 0, .bool false, .slice none 0 0] 68 :: L) ∧ Tr Dw B A148 w147 A159 w') ?_ ?_
 ·have hr153 : Tr Dw B A148 w147 A148 w147 := Tr.refl (Dw := Dw) hA
  refine Cc (fun hc161 => ?_) fun hc161 => ?_
  ·rw [if_pos hc161] at ho151
   refine C_region (Vy (Y_fieldAddrC (off2 := 0) underlying68 rfl sizeOf3 (by decide) rfl rfl) ?_)
   refine V_storeC (Dw := Dw) (off := 0) (ds := [Ii 2, .bool x6.1, v135]) hH (i := 1) rfl sizeOf3 rfl (Nat.le_of_ble_eq_true rfl) (by simp [Value.cells, Value.oneCell']) rfl hB hA rfl rfl ?_
   intro w162 hH163 ht164
   replace h137 := Sl.tr h137 ht164; replace hr153 := Tt hr153 ht164
   replace hH : Hp _ _ _ (obC b_r_ [.string x146.2.s, Ii x146.2.at_] 66 :: obC b11 [Ii 2, .bool x6.1, v135] 68 :: obC b1 [Ii 0, .bool false, .slice none 0 0] 68 :: L) := hH163
   obtain rfl := Oi ho151
   refine V_end (fun a ha165 => ?_)
   exact ⟨(v135, A148), ha165.sb, ⟨h137, hH, hr153⟩⟩
  rw [if_neg (nt hc161)] at ho151
  obtain rfl := Oi ho151
  refine C_skip (fun a ha166 => ?_)
  exact ⟨(v135, A148), ha166.sb, ⟨h137, hH, hr153⟩⟩
 rintro ⟨v154, A159⟩ w156 ⟨h155, hH160, hk157⟩ a ha158
 replace hK := Tr.trans hK hk157; replace hB := Nat.le_trans hB hk157.ex.size; replace hA := hk157.new
 replace hH : Hp _ _ _ (obC b_r_ [.string x146.2.s, Ii x146.2.at_] 66 :: obC b11 [Ii s152.kind, .bool s152.not_, v154] 68 :: obC b1 [Ii 0, .bool false, .slice none 0 0] 68 :: L) := hH160
 refine C_at (n := ⟨127, [], none⟩) (fun _ _ => rfl) ?_ ha158
 refine Sr (Vy (Y_loadA (Hp.part (off := 0) (n := 3) (ds := [Ii s152.kind, .bool s152.not_, v154]) hH (i := 1) rfl rfl) isAgg68 sizeOf68 rfl) ?_)
 have h172 : (v154).oneCell' = true := by obtain ⟨_, _, e, _⟩ := Sl.form h155; rw [e]; rfl
 refine V_storeC (Dw := Dw) (off := 0) (ds := [Ii s152.kind, .bool s152.not_, v154]) hH (i := 2) rfl sizeOf68 rfl (Nat.le_of_ble_eq_true rfl) (by exact (List.forall_mem_cons.2 ⟨rfl, (List.forall_mem_cons.2 ⟨rfl, (List.forall_mem_cons.2 ⟨h172, (fun _ h => nomatch h)⟩)⟩)⟩)) rfl hB hA rfl rfl ?_
 intro w167 hH168 ht169
 replace h155 := Sl.tr h155 ht169; replace hK := Tt hK ht169
 replace hH : Hp _ _ _ (obC b_r_ [.string x146.2.s, Ii x146.2.at_] 66 :: obC b11 [Ii s152.kind, .bool s152.not_, v154] 68 :: obC b1 [Ii s152.kind, .bool s152.not_, v154] 68 :: L) := hH168
 refine As (To ?_)
 obtain rfl := Oi hm
 have hv173 := loadVar_agg (Hp.part (off := 0) (n := 3) (ds := [Ii s152.kind, .bool s152.not_, v154]) hH (i := 2) rfl rfl) isAgg68 sizeOf68
 replace hH : Hp B A159 w167 (obC b_r_ [.string x146.2.s, Ii x146.2.at_] 66 :: obC b1 [Ii s152.kind, .bool s152.not_, v154] 68 :: L) := Hp.drop hH (i := 1) rfl
 replace hH : Hp B A159 w167 (obC b_r_ [.string x146.2.s, Ii x146.2.at_] 66 :: L) := Hp.drop hH (i := 1) rfl
 refine Rt (Res.l2 results19 (RL.cell rfl hv173) (RL.tmp rfl)) ?_
 exact ⟨v154, A159, rfl, h155, hH, hK⟩
theorem know_ReadQuery_c (w : World) {A : Nat → Prop} (hA : ∀ b, w.heap.size ≤ b → A b) (s : ByteArray) {r : (know_Query × Int × Int)} (hm : know_ReadQuery s = some r) : Ret prog 5 #[.string s] w fun v w' => ∃ s0, v = .tuple #[.agg #[s0], Ii r.2.1, Ii r.2.2] ∧ Sl A w' s0 r.1.parts ∧ Kp Dw w w' := by
 unfold know_ReadQuery at hm
 refine enter func5 rfl ntmps5 rfl ?_
 have hA0 := hA
 obtain ⟨hB, hK, hH⟩ := St (Dw := Dw) hA
 refine Sr ?_
 refine V_allocH (Dw := Dw) (B := w.heap.size) hH zeroValue27 hB hA rfl ?_
 intro b1 w2 A3 hH4 ht5
 replace hK := Tt hK ht5; replace hB := Bx hB ht5; replace hA := ht5.new
 replace hH : Hp _ _ _ (obC b1 [.slice none 0 0] 27 :: []) := hH4
 refine As (As (To ?_))
 refine C_seq (Sr (Mm (Vy (Y_lenStr rfl underlying9 rfl) (Vy (Y_gtr rfl rfl) (To ?_)))))
 refine Cc (fun hc6 => ?_) fun hc6 => ?_
 ·rw [if_pos hc6] at hm
  refine Sr ?_
  refine Vy (Y_build underlying27 zeroValue27 (Tryz_places27 _ underlying27) rfl (by with_unfolding_all rfl)) ?_
  refine V_storeC (Dw := Dw) (off := 0) (ds := [.slice none 0 0]) hH (i := 0) rfl sizeOf27 rfl (Nat.le_of_ble_eq_true rfl) (by exact (List.forall_mem_cons.2 ⟨rfl, (fun _ h => nomatch h)⟩)) rfl hB hA rfl rfl ?_
  intro w7 hH8 ht9
  replace hK := Tt hK ht9
  replace hH : Hp _ _ _ (obC b1 [.slice none 0 0] 27 :: []) := hH8
  refine As (As (To ?_))
  obtain rfl := Oi hm
  refine C_ret ?_
  try simp only [↓ib, ↓th]
  exact retQ rfl (Res.l3 results5 (RL.cell rfl (loadVar_agg (Hp.part (off := 0) (n := 1) (ds := [.slice none 0 0]) hH (i := 0) rfl rfl) isAgg27 sizeOf27)) (RL.tmp rfl) (RL.tmp rfl)) ⟨.slice none 0 0, rfl, Sl.nil, hK.kp⟩
 rw [if_neg (nt hc6)] at hm
 refine Sk ?_
 refine Sr (Mm ?_)
 refine Vy (Y_build underlying66 zeroValue66 (Tryz_places66 _ underlying66) rfl (by with_unfolding_all rfl)) ?_
 refine V_boxH (Dw := Dw) (B := w.heap.size) hH rfl hB hA rfl ?_
 intro b10 w11 A12 hH13 ht14
 replace hK := Tt hK ht14; replace hB := Bx hB ht14; replace hA := ht14.new
 replace hH : Hp _ _ _ (obC b10 [.string s, Ii 0] 66 :: obC b1 [.slice none 0 0] 27 :: []) := hH13
 refine As (To ?_)
 refine Sr ?_
 refine V_allocH (Dw := Dw) (B := w.heap.size) hH zeroValue27 hB hA rfl ?_
 intro b15 w17 A18 hH19 ht20
 replace hK := Tt hK ht20; replace hB := Bx hB ht20; replace hA := ht20.new
 replace hH : Hp _ _ _ (obC b15 [.slice none 0 0] 27 :: obC b10 [.string s, Ii 0] 66 :: obC b1 [.slice none 0 0] 27 :: []) := hH19
 refine To ?_
 refine Sr (Mm ?_)
 replace hH : Hp w.heap.size A18 w17 (obC b10 [.string s, Ii 0] 66 :: obC b15 [.slice none 0 0] 27 :: obC b1 [.slice none 0 0] 27 :: []) := Hp.front hH (i := 1) rfl
 obtain ⟨x21, hx21, hm⟩ := Bs hm
 refine Vc call18 (know_queryReader_blanks_c (Dw := Dw) w17 hB hA (⟨s, 0⟩ : know_queryReader) b10 hH hx21) ?_
 rintro _ w22 ⟨A23, rfl, hH24, ht25⟩
 replace hK := Tt hK ht25; replace hB := Bx hB ht25; replace hA := ht25.new
 replace hH : Hp _ _ _ (obC b10 [.string x21.s, Ii x21.at_] 66 :: obC b15 [.slice none 0 0] 27 :: obC b1 [.slice none 0 0] 27 :: []) := hH24
 refine To ?_
 refine C_seq ?_
 replace hH : Hp w.heap.size A23 w22 (o_68 (.slice none 0 0) ([] : (List know_Part)) :: obC b10 [.string x21.s, Ii x21.at_] 66 :: obC b15 [.slice none 0 0] 27 :: obC b1 [.slice none 0 0] 27 :: []) := Hp.addNil (α := know_Part) (e := 68) hH
 obtain ⟨o26, ho26, hm⟩ := Bs hm
 refine C_cutG (ι := ((know_queryReader × know_Query × know_Query) × Value × Value × (Nat → Prop))) (fun ⟨s27, v33, v35, A37⟩ => [(2, Pt b1), (6, Pt b15)]) (fun ⟨s27, v33, v35, A37⟩ => fun w' => o26 = .fin s27 ∧ Sl A37 w' v35 s27.2.2.parts ∧ Hp w.heap.size A37 w' (o_68 v33 s27.2.1.parts :: obC b10 [.string s27.1.s, Ii s27.1.at_] 66 :: obC b15 [v33] 27 :: obC b1 [v35] 27 :: []) ∧ Tr Dw w.heap.size A23 w22 A37 w') ?_ ?_
 ·refine C_block ?_
  refine C_while ho26 (fun s39 a w' => ∃ i : (Value × Value × (Nat → Prop)), Has ⟨66, [], none⟩ a ([(0, .string s), (2, Pt b1), (5, Pt b10), (6, Pt b15)]) ∧ Sl i.2.2 w' i.2.1 s39.2.2.parts ∧ Hp w.heap.size i.2.2 w' (o_68 i.1 s39.2.1.parts :: obC b10 [.string s39.1.s, Ii s39.1.at_] 66 :: obC b15 [i.1] 27 :: obC b1 [i.2.1] 27 :: []) ∧ Tr Dw w.heap.size A23 w22 i.2.2 w') (fun a ha => ⟨(.slice none 0 0, .slice none 0 0, A23), ha.sb, ⟨Sl.nil, hH, Tr.refl (Dw := Dw) hA⟩⟩) ?_
  rintro K s39 a w40 ⟨⟨v41, v43, A45⟩, ha134, h44, hH46, hr28⟩ K53
  refine C_of ?_ ha134
  replace hK := Tt hK hr28; replace hB := Bx hB hr28; replace hA := hr28.new
  replace hH : Hp _ _ _ (o_68 v41 s39.2.1.parts :: obC b10 [.string s39.1.s, Ii s39.1.at_] 66 :: obC b15 [v41] 27 :: obC b1 [v43] 27 :: []) := hH46
  obtain ⟨x47, h48, h49⟩ := K53
  refine C_seq (Sr (Mm (Nc (Vy (Y_fieldAddrC (off2 := 1) underlying66 rfl sizeOf3 (by decide) rfl rfl) (Ld (Hp.cell (j := 1) hH (i := 1) rfl rfl) isAgg3 (Mm (Vy (Y_lenStr rfl underlying9 rfl) (Vy (Y_lss rfl rfl) (To ?_)))))))))
  refine Cc (fun hc54 => ?_) fun hc54 => ?_
  ·rw [if_pos hc54] at h48
   refine Sk ?_
   refine C_block (Sr (Mm ?_))
   replace hH : Hp w.heap.size A45 w40 (obC b10 [.string s39.1.s, Ii s39.1.at_] 66 :: o_68 v41 s39.2.1.parts :: obC b15 [v41] 27 :: obC b1 [v43] 27 :: []) := Hp.front hH (i := 1) rfl
   obtain ⟨x55, hx55, h48⟩ := Bs h48
   refine Vc call19 (know_queryReader_part_c (Dw := Dw) w40 hB hA s39.1 b10 hH hx55) ?_
   rintro _ w58 ⟨v56, A59, rfl, h57, hH60, ht61⟩
   replace h44 := Sl.tr h44 ht61; replace hK := Tt hK ht61; replace hr28 := Tt hr28 ht61; replace hB := Bx hB ht61; replace hA := ht61.new
   replace hH : Hp _ _ _ (obC b10 [.string x55.2.2.s, Ii x55.2.2.at_] 66 :: o_68 v41 s39.2.1.parts :: obC b15 [v41] 27 :: obC b1 [v43] 27 :: []) := hH60
   refine Mm (Vy (Y_extract rfl rfl) (Vy (Y_extract rfl rfl) ?_))
   refine V_alloc zeroValue68 rfl ?_
   intro b62 w63 h64
   have h69 : (v56).oneCell' = true := by obtain ⟨_, _, e, _⟩ := Sl.form h57; rw [e]; rfl
   refine Sn h64 sizeOf68 ?_
   intro w65 h66
   have hk71 := h66.kp (Dw := Dw)
   have h70 : El (α := know_Part) A59 w65 b62 0 x55.1 := h66.el hA ⟨[Ii x55.1.kind], _, rfl, rfl, ⟨[.bool x55.1.not_], _, rfl, rfl, ⟨_, rfl, h57⟩⟩⟩
   have ht72 := Kp.tr hk71 hA hB; replace hH := Hp.kp hH hk71; replace h44 := Sl.tr h44 ht72; replace hK := Tt hK ht72; replace hr28 := Tt hr28 ht72; replace hB := Bx hB ht72; replace hA := ht72.new
   refine As (To ?_)
   refine C_seq (Sr (Mm (Vy (Y_not rfl) (To ?_))))
   refine Cc (fun hc73 => ?_) fun hc73 => ?_
   ·rw [if_pos hc73] at h48
    refine C_seq ?_
    obtain ⟨A74, ht75, h76, hH77⟩ := Hp.freezeC (Dw := Dw) (α := know_queryReader) (x := x55.2.2) hH (i := 0) rfl hA (by exact ⟨[.string x55.2.2.s], _, rfl, rfl, rfl⟩)
    replace hK := Tt hK ht75; replace hB := Bx hB ht75; replace hA := ht75.new
    replace hH : Hp _ _ _ (o_68 v41 s39.2.1.parts :: obC b15 [v41] 27 :: obC b1 [v43] 27 :: []) := hH77
    refine C_region_ch (Dw := Dw) A74 8 [(1, 0), (1, 1), (1, 2), (1, 3), (1, 4), (3, 5), (1, 6), (1, 7)] Tryz_mixed (by kernel_rfl) (fun w78 hk79 => ?_)
    have ht80 := Kp.tr hk79 hA hB; replace hH := Hp.kp hH hk79; replace h76 := El.tr h76 ht80; replace hK := Tt hK ht80; replace hB := Bx hB ht80; replace hA := ht80.new
    refine CH_q2 rfl ?_
    refine Qv (fun w' hw' => Y_build underlying27 zeroValue27 (Tryz_places27 _ underlying27) rfl (by with_unfolding_all rfl)) (VQ_CH (CH_q2 rfl (Qm (VQ_CH (CH_q2 rfl (Qn (VQ_CH (CH_q2 rfl ?_))))))))
    have h81 := El_know_queryReader_1 h76
    refine Qf underlying66 rfl sizeOf3 (VQ_CH (CH_q2 rfl (Ql (fun w' hw' => (El.int (El.keep h81 (XA.ex hw')))) isAgg3 (VQ_CH ?_))))
    refine CH_l1 (k := 1) rfl ?_
    refine V_storeC (Dw := Dw) (off := 0) (ds := [.slice none 0 0]) hH (i := 2) rfl sizeOf27 rfl (Nat.le_of_ble_eq_true rfl) (by exact (List.forall_mem_cons.2 ⟨rfl, (fun _ h => nomatch h)⟩)) rfl hB hA rfl rfl ?_
    intro w82 hH83 ht84
    replace hK := Tt hK ht84
    replace hH : Hp _ _ _ (o_68 v41 s39.2.1.parts :: obC b15 [v41] 27 :: obC b1 [.slice none 0 0] 27 :: []) := hH83
    refine V_CHx (XA.tr (Dw := Dw) ht84) ?_
    refine CH_q2 rfl (Qa (VQ_CH (CH_q2 rfl (Qa (VQ_CH ?_)))))
    refine CH_tail ?_
    show V _ _ _ _ [] _ _
    refine To ?_
    obtain rfl := Oi h48
    obtain rfl := (h49 : Lp.rt _ = _)
    rw [Lp.andThen_rt] at hm
    obtain rfl := Oi hm
    refine C_ret ?_
    try simp only [↓ib, ↓th]
    exact retQ rfl (Res.l3 results5 (RL.cell rfl (loadVar_agg (Hp.part (off := 0) (n := 1) (ds := [.slice none 0 0]) hH (i := 2) rfl rfl) isAgg27 sizeOf27)) (RL.tmp rfl) (RL.tmp rfl)) ⟨.slice none 0 0, rfl, Sl.nil, hK.kp⟩
   rw [if_neg (nt hc73)] at h48
   refine Sk ?_
   refine Sr (Vy (Y_fieldAddrC (off2 := 0) underlying27 rfl sizeOf25 (by decide) rfl rfl) (Ld (Hp.cell (j := 0) hH (i := 2) rfl rfl) isAgg25 ?_))
   obtain ⟨v85, h87, h86⟩ := El_know_Part h70
   refine Vy (Y_loadA h87 isAgg68 sizeOf68 rfl) ?_
   refine V_buildSlice (Dw := Dw) (cells := #[Ii x55.1.kind, .bool x55.1.not_, v85]) (l := ([x55.1] : List know_Part)) (len := 1) underlying25 sizeOf68 zeroValue68 rfl (by obtain ⟨a92, c93, e94, _⟩ := Sl.form h86; subst e94; kernel_rfl) (show (1 * 3 : Nat) ≠ 0 by decide) (show (1 * 3 : Nat) ≤ 2 ^ 24 by decide) hA ⟨[Ii x55.1.kind, .bool x55.1.not_, v85], _, rfl, ⟨[Ii x55.1.kind], _, rfl, rfl, ⟨[.bool x55.1.not_], _, rfl, rfl, ⟨_, rfl, h86⟩⟩⟩, rfl⟩ rfl rfl ?_
   intro v88 w89 hk91 h90
   have ht95 := Kp.tr hk91 hA hB; replace hH := Hp.kp hH hk91; replace h44 := Sl.tr h44 ht95; replace hK := Tt hK ht95; replace hr28 := Tt hr28 ht95; replace hB := Bx hB ht95; replace hA := ht95.new
   obtain ⟨x96, hx96, h48⟩ := Bs h48
   refine V_appendH (Dw := Dw) (e := 68) (v := v41) (l := s39.2.1.parts) (ti := t68) (bytes := 40) (lim := 3518437208883) hH (i := 1) rfl h90 hx96 underlying25 Tryz_info68 rfl rfl rfl rfl (by decide) (by decide) (by decide) hB hA rfl rfl rfl ?_
   intro v97 w98 A99 hH100 ht101
   replace h44 := Sl.tr h44 ht101; replace hK := Tt hK ht101; replace hr28 := Tt hr28 ht101; replace hB := Bx hB ht101; replace hA := ht101.new
   replace hH : Hp _ _ _ (obC b10 [.string x55.2.2.s, Ii x55.2.2.at_] 66 :: o_68 v97 x96 :: obC b15 [v41] 27 :: obC b1 [v43] 27 :: []) := hH100
   refine Vy (Y_fieldAddrC (off2 := 0) underlying27 rfl sizeOf25 (by decide) rfl rfl) ?_
   have h107 : (v97).oneCell' = true := by obtain ⟨_, _, e, _⟩ := Sl.form (Hp.any (α := know_Part) (e := 68) (v := v97) (l := x96) hH (i := 1) rfl); rw [e]; rfl
   refine V_storeC (Dw := Dw) (off := 0) (ds := [v97]) hH (i := 2) rfl sizeOf25 (by show (v97 : Value).cells.size = _; rw [← Array.length_toList, Value.cells_one h107]; rfl) (Nat.le_of_ble_eq_true rfl) (by intro u hu; change u ∈ (v97 : Value).cells.toList at hu; rw [Value.cells_one h107] at hu; simp at hu; subst hu; assumption) (by show _ ++ (v97 : Value).cells.toList ++ _ = _; rw [Value.cells_one h107]; rfl) hB hA rfl rfl ?_
   intro w102 hH103 ht104
   replace h44 := Sl.tr h44 ht104; replace hK := Tt hK ht104; replace hr28 := Tt hr28 ht104; replace hB := Bx hB ht104; replace hA := ht104.new
   replace hH : Hp _ _ _ (obC b10 [.string x55.2.2.s, Ii x55.2.2.at_] 66 :: o_68 v97 x96 :: obC b15 [v97] 27 :: obC b1 [v43] 27 :: []) := hH103
   refine To ?_
   refine C_seq (Sr (Mm (Nc (Vy (Y_fieldAddrC (off2 := 1) underlying66 rfl sizeOf3 (by decide) rfl rfl) (Ld (Hp.cell (j := 1) hH (i := 0) rfl rfl) isAgg3 (Mm (Vy (Y_lenStr rfl underlying9 rfl) (Vy (Y_eql rfl rfl) (To ?_)))))))))
   refine Cc (fun hc108 => ?_) fun hc108 => ?_
   ·rw [if_pos hc108] at h48
    obtain rfl := Oi h48
    refine C_exit (fun a ha109 => ?_)
    replace hH : Hp w.heap.size A99 w102 (obC b1 [v43] 27 :: obC b10 [.string x55.2.2.s, Ii x55.2.2.at_] 66 :: o_68 v97 x96 :: obC b15 [v97] 27 :: []) := Hp.front hH (i := 3) rfl
    replace hH : Hp w.heap.size A99 w102 (obC b15 [v97] 27 :: obC b1 [v43] 27 :: obC b10 [.string x55.2.2.s, Ii x55.2.2.at_] 66 :: o_68 v97 x96 :: []) := Hp.front hH (i := 3) rfl
    replace hH : Hp w.heap.size A99 w102 (obC b10 [.string x55.2.2.s, Ii x55.2.2.at_] 66 :: obC b15 [v97] 27 :: obC b1 [v43] 27 :: o_68 v97 x96 :: []) := Hp.front hH (i := 2) rfl
    replace hH : Hp w.heap.size A99 w102 (o_68 v97 x96 :: obC b10 [.string x55.2.2.s, Ii x55.2.2.at_] 66 :: obC b15 [v97] 27 :: obC b1 [v43] 27 :: []) := Hp.front hH (i := 3) rfl
    exact ⟨((x55.2.2, (⟨x96⟩ : know_Query), s39.2.2), v97, v43, A99), ha109.sb, ⟨h49.symm, h44, hH, hr28⟩⟩
   rw [if_neg (nt hc108)] at h48
   refine Sk ?_
   refine C_seq (Sr (Mm ?_))
   obtain ⟨x110, hx110, h48⟩ := Bs h48
   refine Vc call20 (know_queryReader_is_c (Dw := Dw) w102 hB hA x55.2.2 b10 32 hH hx110) ?_
   rintro _ w111 ⟨A112, rfl, hH113, ht114⟩
   replace h44 := Sl.tr h44 ht114; replace hK := Tt hK ht114; replace hr28 := Tt hr28 ht114; replace hB := Bx hB ht114; replace hA := ht114.new
   replace hH : Hp _ _ _ (obC b10 [.string x110.2.s, Ii x110.2.at_] 66 :: o_68 v97 x96 :: obC b15 [v97] 27 :: obC b1 [v43] 27 :: []) := hH113
   refine Vy (Y_not rfl) (To ?_)
   refine Cc (fun hc115 => ?_) fun hc115 => ?_
   ·rw [if_pos hc115] at h48
    refine C_seq ?_
    obtain ⟨A116, ht117, h118, hH119⟩ := Hp.freezeC (Dw := Dw) (α := know_queryReader) (x := x110.2) hH (i := 0) rfl hA (by exact ⟨[.string x110.2.s], _, rfl, rfl, rfl⟩)
    replace hK := Tt hK ht117; replace hB := Bx hB ht117; replace hA := ht117.new
    replace hH : Hp _ _ _ (o_68 v97 x96 :: obC b15 [v97] 27 :: obC b1 [v43] 27 :: []) := hH119
    refine C_region_ch (Dw := Dw) A116 8 [(1, 0), (1, 1), (1, 2), (1, 3), (1, 4), (3, 5), (1, 6), (1, 7)] Tryz_mixed (by kernel_rfl) (fun w120 hk121 => ?_)
    have ht122 := Kp.tr hk121 hA hB; replace hH := Hp.kp hH hk121; replace h118 := El.tr h118 ht122; replace hK := Tt hK ht122; replace hB := Bx hB ht122; replace hA := ht122.new
    refine CH_q2 rfl ?_
    refine Qv (fun w' hw' => Y_build underlying27 zeroValue27 (Tryz_places27 _ underlying27) rfl (by with_unfolding_all rfl)) (VQ_CH (CH_q2 rfl (Qm (VQ_CH (CH_q2 rfl (Qn (VQ_CH (CH_q2 rfl ?_))))))))
    have h123 := El_know_queryReader_1 h118
    refine Qf underlying66 rfl sizeOf3 (VQ_CH (CH_q2 rfl (Ql (fun w' hw' => (El.int (El.keep h123 (XA.ex hw')))) isAgg3 (VQ_CH ?_))))
    refine CH_l1 (k := 1) rfl ?_
    refine V_storeC (Dw := Dw) (off := 0) (ds := [.slice none 0 0]) hH (i := 2) rfl sizeOf27 rfl (Nat.le_of_ble_eq_true rfl) (by exact (List.forall_mem_cons.2 ⟨rfl, (fun _ h => nomatch h)⟩)) rfl hB hA rfl rfl ?_
    intro w124 hH125 ht126
    replace hK := Tt hK ht126
    replace hH : Hp _ _ _ (o_68 v97 x96 :: obC b15 [v97] 27 :: obC b1 [.slice none 0 0] 27 :: []) := hH125
    refine V_CHx (XA.tr (Dw := Dw) ht126) ?_
    refine CH_q2 rfl (Qa (VQ_CH (CH_q2 rfl (Qa (VQ_CH ?_)))))
    refine CH_tail ?_
    show V _ _ _ _ [] _ _
    refine To ?_
    obtain rfl := Oi h48
    obtain rfl := (h49 : Lp.rt _ = _)
    rw [Lp.andThen_rt] at hm
    obtain rfl := Oi hm
    refine C_ret ?_
    try simp only [↓ib, ↓th]
    exact retQ rfl (Res.l3 results5 (RL.cell rfl (loadVar_agg (Hp.part (off := 0) (n := 1) (ds := [.slice none 0 0]) hH (i := 2) rfl rfl) isAgg27 sizeOf27)) (RL.tmp rfl) (RL.tmp rfl)) ⟨.slice none 0 0, rfl, Sl.nil, hK.kp⟩
   rw [if_neg (nt hc115)] at h48
   refine Sk ?_
   refine C_region (Mm ?_)
   obtain ⟨x127, hx127, h48⟩ := Bs h48
   refine Vc call18 (know_queryReader_blanks_c (Dw := Dw) w111 hB hA x110.2 b10 hH hx127) ?_
   rintro _ w128 ⟨A129, rfl, hH130, ht131⟩
   replace h44 := Sl.tr h44 ht131; replace hr28 := Tt hr28 ht131
   replace hH : Hp _ _ _ (obC b10 [.string x127.s, Ii x127.at_] 66 :: o_68 v97 x96 :: obC b15 [v97] 27 :: obC b1 [v43] 27 :: []) := hH130
   obtain rfl := Oi h48
   refine V_end (fun a ha132 => ?_)
   replace hH : Hp w.heap.size A129 w128 (obC b1 [v43] 27 :: obC b10 [.string x127.s, Ii x127.at_] 66 :: o_68 v97 x96 :: obC b15 [v97] 27 :: []) := Hp.front hH (i := 3) rfl
   replace hH : Hp w.heap.size A129 w128 (obC b15 [v97] 27 :: obC b1 [v43] 27 :: obC b10 [.string x127.s, Ii x127.at_] 66 :: o_68 v97 x96 :: []) := Hp.front hH (i := 3) rfl
   replace hH : Hp w.heap.size A129 w128 (obC b10 [.string x127.s, Ii x127.at_] 66 :: obC b15 [v97] 27 :: obC b1 [v43] 27 :: o_68 v97 x96 :: []) := Hp.front hH (i := 2) rfl
   replace hH : Hp w.heap.size A129 w128 (o_68 v97 x96 :: obC b10 [.string x127.s, Ii x127.at_] 66 :: obC b15 [v97] 27 :: obC b1 [v43] 27 :: []) := Hp.front hH (i := 3) rfl
   exact ⟨(x127, (⟨x96⟩ : know_Query), s39.2.2), h49, ⟨(v97, v43, A129), ha132.sb, ⟨h44, hH, hr28⟩⟩⟩
  rw [if_neg (nt hc54)] at h48
  obtain rfl := Oi h48
  refine C_exit (fun a ha133 => ?_)
  exact ⟨((s39.1, s39.2.1, s39.2.2), v41, v43, A45), ha133.sb, ⟨h49.symm, h44, hH, hr28⟩⟩
 rintro ⟨s27, v33, v35, A37⟩ w30 ⟨rfl, h36, hH38, hk31⟩ a ha32
 rw [Lp.andThen_fin] at hm
 replace hK := Tr.trans hK hk31; replace hB := Nat.le_trans hB hk31.ex.size; replace hA := hk31.new
 replace hH : Hp _ _ _ (o_68 v33 s27.2.1.parts :: obC b10 [.string s27.1.s, Ii s27.1.at_] 66 :: obC b15 [v33] 27 :: obC b1 [v35] 27 :: []) := hH38
 refine C_at (n := ⟨66, [], none⟩) (fun _ _ => rfl) ?_ ha32
 refine C_seq (Sr (Vy (Y_fieldAddrC (off2 := 0) underlying27 rfl sizeOf25 (by decide) rfl rfl) (Ld (Hp.cell (j := 0) hH (i := 2) rfl rfl) isAgg25 (Vy (Y_lenSl (Hp.any (α := know_Part) (e := 68) (v := v33) (l := s27.2.1.parts) hH (i := 0) rfl) rfl underlying25 rfl) (Vy (Y_gtr rfl rfl) (To ?_))))))
 refine Cc (fun hc135 => ?_) fun hc135 => ?_
 ·rw [if_pos hc135] at hm
  refine Sr ?_
  refine Vy (Y_build underlying27 zeroValue27 (Tryz_places27 _ underlying27) rfl (by with_unfolding_all rfl)) ?_
  refine V_storeC (Dw := Dw) (off := 0) (ds := [.slice none 0 0]) hH (i := 3) rfl sizeOf27 rfl (Nat.le_of_ble_eq_true rfl) (by exact (List.forall_mem_cons.2 ⟨rfl, (fun _ h => nomatch h)⟩)) rfl hB hA rfl rfl ?_
  intro w136 hH137 ht138
  replace hK := Tt hK ht138
  replace hH : Hp _ _ _ (o_68 v33 s27.2.1.parts :: obC b10 [.string s27.1.s, Ii s27.1.at_] 66 :: obC b15 [v33] 27 :: obC b1 [.slice none 0 0] 27 :: []) := hH137
  refine As (As (To ?_))
  obtain rfl := Oi hm
  refine C_ret ?_
  try simp only [↓ib, ↓th]
  exact retQ rfl (Res.l3 results5 (RL.cell rfl (loadVar_agg (Hp.part (off := 0) (n := 1) (ds := [.slice none 0 0]) hH (i := 3) rfl rfl) isAgg27 sizeOf27)) (RL.tmp rfl) (RL.tmp rfl)) ⟨.slice none 0 0, rfl, Sl.nil, hK.kp⟩
 rw [if_neg (nt hc135)] at hm
 refine Sk ?_
 refine Sr (Vy (Y_loadA (Hp.part (off := 0) (n := 1) (ds := [v33]) hH (i := 2) rfl rfl) isAgg27 sizeOf27 rfl) ?_)
 obtain ⟨A139, ht140, h141, hH142⟩ := Hp.freeze (Dw := Dw) (α := know_Part) (v := v33) (l := s27.2.1.parts) hH (i := 0) rfl hA
 replace hK := Tt hK ht140; replace hB := Bx hB ht140; replace hA := ht140.new
 replace hH : Hp _ _ _ (obC b10 [.string s27.1.s, Ii s27.1.at_] 66 :: obC b15 [v33] 27 :: obC b1 [v35] 27 :: []) := hH142
 have h149 : (v33).oneCell' = true := by obtain ⟨_, _, e, _⟩ := Sl.form h141; rw [e]; rfl
 refine V_storeC (Dw := Dw) (off := 0) (ds := [v33]) hH (i := 2) rfl sizeOf27 rfl (Nat.le_of_ble_eq_true rfl) (by exact (List.forall_mem_cons.2 ⟨h149, (fun _ h => nomatch h)⟩)) rfl hB hA rfl rfl ?_
 intro w144 hH145 ht146
 replace h141 := Sl.tr h141 ht146; replace hK := Tt hK ht146
 replace hH : Hp _ _ _ (obC b10 [.string s27.1.s, Ii s27.1.at_] 66 :: obC b15 [v33] 27 :: obC b1 [v33] 27 :: []) := hH145
 refine As (As (To ?_))
 obtain rfl := Oi hm
 refine C_ret ?_
 try simp only [↓ib, ↓th]
 exact retQ rfl (Res.l3 results5 (RL.cell rfl (loadVar_agg (Hp.part (off := 0) (n := 1) (ds := [v33]) hH (i := 2) rfl rfl) isAgg27 sizeOf27)) (RL.tmp rfl) (RL.tmp rfl)) ⟨v33, rfl, (Sl.out (Dw := Dw) h141 hA0 hK), hK.kp⟩
theorem know_within_c (w : World) (n : Int) (low : Int) (high : Int) : Ret prog 21 #[Ii n, Ii low, Ii high] w fun v w' => v = .bool (know_within n low high) ∧ w = w' := by
 generalize hm : know_within n low high = r
 unfold know_within at hm
 refine enter func21 rfl ntmps21 rfl ?_
 refine Sr (As (To ?_))
 refine Sr (Mm (Mm (Vy (Y_geq rfl rfl) (Mm ?_))))
 refine V_cut 4 (fun _ : Unit => [(14, .bool ((decide (low ≤ n)) && (decide (n ≤ high))))]) (fun _ w' => w = w') ?_ ?_
 ·simp only [List.take, List.drop]
  rcases Be (decide (low ≤ n)) with hc1 | hc1
  ·refine Gf hc1 (Mm (Gf hc1 (Mm (Gf hc1 (Vy (Y_leq rfl rfl) (Vy (Y_pick_te rfl hc1 rfl) ?_))))))
   exact V_end fun a ha => ⟨(), ha.sub ⟨(by rw [hc1]; rfl), trivial⟩, rfl⟩
  refine Gm hc1 (Gm hc1 (Gm hc1 (Vy (Y_pick_fe rfl hc1 rfl) ?_)))
  exact V_end fun a ha => ⟨(), ha.sub ⟨(by rw [hc1]; rfl), trivial⟩, rfl⟩
 simp only [List.take, List.drop]
 rintro _ _ rfl
 refine As (To ?_)
 obtain rfl := hm
 refine Rt (Res.one results21 rfl) ?_
 exact ⟨rfl, rfl⟩
def Tryz_strings_genSplit_lay_ren : Go.Shelf.Ren := ⟨fun | 138 => 136 | 143 => 137 | 195 => 154 | 197 => 155 | 217 => 77 | 218 => 156 | 219 => 157 | 221 => 114 | 224 => 165 | 225 => 164 | 260 => 163 | 266 => 113 | 267 => 166 | 268 => 135 | 314 => 168 | n => n, fun | 0 => 0 | 1 => 1 | 2 => 2 | 3 => 3 | 4 => 4 | 5 => 5 | 6 => 6 | 7 => 7 | 8 => 8 | 9 => 9 | 10 => 10 | 11 => 11 | 12 => 12 | 13 => 13 | 14 => 14 | 15 => 15 | 16 => 16 | 17 => 17 | 18 => 18 | 19 => 19 | 20 => 20 | 21 => 21 | 22 => 119 | 27 => 132 | 28 => 23 | 29 => 36 | 30 => 74 | 31 => 62 | 34 => 145 | 35 => 198 | 37 => 135 | 41 => 71 | 43 => 95 | 46 => 127 | 47 => 126 | 51 => 165 | 52 => 164 | 53 => 167 | 54 => 166 | 55 => 104 | 61 => 136 | 67 => 117 | 68 => 63 | 69 => 103 | 70 => 149 | 71 => 150 | 72 => 151 | 73 => 152 | 74 => 153 | 75 => 154 | 76 => 155 | 77 => 156 | 80 => 157 | 81 => 227 | 100 => 143 | 103 => 207 | 104 => 212 | 105 => 208 | 106 => 209 | 111 => 77 | 112 => 144 | 113 => 176 | 114 => 214 | 119 => 216 | 127 => 179 | 131 => 108 | 135 => 177 | 137 => 217 | 138 => 218 | 139 => 219 | 146 => 220 | 150 => 192 | 151 => 221 | 164 => 199 | 165 => 200 | 166 => 201 | 182 => 170 | 183 => 171 | 188 => 193 | 189 => 194 | 190 => 195 | 191 => 196 | 192 => 197 | 218 => 186 | 219 => 187 | 220 => 188 | 222 => 190 | 224 => 210 | 225 => 211 | 228 => 204 | 229 => 205 | 231 => 215 | 238 => 222 | 239 => 223 | 240 => 224 | 241 => 225 | 242 => 226 | 243 => 228 | 244 => 229 | 245 => 230 | 246 => 231 | 247 => 232 | 248 => 233 | 249 => 234 | n => n, fun | 1 => 0 | 3 => 1 | 4 => 2 | n => n⟩
theorem Tryz_strings_genSplit_lay : Go.Proofs.Lays.n221 Tryz.prog Tryz_strings_genSplit_lay_ren := {
  mixed := by kernel_rfl,
  f138 := Tryz.func136.trans (congrArg some (by kernel_rfl)),
  f143 := Tryz.func137.trans (congrArg some (by kernel_rfl)),
  f195 := Tryz.func154.trans (congrArg some (by kernel_rfl)),
  f197 := Tryz.func155.trans (congrArg some (by kernel_rfl)),
  f217 := Tryz.func77.trans (congrArg some (by kernel_rfl)),
  f218 := Tryz.func156.trans (congrArg some (by kernel_rfl)),
  f219 := Tryz.func157.trans (congrArg some (by kernel_rfl)),
  f221 := Tryz.func114.trans (congrArg some (by kernel_rfl)),
  f224 := Tryz.func165.trans (congrArg some (by kernel_rfl)),
  f225 := Tryz.func164.trans (congrArg some (by kernel_rfl)),
  f260 := Tryz.func163.trans (congrArg some (by kernel_rfl)),
  f266 := Tryz.func113.trans (congrArg some (by kernel_rfl)),
  f267 := Tryz.func166.trans (congrArg some (by kernel_rfl)),
  f268 := Tryz.func135.trans (congrArg some (by kernel_rfl)),
  f314 := Tryz.func168.trans (congrArg some (by kernel_rfl)),
  t0 := Tryz.underlying0,
  a0 := Tryz.isAgg0,
  z0 := Tryz.sizeOf0,
  v0 := Tryz.zeroValue0,
  t3 := Tryz.underlying3,
  a3 := Tryz.isAgg3,
  z3 := Tryz.sizeOf3,
  v3 := Tryz.zeroValue3,
  t4 := Tryz.underlying4,
  a4 := Tryz.isAgg4,
  z4 := Tryz.sizeOf4,
  v4 := Tryz.zeroValue4,
  t5 := Tryz.underlying5,
  a5 := Tryz.isAgg5,
  z5 := Tryz.sizeOf5,
  v5 := Tryz.zeroValue5,
  t9 := Tryz.underlying9,
  a9 := Tryz.isAgg9,
  z9 := Tryz.sizeOf9,
  v9 := Tryz.zeroValue9,
  t21 := Tryz.underlying21,
  a21 := Tryz.isAgg21,
  z21 := Tryz.sizeOf21,
  v21 := Tryz.zeroValue21,
  t31 := Tryz.underlying62,
  a31 := Tryz.isAgg62,
  z31 := Tryz.sizeOf62,
  v31 := Tryz.zeroValue62,
  t46 := Tryz.underlying127,
  a46 := Tryz.isAgg127,
  z46 := Tryz.sizeOf127,
  v46 := Tryz.zeroValue127,
  t51 := Tryz.underlying165,
  a51 := Tryz.isAgg165,
  z51 := Tryz.sizeOf165,
  v51 := Tryz.zeroValue165,
  t105 := Tryz.underlying208,
  a105 := Tryz.isAgg208,
  z105 := Tryz.sizeOf208,
  v105 := Tryz.zeroValue208,
  t119 := Tryz.underlying216,
  a119 := Tryz.isAgg216,
  z119 := Tryz.sizeOf216,
  t138 := Tryz.underlying218,
  a138 := Tryz.isAgg218,
  z138 := Tryz.sizeOf218,
  v138 := Tryz.zeroValue218,
  t139 := Tryz.underlying219,
  a139 := Tryz.isAgg219,
  z139 := Tryz.sizeOf219,
  v139 := Tryz.zeroValue219,
  t146 := Tryz.underlying220,
  a146 := Tryz.isAgg220,
  z146 := Tryz.sizeOf220,
  v146 := Tryz.zeroValue220,
  g1 := by kernel_rfl,
  g3 := by kernel_rfl,
  g4 := by kernel_rfl }
theorem strings_genSplit_c (w : World) {A : Nat → Prop} (hA : ∀ b, w.heap.size ≤ b → A b) (hT : Mx Tryz.prog 0 A w) (s : ByteArray) (sep : ByteArray) (sepSave : Int) (n : Int) {r : List ByteArray} (hm : strings_genSplit s sep sepSave n = some r) : Ret Tryz.prog 114 #[.string s, .string sep, .int .i64 sepSave, .int .i64 n] w fun v w' => ∃ s0, v = s0 ∧ Sl A w' s0 r ∧ Kp Dw w w' := by
  unfold strings_genSplit at hm
  split at hm
  case isFalse => cases hm
  rename_i h
  obtain ⟨h1, h2, h3, h4, rfl⟩ := h
  obtain rfl := Option.some.inj hm
  obtain ⟨⟨m, hmx⟩, _, _⟩ := hT
  obtain ⟨k, rfl⟩ := Int.eq_ofNat_of_zero_le h3
  have hlen := Go.Lib.splitB_length_le sep (k : Int).toNat (min (Go.Lib.countB s sep + 1) (s.size + 1) - 1) s
  refine split_wrap (Dw := Dw) (N := min (Go.Lib.countB s sep + 1) (s.size + 1)) (sv := k) hA (by omega) (by unfold maxLen; omega) (Go.Proofs.Any.strings_genSplit Tryz_strings_genSplit_lay (by kernel_rfl) s sep k (-1) _ m w h1 hmx h2 (by omega) (by decide) (by decide) ?_)
  rw [if_pos (by decide)]
  omega
theorem strings_SplitAfter_c (w : World) {A : Nat → Prop} (hA : ∀ b, w.heap.size ≤ b → A b) (hT : Mx prog 0 A w) (s : ByteArray) (sep : ByteArray) {r : (List ByteArray)} (hm : strings_SplitAfter s sep = some r) : Ret prog 78 #[.string s, .string sep] w fun v w' => ∃ s0, v = s0 ∧ Sl A w' s0 r ∧ Kp Dw w w' := by
 unfold strings_SplitAfter at hm
 refine enter func78 rfl ntmps78 rfl ?_
 have hA0 := hA
 obtain ⟨hB, hK, hH⟩ := St (Dw := Dw) hA
 refine Sr (As (To ?_))
 refine Sr (Mm (Mm (Mm (Vy (Y_lenStr rfl underlying9 rfl) ?_))))
 obtain ⟨x1, hx1, hm⟩ := Bs hm
 refine Vc call114 (strings_genSplit_c (Dw := Dw) w hA (Mx.tr (Dw := Dw) hT hK) s sep (sep.size : Int) (-1) hx1) ?_
 rintro v2 w4 ⟨_, rfl, h3, hk5⟩
 have ht6 := Kp.tr hk5 hA hB; replace hK := Tt hK ht6
 refine As (To ?_)
 obtain rfl := Oi hm
 refine Rt (Res.one results78 rfl) ?_
 exact ⟨v2, rfl, (Sl.out (Dw := Dw) h3 hA0 hK), hK.kp⟩
theorem know_lines_c (w : World) {A : Nat → Prop} (hA : ∀ b, w.heap.size ≤ b → A b) (hT : Mx prog 0 A w) (body : ByteArray) {r : (List ByteArray)} (hm : know_lines body = some r) : Ret prog 47 #[.string body] w fun v w' => ∃ s0, v = s0 ∧ Sl A w' s0 r ∧ Kp Dw w w' := by
 unfold know_lines at hm
 refine enter func47 rfl ntmps47 rfl ?_
 have hA0 := hA
 obtain ⟨hB, hK, hH⟩ := St (Dw := Dw) hA
 refine Sr (As (To ?_))
 refine Sr (Mm ?_)
 obtain ⟨x1, hx1, hm⟩ := Bs hm
 refine Vc call78 (strings_SplitAfter_c (Dw := Dw) w hA (Mx.tr (Dw := Dw) hT hK) body (⟨#[10]⟩ : ByteArray) hx1) ?_
 rintro v2 w4 ⟨_, rfl, h3, hk5⟩
 have ht6 := Kp.tr hk5 hA hB; replace hK := Tt hK ht6
 refine As (To ?_)
 refine C_seq (Sr (Mm (Mm (Vy (Y_lenSl h3 rfl underlying62 rfl) (Vy (Y_subI rfl rfl) ?_)))))
 obtain ⟨x7, hx7, hm⟩ := Bs hm
 refine V_indexAddr h3 hx7 underlying62 sizeOf9 rfl rfl rfl ?_
 intro b8 o9 h10
 refine Ld (El.str h10) isAgg9 (Vy (Y_seql rfl rfl) (To ?_))
 obtain ⟨s12, ho11, hm⟩ := Bs hm
 refine C_cutG (ι := Value) (fun (v14 : Value) => [(3, v14)]) (fun (v14 : Value) => fun w' => Sl A w' v14 s12 ∧ w4 = w') ?_ ?_
 ·refine Cc (fun hc20 => ?_) fun hc20 => ?_
  ·rw [if_pos hc20] at ho11
   refine C_region (Mm (Mm (Vy (Y_lenSl h3 rfl underlying62 rfl) (Vy (Y_subI rfl rfl) ?_))))
   obtain ⟨x21, hx21, ho11⟩ := Bs ho11
   obtain ⟨v22, h23, h23y⟩ := sliceL_val hx21 h3
   refine Vy (Y_sliceLH h23y underlying62 sizeOf9 rfl rfl) (As ?_)
   obtain rfl := Oi ho11
   refine V_end (fun a ha24 => ?_)
   exact ⟨v22, ha24.sb, ⟨h23, rfl⟩⟩
  rw [if_neg (nt hc20)] at ho11
  obtain rfl := Oi ho11
  refine C_skip (fun a ha25 => ?_)
  exact ⟨v2, ha25.sb, ⟨h3, rfl⟩⟩
 rintro v14 _ ⟨h15, rfl⟩ a ha19
 refine C_at (n := ⟨19, [], none⟩) (fun _ _ => rfl) ?_ ha19
 refine Sr (Mm (As (To ?_)))
 obtain rfl := Oi hm
 refine Rt (Res.one results47 rfl) ?_
 exact ⟨v14, rfl, (Sl.out (Dw := Dw) h15 hA0 hK), hK.kp⟩
theorem know_plain_c (w : World) (s : ByteArray) (feeds : Bool) {r : Bool} (hm : know_plain s feeds = some r) : Ret prog 79 #[.string s, .bool feeds] w fun v w' => v = .bool r ∧ w = w' := by
 unfold know_plain at hm
 refine enter func79 rfl ntmps79 rfl ?_
 refine Sr (As (To ?_))
 refine C_seq (Sr (Mm (Vy (Y_lenStr rfl underlying9 rfl) (Mm (To ?_)))))
 obtain ⟨o1, ho1, hm⟩ := Bs hm
 refine C_cutG (ι := Int) (fun (s2 : Int) => []) (fun (s2 : Int) => fun w' => o1 = .fin s2 ∧ w = w') ?_ ?_
 ·refine C_block ?_
  refine C_while ho1 (fun s8 a w' => ∃ i : Unit, Has ⟨32, [], none⟩ a ([(0, .string s), (1, .bool feeds), (7, Ii (s.size : Int)), (8, Ii s8)]) ∧ w = w') (fun a ha => ⟨(), ha.sb, rfl⟩) ?_
  rintro K s8 a _ ⟨_, ha28, rfl⟩ K16
  refine C_of ?_ ha28
  obtain ⟨x10, h11, h12⟩ := K16
  refine Sr (Vy (Y_lss rfl rfl) (To ?_))
  refine C_seq ?_
  refine Cc (fun hc17 => ?_) fun hc17 => ?_
  ·rw [if_pos hc17] at h11
   refine Sk ?_
   refine C_seq (C_block (Sr (Mm (As (To ?_)))))
   refine Sr (Mm (Mm ?_))
   obtain ⟨x18, hx18, h11⟩ := Bs h11
   refine Vy (Y_indexS hx18 underlying9 rfl rfl) (Vy (Y_lss rfl rfl) (Mm ?_))
   obtain ⟨s20, hs20, h11⟩ := Bs h11
   refine V_cut 5 (fun _ : Unit => [(0, .string s), (1, .bool feeds), (5, Ii s8), (7, Ii (s.size : Int)), (8, Ii s8), (20, .bool s20)]) (fun _ w' => w = w') ?_ ?_
   ·simp only [List.take, List.drop]
    rcases Be (decide ((x18.toNat : Int) < 32)) with hc19 | hc19
    ·rw [if_pos hc19] at hs20
     refine Gm hc19 (Gm hc19 (Gm hc19 (Gm hc19 (Vy (Y_pick_te rfl hc19 rfl) ?_))))
     obtain rfl := Oi hs20
     exact V_end fun a ha => ⟨(), ha.sb, rfl⟩
    rw [if_neg (nt hc19)] at hs20
    refine Gf hc19 (Mm (Gf hc19 (Mm (Gf hc19 (Vy (Y_indexS hx18 underlying9 rfl rfl) (Gf hc19 (Vy (Y_eql rfl rfl) (Vy (Y_pick_fe rfl hc19 rfl) ?_))))))))
    obtain rfl := Oi hs20
    exact V_end fun a ha => ⟨(), ha.sb, rfl⟩
   simp only [List.take, List.drop]
   rintro _ _ rfl
   refine Mm ?_
   obtain ⟨s22, hs22, h11⟩ := Bs h11
   refine V_cut 9 (fun _ : Unit => [(0, .string s), (1, .bool feeds), (7, Ii (s.size : Int)), (8, Ii s8), (30, .bool s22)]) (fun _ w' => w = w') ?_ ?_
   ·simp only [List.take, List.drop]
    rcases Be (s20) with hc21 | hc21
    ·rw [if_pos hc21] at hs22
     refine Gf hc21 (Mm (Gf hc21 (Mm (Gf hc21 (Vy (Y_indexS hx18 underlying9 rfl rfl) (Gf hc21 (Vy (Y_neq rfl rfl) (Gf hc21 (Mm ?_)))))))))
     refine V_cut 3 (fun _ : Unit => [(0, .string s), (1, .bool feeds), (7, Ii (s.size : Int)), (8, Ii s8), (21, .bool s20), (29, .bool (((x18.toNat : Int) != 10) || (!feeds)))]) (fun _ w' => w = w') ?_ ?_
     ·simp only [List.take, List.drop]
      rcases Be ((x18.toNat : Int) != 10) with hc23 | hc23
      ·refine Gm hc23 (Gm hc23 (Gf hc21 (Vy (Y_pick_te rfl hc23 rfl) ?_)))
       exact V_end fun a ha => ⟨(), ha.sub ⟨rfl, rfl, rfl, rfl, rfl, (by rw [hc23]; rfl), trivial⟩, rfl⟩
      refine Gf hc23 (Mm (Gf hc23 (Vy (Y_not rfl) (Gf hc21 (Vy (Y_pick_fe rfl hc23 rfl) ?_)))))
      exact V_end fun a ha => ⟨(), ha.sub ⟨rfl, rfl, rfl, rfl, rfl, (by rw [hc23]; rfl), trivial⟩, rfl⟩
     simp only [List.take, List.drop]
     rintro _ _ rfl
     refine Vy (Y_pick_te rfl hc21 rfl) ?_
     obtain rfl := Oi hs22
     exact V_end fun a ha => ⟨(), ha.sb, rfl⟩
    rw [if_neg (nt hc21)] at hs22
    refine Gm hc21 (Gm hc21 (Gm hc21 (Gm hc21 (Gm hc21 ?_))))
    refine V_gu rfl rfl rfl rfl rfl ?_
    refine V_gu rfl rfl rfl rfl rfl ?_
    refine Gm hc21 (Vy (Y_pick_fe rfl hc21 rfl) ?_)
    obtain rfl := Oi hs22
    exact V_end fun a ha => ⟨(), ha.sb, rfl⟩
   simp only [List.take, List.drop]
   rintro _ _ rfl
   refine To ?_
   refine Cc (fun hc25 => ?_) fun hc25 => ?_
   ·rw [if_pos hc25] at h11
    refine Sr (As (To ?_))
    obtain rfl := Oi h11
    obtain rfl := (h12 : Lp.rt _ = _)
    rw [Lp.andThen_rt] at hm
    obtain rfl := Oi hm
    refine Rt (Res.one results79 rfl) ?_
    exact ⟨rfl, rfl⟩
   rw [if_neg (nt hc25)] at h11
   refine Sk ?_
   refine C_region (Vy (Y_addI rfl rfl) (Mm ?_))
   obtain rfl := Oi h11
   refine V_end (fun a ha26 => ?_)
   exact ⟨w64 (s8 + 1), h12, ⟨(), ha26.sb, rfl⟩⟩
  rw [if_neg (nt hc17)] at h11
  obtain rfl := Oi h11
  refine C_exit (fun a ha27 => ?_)
  exact ⟨s8, ha27.sub trivial, ⟨h12.symm, rfl⟩⟩
 rintro s2 _ ⟨rfl, rfl⟩ a ha7
 rw [Lp.andThen_fin] at hm
 refine C_at (n := ⟨32, [], none⟩) (fun _ _ => rfl) ?_ ha7
 refine Sr (As (To ?_))
 obtain rfl := Oi hm
 refine Rt (Res.one results79 rfl) ?_
 exact ⟨rfl, rfl⟩
theorem know_checkText_c (w : World) (title : ByteArray) (body : ByteArray) {r : Int} (hm : know_checkText title body = some r) : Ret prog 48 #[.string title, .string body] w fun v w' => v = Ii r ∧ w = w' := by
 unfold know_checkText at hm
 refine enter func48 rfl ntmps48 rfl ?_
 refine Sr (As (To ?_))
 refine C_seq (Sr (Mm (Vy (Y_lenStr rfl underlying9 rfl) (Vy (Y_gtr rfl rfl) (Mm ?_)))))
 refine V_cut 4 (fun _ : Unit => [(0, .string title), (1, .string body), (12, .bool ((decide ((200 : Int) < (title.size : Int))) || (decide ((20000 : Int) < (body.size : Int)))))]) (fun _ w' => w = w') ?_ ?_
 ·simp only [List.take, List.drop]
  rcases Be (decide ((200 : Int) < (title.size : Int))) with hc1 | hc1
  ·refine Gm hc1 (Gm hc1 (Gm hc1 (Vy (Y_pick_te rfl hc1 rfl) ?_)))
   exact V_end fun a ha => ⟨(), ha.sub ⟨rfl, rfl, (by rw [hc1]; rfl), trivial⟩, rfl⟩
  refine Gf hc1 (Mm (Gf hc1 (Vy (Y_lenStr rfl underlying9 rfl) (Gf hc1 (Vy (Y_gtr rfl rfl) (Vy (Y_pick_fe rfl hc1 rfl) ?_))))))
  exact V_end fun a ha => ⟨(), ha.sub ⟨rfl, rfl, (by rw [hc1]; rfl), trivial⟩, rfl⟩
 simp only [List.take, List.drop]
 rintro _ _ rfl
 refine To ?_
 refine Cc (fun hc3 => ?_) fun hc3 => ?_
 ·rw [if_pos hc3] at hm
  refine Sr (As (To ?_))
  obtain rfl := Oi hm
  refine Rt (Res.one results48 rfl) ?_
  exact ⟨rfl, rfl⟩
 rw [if_neg (nt hc3)] at hm
 refine Sk ?_
 refine C_seq (Sr (Mm ?_))
 obtain ⟨x4, hx4, hm⟩ := Bs hm
 refine Vc call79 (know_plain_c w title false hx4) ?_
 rintro _ _ ⟨rfl, rfl⟩
 refine Vy (Y_not rfl) (Mm ?_)
 obtain ⟨s6, hs6, hm⟩ := Bs hm
 refine V_cut 4 (fun _ : Unit => [(20, .bool s6)]) (fun _ w' => w = w') ?_ ?_
 ·simp only [List.take, List.drop]
  rcases Be (!x4) with hc5 | hc5
  ·rw [if_pos hc5] at hs6
   refine Gm hc5 (Gm hc5 (Gm hc5 (Vy (Y_pick_te rfl hc5 rfl) ?_)))
   obtain rfl := Oi hs6
   exact V_end fun a ha => ⟨(), ha.sb, rfl⟩
  rw [if_neg (nt hc5)] at hs6
  refine Gf hc5 (Mm (Gf hc5 ?_))
  obtain ⟨x7, hx7, hs6⟩ := Bs hs6
  refine Vc call79 (know_plain_c w body true hx7) ?_
  rintro _ _ ⟨rfl, rfl⟩
  refine Gf hc5 (Vy (Y_not rfl) (Vy (Y_pick_fe rfl hc5 rfl) ?_))
  obtain rfl := Oi hs6
  exact V_end fun a ha => ⟨(), ha.sb, rfl⟩
 simp only [List.take, List.drop]
 rintro _ _ rfl
 refine To ?_
 refine Cc (fun hc8 => ?_) fun hc8 => ?_
 ·rw [if_pos hc8] at hm
  refine Sr (As (To ?_))
  obtain rfl := Oi hm
  refine Rt (Res.one results48 rfl) ?_
  exact ⟨rfl, rfl⟩
 rw [if_neg (nt hc8)] at hm
 refine Sk ?_
 refine Sr (As (To ?_))
 obtain rfl := Oi hm
 refine Rt (Res.one results48 rfl) ?_
 exact ⟨rfl, rfl⟩
theorem know_checkVersion_c (w : World) {A : Nat → Prop} (hA : ∀ b, w.heap.size ≤ b → A b) (hT : Mx prog 0 A w) (v : know_Version) (before : Int) {r : Int} (hm : know_checkVersion v before = some r) : Ret prog 22 #[.agg #[Ii v.at_, .string v.title, .string v.body], Ii before] w fun v w' => v = Ii r ∧ Kp Dw w w' := by
 unfold know_checkVersion at hm
 refine enter func22 rfl ntmps22 rfl ?_
 have hA0 := hA
 obtain ⟨hB, hK, hH⟩ := St (Dw := Dw) hA
 refine Sr ?_
 refine V_box rfl rfl ?_
 intro b1 w2 h3
 have hk5 := h3.kp (Dw := Dw)
 have h4 : El (α := know_Version) A w2 b1 0 v := h3.el hA ⟨[Ii v.at_], _, rfl, rfl, ⟨[.string v.title], _, rfl, rfl, rfl⟩⟩
 have ht6 := Kp.tr hk5 hA hB; replace hH := Hp.kp hH hk5; replace hK := Tt hK ht6; replace hB := Bx hB ht6; replace hA := ht6.new
 refine As (To ?_)
 refine C_seq (C_block (Sr ?_))
 have h7 := El_know_Version_0 h4
 refine Fa underlying38 rfl sizeOf3 (Li h7 isAgg3 ?_)
 refine Vc call21 (know_within_c w2 v.at_ 0 3000000) ?_
 rintro _ _ ⟨rfl, rfl⟩
 refine Vy (Y_not rfl) (As (To ?_))
 refine Cc (fun hc8 => ?_) fun hc8 => ?_
 ·rw [if_pos hc8] at hm
  refine Sr (As (To ?_))
  obtain rfl := Oi hm
  refine Rt (Res.one results22 rfl) ?_
  exact ⟨rfl, hK.kp⟩
 rw [if_neg (nt hc8)] at hm
 refine Sr ?_
 have h9 := El_know_Version_0 h4
 refine Fa underlying38 rfl sizeOf3 (Li h9 isAgg3 (Mm (Vy (Y_lss rfl rfl) (As (To ?_)))))
 refine Cc (fun hc10 => ?_) fun hc10 => ?_
 ·rw [if_pos hc10] at hm
  refine Sr (As (To ?_))
  obtain rfl := Oi hm
  refine Rt (Res.one results22 rfl) ?_
  exact ⟨rfl, hK.kp⟩
 rw [if_neg (nt hc10)] at hm
 refine C_seq ?_
 obtain ⟨s12, ho11, hm⟩ := Bs hm
 refine C_cutG (ι := (Nat → Prop)) (fun (A17 : (Nat → Prop)) => [(2, Pt b1), (16, .bool s12)]) (fun (A17 : (Nat → Prop)) => fun w' => Hp w.heap.size A17 w' ([]) ∧ Tr Dw w.heap.size A w2 A17 w') ?_ ?_
 ·have hr13 : Tr Dw w.heap.size A w2 A w2 := Tr.refl (Dw := Dw) hA
  refine C_region ?_
  have h19 := El_know_Version_2 h4
  refine Fa underlying38 rfl sizeOf9 (Ld (El.str h19) isAgg9 (Vy (Y_lenStr rfl underlying9 rfl) (Vy (Y_leq rfl rfl) (Mm ?_))))
  rcases Be (decide ((v.body.size : Int) ≤ 20000)) with hc20 | hc20
  ·rw [if_pos hc20] at ho11
   refine Gf hc20 ?_
   have h21 := El_know_Version_2 h4
   refine Fa underlying38 rfl sizeOf9 (Gf hc20 (Ld (El.str h21) isAgg9 (Gf hc20 ?_)))
   obtain ⟨x22, hx22, ho11⟩ := Bs ho11
   refine Vc call47 (know_lines_c (Dw := Dw) w2 hA (Mx.tr (Dw := Dw) hT hK) v.body hx22) ?_
   rintro v23 w25 ⟨_, rfl, h24, hk26⟩
   have ht27 := Kp.tr hk26 hA hB; replace hH := Hp.kp hH hk26; replace hr13 := Tt hr13 ht27
   refine Gf hc20 (Vy (Y_lenSl h24 rfl underlying62 rfl) (Gf hc20 (Vy (Y_gtr rfl rfl) (Vy (Y_pick_te rfl hc20 rfl) (As ?_)))))
   obtain rfl := Oi ho11
   refine V_end (fun a ha28 => ?_)
   exact ⟨A, ha28.sb, ⟨hH, hr13⟩⟩
  rw [if_neg (nt hc20)] at ho11
  refine Gm hc20 (Gm hc20 (Gm hc20 (Gm hc20 (Gm hc20 (Vy (Y_pick_fe rfl hc20 rfl) (As ?_))))))
  obtain rfl := Oi ho11
  refine V_end (fun a ha29 => ?_)
  exact ⟨A, ha29.sb, ⟨hH, hr13⟩⟩
 rintro A17 w14 ⟨hH18, hk15⟩ a ha16
 replace h4 := El.tr h4 hk15; replace hK := Tr.trans hK hk15; replace hA := hk15.new; replace hH := hH18
 refine C_at (n := ⟨44, [], none⟩) (fun _ _ => rfl) ?_ ha16
 refine Cc (fun hc30 => ?_) fun hc30 => ?_
 ·rw [if_pos hc30] at hm
  refine Sr (As (To ?_))
  obtain rfl := Oi hm
  refine Rt (Res.one results22 rfl) ?_
  exact ⟨rfl, hK.kp⟩
 rw [if_neg (nt hc30)] at hm
 refine Sk ?_
 refine C_seq (Sr ?_)
 have h31 := El_know_Version_1 h4
 refine Fa underlying38 rfl sizeOf9 (Ld (El.str h31) isAgg9 ?_)
 have h32 := El_know_Version_2 h4
 refine Fa underlying38 rfl sizeOf9 (Ld (El.str h32) isAgg9 ?_)
 obtain ⟨x33, hx33, hm⟩ := Bs hm
 refine Vc call48 (know_checkText_c w14 v.title v.body hx33) ?_
 rintro _ _ ⟨rfl, rfl⟩
 refine As (To ?_)
 refine Sr (Mm (Vy (Y_neq rfl rfl) (To ?_)))
 refine Cc (fun hc34 => ?_) fun hc34 => ?_
 ·rw [if_pos hc34] at hm
  refine Sr (Mm (As (To ?_)))
  obtain rfl := Oi hm
  refine Rt (Res.one results22 rfl) ?_
  exact ⟨rfl, hK.kp⟩
 rw [if_neg (nt hc34)] at hm
 refine Sk ?_
 refine C_seq (Sr ?_)
 have h35 := El_know_Version_1 h4
 refine Fa underlying38 rfl sizeOf9 (Ld (El.str h35) isAgg9 (Vy (Y_seql rfl rfl) (Mm ?_)))
 refine V_cut 4 (fun _ : Unit => [(43, .bool ((strEq v.title (⟨#[]⟩ : ByteArray)) && (!(strEq v.body (⟨#[]⟩ : ByteArray)))))]) (fun _ w' => w14 = w') ?_ ?_
 ·simp only [List.take, List.drop]
  rcases Be (strEq v.title (⟨#[]⟩ : ByteArray)) with hc36 | hc36
  ·refine Gf hc36 ?_
   have h38 := El_know_Version_2 h4
   refine Fa underlying38 rfl sizeOf9 (Gf hc36 (Ld (El.str h38) isAgg9 (Gf hc36 (Vy (Y_sneq rfl rfl) (Vy (Y_pick_te rfl hc36 rfl) ?_)))))
   exact V_end fun a ha => ⟨(), ha.sub ⟨(by rw [hc36]; rfl), trivial⟩, rfl⟩
  refine Gm hc36 (Gm hc36 (Gm hc36 (Vy (Y_pick_fe rfl hc36 rfl) ?_)))
  exact V_end fun a ha => ⟨(), ha.sub ⟨(by rw [hc36]; rfl), trivial⟩, rfl⟩
 simp only [List.take, List.drop]
 rintro _ _ rfl
 refine To ?_
 refine Cc (fun hc39 => ?_) fun hc39 => ?_
 ·rw [if_pos hc39] at hm
  refine Sr (As (To ?_))
  obtain rfl := Oi hm
  refine Rt (Res.one results22 rfl) ?_
  exact ⟨rfl, hK.kp⟩
 rw [if_neg (nt hc39)] at hm
 refine Sk ?_
 refine Sr (As (To ?_))
 obtain rfl := Oi hm
 refine Rt (Res.one results22 rfl) ?_
 exact ⟨rfl, hK.kp⟩
theorem know_CheckArticles_c (w : World) {A : Nat → Prop} (hA : ∀ b, w.heap.size ≤ b → A b) (hT : Mx prog 0 A w) (l : (List know_Article)) (v_l : Value) (h_l : Sl A w v_l l) {r : Int} (hm : know_CheckArticles l = some r) : Ret prog 6 #[v_l] w fun v w' => v = Ii r ∧ Kp Dw w w' := by
 unfold know_CheckArticles at hm
 refine enter func6 rfl ntmps6 rfl ?_
 have hA0 := hA
 obtain ⟨hB, hK, hH⟩ := St (Dw := Dw) hA
 refine Sr (As (To ?_))
 refine C_seq (Sr (Mm (Vy (Y_lenSl h_l rfl underlying22 rfl) (Vy (Y_gtr rfl rfl) (To ?_)))))
 refine Cc (fun hc3 => ?_) fun hc3 => ?_
 ·rw [if_pos hc3] at hm
  refine Sr (As (To ?_))
  obtain rfl := Oi hm
  refine Rt (Res.one results6 rfl) ?_
  exact ⟨rfl, hK.kp⟩
 rw [if_neg (nt hc3)] at hm
 refine Sk ?_
 refine C_seq (Sr (Mm (Vy (Y_lenSl h_l rfl underlying22 rfl) (Mm (To ?_)))))
 have hn25 := Sl.le h_l
 obtain ⟨o4, ho4, hm⟩ := Bs hm
 refine C_cutG (ι := (Unit × (Nat → Prop))) (fun ⟨s5, A12⟩ => []) (fun ⟨s5, A12⟩ => fun w' => o4 = .fin s5 ∧ Hp w.heap.size A12 w' ([]) ∧ Tr Dw w.heap.size A w A12 w') ?_ ?_
 ·refine C_block ?_
  refine C_range ho4 (fun k7 _ a w' => ∃ i : (Nat → Prop), Has ⟨66, [], none⟩ a ([(0, v_l), (12, v_l), (13, Ii (l.length : Int)), (14, Ii (k7 : Int))]) ∧ Hp w.heap.size i w' ([]) ∧ Tr Dw w.heap.size A w i w') (fun a ha => ⟨A, ha.sb, ⟨hH, Tr.refl (Dw := Dw) hA⟩⟩) ?_
  rintro K k7 _ a w15 ⟨A16, ha126, hH17, hr6⟩ hle21 K24 h23
  refine C_of ?_ ha126
  replace h_l := Sl.tr h_l hr6; replace hK := Tt hK hr6; replace hB := Bx hB hr6; replace hA := hr6.new; replace hH := hH17
  refine Sr (Vy (Y_lss rfl rfl) (To ?_))
  refine C_seq ?_
  refine Cc (fun hc26 => ?_) fun hc26 => ?_
  ·have hlt22 := lt_of_dec hc26
   obtain ⟨x18, h19, h20⟩ := K24 hlt22
   refine Sk ?_
   refine C_seq ?_
   obtain ⟨o27, ho27, h19⟩ := Bs h19
   refine C_cutG (ι := (Unit × (Nat → Prop))) (fun ⟨s28, A33⟩ => [(0, v_l), (12, v_l), (13, Ii (l.length : Int)), (14, Ii (k7 : Int))]) (fun ⟨s28, A33⟩ => fun w' => o27 = .fin s28 ∧ Hp w.heap.size A33 w' ([]) ∧ Tr Dw w.heap.size A16 w15 A33 w') ?_ ?_
   ·have hr29 : Tr Dw w.heap.size A16 w15 A16 w15 := Tr.refl (Dw := Dw) hA
    refine C_block (Sr (Mm ?_))
    obtain ⟨x35, hx35, ho27⟩ := Bs ho27
    refine V_indexAddr h_l hx35 underlying22 sizeOf35 rfl rfl rfl ?_
    intro b36 o37 h38
    obtain ⟨v39, h41, h40⟩ := El_know_Article h38
    refine Vy (Y_loadA h41 isAgg35 sizeOf35 rfl) ?_
    refine V_alloc zeroValue35 rfl ?_
    intro b42 w43 h44
    refine As ?_
    have h49 : (v39).oneCell' = true := by obtain ⟨_, _, e, _⟩ := Sl.form h40; rw [e]; rfl
    refine Sn h44 sizeOf35 ?_
    intro w45 h46
    have hk51 := h46.kp (Dw := Dw)
    have h50 : El (α := know_Article) A16 w45 b42 0 x35 := h46.el hA ⟨[Ii x35.id_], _, rfl, rfl, ⟨[Ii x35.group], _, rfl, rfl, ⟨_, rfl, h40⟩⟩⟩
    have ht52 := Kp.tr hk51 hA hB; replace hH := Hp.kp hH hk51; replace h_l := Sl.tr h_l ht52; replace hK := Tt hK ht52; replace hr29 := Tt hr29 ht52; replace hB := Bx hB ht52; replace hA := ht52.new
    refine To ?_
    refine C_seq (C_block (Sr ?_))
    have h53 := El_know_Article_0 h50
    refine Fa underlying35 rfl sizeOf3 (Li h53 isAgg3 ?_)
    refine Vc call21 (know_within_c w45 x35.id_ 1 3000000) ?_
    rintro _ _ ⟨rfl, rfl⟩
    refine Vy (Y_not rfl) (As (To ?_))
    refine Cc (fun hc54 => ?_) fun hc54 => ?_
    ·rw [if_pos hc54] at ho27
     refine Sr (As (To ?_))
     obtain rfl := Oi ho27
     rw [Lp.andThen_rt] at h19
     obtain rfl := Oi h19
     obtain rfl := (h20 : Lp.rt _ = _)
     rw [Lp.andThen_rt] at hm
     obtain rfl := Oi hm
     refine Rt (Res.one results6 rfl) ?_
     exact ⟨rfl, hK.kp⟩
    rw [if_neg (nt hc54)] at ho27
    refine C_seq ?_
    refine C_region_q (Dw := Dw) Tryz_mixed (by kernel_rfl) ?_
    refine Qm (Qv (fun w' hw' => Y_gtr rfl rfl) (Qm ?_))
    obtain ⟨s56, hs56, ho27⟩ := Bs ho27
    refine VQ_cut 10 (fun _ : Unit => [(0, v_l), (4, Pt b42), (12, v_l), (13, Ii (l.length : Int)), (14, Ii (k7 : Int)), (37, .bool s56)]) (fun _ => True) ?_ ?_
    ·simp only [List.take, List.drop]
     rcases Be (decide ((0 : Int) < (k7 : Int))) with hc55 | hc55
     ·rw [if_pos hc55] at hs56
      refine Qh hc55 ?_
      have h57 := El_know_Article_0 h50
      refine Qf underlying35 rfl sizeOf3 (Qh hc55 (Qi h57 isAgg3 (Qh hc55 (Qm (Qh hc55 (Qm (Qh hc55 (Qv (fun w' hw' => Y_subI rfl rfl) (Qh hc55 ?_)))))))))
      obtain ⟨x58, hx58, hs56⟩ := Bs hs56
      refine VQ_indexAddr h_l hx58 underlying22 sizeOf35 rfl rfl rfl ?_
      intro b59 o60 h61
      refine Qh hc55 ?_
      have h62 := El_know_Article_0 h61
      refine Qf underlying35 rfl sizeOf3 (Qh hc55 (Qi h62 isAgg3 (Qh hc55 (Qv (fun w' hw' => Y_leq rfl rfl) ?_))))
      refine VQ_y (fun _ _ => Y_pick_te rfl hc55 rfl) rfl rfl rfl ?_
      obtain rfl := Oi hs56
      exact VQ_end fun a ha => ⟨(), ha.sb, trivial⟩
     rw [if_neg (nt hc55)] at hs56
     refine Qg hc55 (Qg hc55 (Qg hc55 (Qg hc55 (Qg hc55 (Qg hc55 (Qg hc55 (Qg hc55 (Qg hc55 ?_))))))))
     refine VQ_y (fun _ _ => Y_pick_fe rfl hc55 rfl) rfl rfl rfl ?_
     obtain rfl := Oi hs56
     exact VQ_end fun a ha => ⟨(), ha.sb, trivial⟩
    simp only [List.take, List.drop]
    rintro _ _
    refine Qa ?_
    refine VQ_to (fun _ _ => rfl) (fun w63 hk64 => ?_)
    have ht65 := Kp.tr hk64 hA hB; replace hH := Hp.kp hH hk64; replace h50 := El.tr h50 ht65; replace hK := Tt hK ht65; replace hr29 := Tt hr29 ht65; replace hB := Bx hB ht65; replace hA := ht65.new
    refine Cc (fun hc66 => ?_) fun hc66 => ?_
    ·rw [if_pos hc66] at ho27
     refine Sr (As (To ?_))
     obtain rfl := Oi ho27
     rw [Lp.andThen_rt] at h19
     obtain rfl := Oi h19
     obtain rfl := (h20 : Lp.rt _ = _)
     rw [Lp.andThen_rt] at hm
     obtain rfl := Oi hm
     refine Rt (Res.one results6 rfl) ?_
     exact ⟨rfl, hK.kp⟩
    rw [if_neg (nt hc66)] at ho27
    refine Sr ?_
    have h67 := El_know_Article_1 h50
    refine Fa underlying35 rfl sizeOf3 (Li h67 isAgg3 ?_)
    refine Vc call21 (know_within_c w63 x35.group 0 40) ?_
    rintro _ _ ⟨rfl, rfl⟩
    refine Vy (Y_not rfl) (As (To ?_))
    refine Cc (fun hc68 => ?_) fun hc68 => ?_
    ·rw [if_pos hc68] at ho27
     refine Sr (As (To ?_))
     obtain rfl := Oi ho27
     rw [Lp.andThen_rt] at h19
     obtain rfl := Oi h19
     obtain rfl := (h20 : Lp.rt _ = _)
     rw [Lp.andThen_rt] at hm
     obtain rfl := Oi hm
     refine Rt (Res.one results6 rfl) ?_
     exact ⟨rfl, hK.kp⟩
    rw [if_neg (nt hc68)] at ho27
    refine Sr ?_
    have h69 := El_know_Article_2 h50
    refine Fa underlying35 rfl sizeOf33 ?_
    obtain ⟨v70, h71, h72⟩ := El.list h69
    refine Ld h71 isAgg33 (Vy (Y_lenSl h72 rfl underlying33 rfl) ?_)
    refine Vc call21 (know_within_c w63 (x35.versions.length : Int) 1 40) ?_
    rintro _ _ ⟨rfl, rfl⟩
    refine Vy (Y_not rfl) (As (To ?_))
    refine Cc (fun hc73 => ?_) fun hc73 => ?_
    ·rw [if_pos hc73] at ho27
     refine Sr (As (To ?_))
     obtain rfl := Oi ho27
     rw [Lp.andThen_rt] at h19
     obtain rfl := Oi h19
     obtain rfl := (h20 : Lp.rt _ = _)
     rw [Lp.andThen_rt] at hm
     obtain rfl := Oi hm
     refine Rt (Res.one results6 rfl) ?_
     exact ⟨rfl, hK.kp⟩
    rw [if_neg (nt hc73)] at ho27
    refine Sk ?_
    refine Sr (As (To ?_))
    refine Sr ?_
    have h74 := El_know_Article_2 h50
    refine Fa underlying35 rfl sizeOf33 ?_
    obtain ⟨v75, h76, h77⟩ := El.list h74
    refine Ld h76 isAgg33 (Vy (Y_lenSl h77 rfl underlying33 rfl) (Mm (To ?_)))
    have hn98 := Sl.le h77
    obtain ⟨o78, ho78, ho27⟩ := Bs ho27
    refine C_cutG (ι := (Int × (Nat → Prop))) (fun ⟨s79, A85⟩ => [(0, v_l), (12, v_l), (13, Ii (l.length : Int)), (14, Ii (k7 : Int))]) (fun ⟨s79, A85⟩ => fun w' => o78 = .fin s79 ∧ Hp w.heap.size A85 w' ([]) ∧ Tr Dw w.heap.size A16 w63 A85 w') ?_ ?_
    ·refine C_block ?_
     refine C_range ho78 (fun k81 s87 a w' => ∃ i : (Nat → Prop), Has ⟨66, [], none⟩ a ([(0, v_l), (5, Ii s87), (12, v_l), (13, Ii (l.length : Int)), (14, Ii (k7 : Int)), (50, v75), (51, Ii (x35.versions.length : Int)), (52, Ii (k81 : Int))]) ∧ Hp w.heap.size i w' ([]) ∧ Tr Dw w.heap.size A16 w63 i w') (fun a ha => ⟨A16, ha.sb, ⟨hH, Tr.refl (Dw := Dw) hA⟩⟩) ?_
     rintro K k81 s87 a w88 ⟨A89, ha122, hH90, hr80⟩ hle94 K97 h96
     refine C_of ?_ ha122
     replace h77 := Sl.tr h77 hr80; replace hK := Tt hK hr80; replace hB := Bx hB hr80; replace hA := hr80.new; replace hH := hH90
     refine Sr (Vy (Y_lss rfl rfl) (To ?_))
     refine C_seq ?_
     refine Cc (fun hc99 => ?_) fun hc99 => ?_
     ·have hlt95 := lt_of_dec hc99
      obtain ⟨x91, h92, h93⟩ := K97 hlt95
      refine Sk ?_
      refine C_seq (C_block (Sr ?_))
      obtain ⟨x100, hx100, h92⟩ := Bs h92
      refine V_indexAddr h77 hx100 underlying33 sizeOf38 rfl rfl rfl ?_
      intro b101 o102 h103
      obtain ⟨h104, _⟩ := El_know_Version h103
      refine Vy (Y_loadA h104 isAgg38 sizeOf38 rfl) ?_
      refine V_alloc zeroValue38 rfl ?_
      intro b105 w106 h107
      refine Sn h107 sizeOf38 ?_
      intro w108 h109
      have hk111 := h109.kp (Dw := Dw)
      have h110 : El (α := know_Version) A89 w108 b105 0 x100 := h109.el hA ⟨[Ii x100.at_], _, rfl, rfl, ⟨[.string x100.title], _, rfl, rfl, rfl⟩⟩
      have ht112 := Kp.tr hk111 hA hB; replace hH := Hp.kp hH hk111; replace hK := Tt hK ht112; replace hr80 := Tt hr80 ht112; replace hB := Bx hB ht112; replace hA := ht112.new
      refine To ?_
      refine C_seq (Sr ?_)
      obtain ⟨h113, _⟩ := El_know_Version h110
      refine Vy (Y_loadA h113 isAgg38 sizeOf38 rfl) (Mm ?_)
      obtain ⟨x114, hx114, h92⟩ := Bs h92
      refine Vc call22 (know_checkVersion_c (Dw := Dw) w108 hA (Mx.tr (Dw := Dw) hT hK) x100 s87 hx114) ?_
      rintro _ w115 ⟨rfl, hk116⟩
      have ht117 := Kp.tr hk116 hA hB; replace hH := Hp.kp hH hk116; replace h110 := El.tr h110 ht117; replace hK := Tt hK ht117; replace hr80 := Tt hr80 ht117
      refine As (To ?_)
      refine Sr (Mm (Vy (Y_neq rfl rfl) (To ?_)))
      refine Cc (fun hc118 => ?_) fun hc118 => ?_
      ·rw [if_pos hc118] at h92
       refine Sr (Mm (As (To ?_)))
       obtain rfl := Oi h92
       obtain rfl := (h93 : Lp.rt _ = _)
       rw [Lp.andThen_rt] at ho27
       obtain rfl := Oi ho27
       rw [Lp.andThen_rt] at h19
       obtain rfl := Oi h19
       obtain rfl := (h20 : Lp.rt _ = _)
       rw [Lp.andThen_rt] at hm
       obtain rfl := Oi hm
       refine Rt (Res.one results6 rfl) ?_
       exact ⟨rfl, hK.kp⟩
      rw [if_neg (nt hc118)] at h92
      refine Sk ?_
      refine C_region ?_
      have h119 := El_know_Version_0 h110
      refine Fa underlying38 rfl sizeOf3 (Li h119 isAgg3 (As (To ?_)))
      refine C_region (Vy (Y_addI rfl rfl) (Mm ?_))
      obtain rfl := Oi h92
      refine V_end (fun a ha120 => ?_)
      exact ⟨x100.at_, hlt95, h93, ⟨A89, ha120.sub ⟨rfl, rfl, rfl, rfl, rfl, rfl, rfl, Ws hlt95 hn98, trivial⟩, ⟨hH, hr80⟩⟩⟩
     refine C_exit (fun a ha121 => ?_)
     exact ⟨(s87, A89), ha121.sb, ⟨(h96 (eq_of_dec hle94 hc99)).symm, hH, hr80⟩⟩
    rintro ⟨s79, A85⟩ w82 ⟨rfl, hH86, hk83⟩ a ha84
    rw [Lp.andThen_fin] at ho27
    replace hr29 := Tr.trans hr29 hk83; replace hA := hk83.new; replace hH := hH86
    obtain rfl := Oi ho27
    exact ⟨((), A85), ha84.sb, ⟨rfl, hH, hr29⟩⟩
   rintro ⟨s28, A33⟩ w30 ⟨rfl, hH34, hk31⟩ a ha32
   rw [Lp.andThen_fin] at h19
   replace hr6 := Tr.trans hr6 hk31; replace hA := hk31.new; replace hH := hH34
   refine C_at (n := ⟨66, [], none⟩) (fun _ _ => rfl) ?_ ha32
   refine C_region (Vy (Y_addI rfl rfl) (Mm ?_))
   obtain rfl := Oi h19
   refine V_end (fun a ha124 => ?_)
   exact ⟨(), hlt22, h20, ⟨A33, ha124.sub ⟨rfl, rfl, rfl, Ws hlt22 hn25, trivial⟩, ⟨hH, hr6⟩⟩⟩
  refine C_exit (fun a ha125 => ?_)
  exact ⟨((), A16), ha125.sub trivial, ⟨(h23 (eq_of_dec hle21 hc26)).symm, hH, hr6⟩⟩
 rintro ⟨s5, A12⟩ w9 ⟨rfl, hH13, hk10⟩ a ha11
 rw [Lp.andThen_fin] at hm
 replace hK := Tr.trans hK hk10; replace hA := hk10.new; replace hH := hH13
 refine C_at (n := ⟨66, [], none⟩) (fun _ _ => rfl) ?_ ha11
 refine Sr (As (To ?_))
 obtain rfl := Oi hm
 refine Rt (Res.one results6 rfl) ?_
 exact ⟨rfl, hK.kp⟩
theorem slices_Clone_Lknow_Article_know_Article_c (w : World) {A : Nat → Prop} {B : Nat} (hB : B ≤ w.heap.size) (hA : ∀ b, w.heap.size ≤ b → A b) (s : (List know_Article)) (v_s : Value) (h_s : Sl A w v_s s) {L : List Ob} (hH : Hp B A w (L)) {r : (List know_Article)} (hm : slices_Clone_Lknow_Article_know_Article s = some r) : Ret prog 7 #[v_s] w fun v w' => ∃ s0, ∃ A1 : Nat → Prop, v = s0 ∧ Hp B A1 w' (o_35 s0 r :: L) ∧ Tr Dw B A w A1 w' := by
 unfold slices_Clone_Lknow_Article_know_Article at hm
 refine enter func7 rfl ntmps7 rfl ?_
 have hK : Tr Dw B A w A w := Tr.refl (Dw := Dw) hA
 rcases Sl.split h_s with ⟨rfl, rfl⟩ | ⟨a0, n0, c0, rfl⟩
 ·replace hm : some ([] : (List know_Article)) = some r := by simpa [appendL] using hm
  refine Sr (As (To ?_))
  refine C_seq (Sr (Mm (Vy (Y_eqlNilT rfl rfl underlying22) (To ?_))))
  refine Cc (fun hc => ?_) fun hc => ?_
  ·refine Sr (As (To ?_))
   obtain rfl := Oi hm
   replace hH : Hp B A w (o_35 (.slice none 0 0) ([] : (List know_Article)) :: L) := Hp.addNil (α := know_Article) (e := 35) hH
   refine Rt (Res.one results7 rfl) ?_
   exact ⟨.slice none 0 0, A, rfl, hH, hK⟩
  exact absurd hc (by decide)
 refine Sr (As (To ?_))
 refine C_seq (Sr (Mm (Vy (Y_eqlNilF rfl rfl underlying22) (To ?_))))
 refine Cc (fun hc => ?_) fun hc => ?_
 ·exact absurd hc (by decide)
 refine Sk ?_
 refine Sr ?_
 refine V_buildOwn0H (Dw := Dw) (α := know_Article) hH underlying22 sizeOf35 hB hA rfl ?_
 intro v3 w4 A5 hH6 ht7
 replace h_s := Sl.tr h_s ht7; replace hK := Tt hK ht7; replace hB := Bx hB ht7; replace hA := ht7.new
 replace hH : Hp _ _ _ (o_35 v3 ([] : List know_Article) :: L) := hH6
 refine Mm ?_
 obtain ⟨x8, hx8, hm⟩ := Bs hm
 refine V_appendH (Dw := Dw) (e := 35) (v := v3) (l := ([] : List know_Article)) (ti := t35) (bytes := 40) (lim := 3518437208883) hH (i := 0) rfl h_s hx8 underlying22 Tryz_info35 rfl rfl rfl rfl (by decide) (by decide) (by decide) hB hA rfl rfl rfl ?_
 intro v9 w10 A11 hH12 ht13
 replace hK := Tt hK ht13
 replace hH : Hp _ _ _ (o_35 v9 x8 :: L) := hH12
 refine As (To ?_)
 obtain rfl := Oi hm
 refine Rt (Res.one results7 rfl) ?_
 exact ⟨v9, A11, rfl, hH, hK⟩
theorem slices_Index_Lint_int_c (w : World) {A : Nat → Prop} (s : (List Int)) (v_s : Value) (h_s : Sl A w v_s s) (v : Int) {r : Int} (hm : slices_Index_Lint_int s v = some r) : Ret prog 23 #[v_s, Ii v] w fun v w' => v = Ii r ∧ w = w' := by
 unfold slices_Index_Lint_int at hm
 refine enter func23 rfl ntmps23 rfl ?_
 refine Sr (As (To ?_))
 refine C_seq (Sr (Mm (Vy (Y_lenSl h_s rfl underlying23 rfl) (Mm (To ?_)))))
 have hn19 := Sl.le h_s
 obtain ⟨o3, ho3, hm⟩ := Bs hm
 refine C_cutG (ι := Unit) (fun (s4 : Unit) => []) (fun (s4 : Unit) => fun w' => o3 = .fin s4 ∧ w = w') ?_ ?_
 ·refine C_block ?_
  refine C_range ho3 (fun k6 _ a w' => ∃ i : Unit, Has ⟨19, [], none⟩ a ([(0, v_s), (1, Ii v), (7, Ii (s.length : Int)), (8, Ii (k6 : Int))]) ∧ w = w') (fun a ha => ⟨(), ha.sb, rfl⟩) ?_
  rintro K k6 _ a _ ⟨_, ha28, rfl⟩ hle15 K18 h17
  refine C_of ?_ ha28
  refine Sr (Vy (Y_lss rfl rfl) (To ?_))
  refine C_seq ?_
  refine Cc (fun hc20 => ?_) fun hc20 => ?_
  ·have hlt16 := lt_of_dec hc20
   obtain ⟨x12, h13, h14⟩ := K18 hlt16
   refine Sk ?_
   refine C_seq (C_block (Sr (Mm (As (To ?_)))))
   refine Sr (Mm (Mm (Mm ?_)))
   obtain ⟨x21, hx21, h13⟩ := Bs h13
   refine V_indexAddr h_s hx21 underlying23 sizeOf3 rfl rfl rfl ?_
   intro b22 o23 h24
   refine Li h24 isAgg3 (Vy (Y_eql rfl rfl) (To ?_))
   refine Cc (fun hc25 => ?_) fun hc25 => ?_
   ·rw [if_pos hc25] at h13
    refine Sr (Mm (As (To ?_)))
    obtain rfl := Oi h13
    obtain rfl := (h14 : Lp.rt _ = _)
    rw [Lp.andThen_rt] at hm
    obtain rfl := Oi hm
    refine Rt (Res.one results23 rfl) ?_
    exact ⟨rfl, rfl⟩
   rw [if_neg (nt hc25)] at h13
   refine Sk ?_
   refine C_region (Vy (Y_addI rfl rfl) (Mm ?_))
   obtain rfl := Oi h13
   refine V_end (fun a ha26 => ?_)
   exact ⟨(), hlt16, h14, ⟨(), ha26.sub ⟨rfl, rfl, rfl, Ws hlt16 hn19, trivial⟩, rfl⟩⟩
  refine C_exit (fun a ha27 => ?_)
  exact ⟨(), ha27.sub trivial, ⟨(h17 (eq_of_dec hle15 hc20)).symm, rfl⟩⟩
 rintro s4 _ ⟨rfl, rfl⟩ a ha9
 rw [Lp.andThen_fin] at hm
 refine C_at (n := ⟨19, [], none⟩) (fun _ _ => rfl) ?_ ha9
 refine Sr (As (To ?_))
 obtain rfl := Oi hm
 refine Rt (Res.one results23 rfl) ?_
 exact ⟨rfl, rfl⟩
theorem slices_Contains_Lint_int_c (w : World) {A : Nat → Prop} (s : (List Int)) (v_s : Value) (h_s : Sl A w v_s s) (v : Int) {r : Bool} (hm : slices_Contains_Lint_int s v = some r) : Ret prog 8 #[v_s, Ii v] w fun v w' => v = .bool r ∧ w = w' := by
 unfold slices_Contains_Lint_int at hm
 refine enter func8 rfl ntmps8 rfl ?_
 refine Sr (As (To ?_))
 refine Sr (Mm (Mm ?_))
 obtain ⟨x3, hx3, hm⟩ := Bs hm
 refine Vc call23 (slices_Index_Lint_int_c w s v_s h_s v hx3) ?_
 rintro _ _ ⟨rfl, rfl⟩
 refine Vy (Y_geq rfl rfl) (As (To ?_))
 obtain rfl := Oi hm
 refine Rt (Res.one results8 rfl) ?_
 exact ⟨rfl, rfl⟩
theorem know_current_c (w : World) {A : Nat → Prop} {B : Nat} (hB : B ≤ w.heap.size) (hA : ∀ b, w.heap.size ≤ b → A b) (l : (List know_Article)) (v_l : Value) (h_l : Sl A w v_l l) (m : Int) (wanted : Int → Option Bool) (wanted_f : FuncId) (wanted_a wanted_c : Array Value) (wanted_call : ∀ (args : Array Value) (w : World), (callFunc wanted_f args).run prog w = .ok (.enter wanted_f args) w) (wanted_spec : ∀ (w1 : World) (A1 : Nat → Prop), Tr Dw B A w A1 w1 → (∀ b, w1.heap.size ≤ b → A1 b) → ∀ (y0 : Int) (r : Bool), wanted y0 = some r → Ret prog wanted_f (wanted_a ++ #[Ii y0] ++ wanted_c) w1 fun v w' => v = .bool r ∧ Kp Dw w1 w') {L : List Ob} (hH : Hp B A w (L)) {r : ((List know_Entry) × (List know_Version))} (hm : know_current l m wanted = some r) : Ret prog 24 #[v_l, Ii m, .func (.func wanted_f) wanted_a wanted_c] w fun v w' => ∃ s0, ∃ s1, ∃ A1 : Nat → Prop, v = .tuple #[s0, s1] ∧ Hp B A1 w' (o_58 s0 r.1 :: o_38 s1 r.2 :: L) ∧ Tr Dw B A w A1 w' := by
 unfold know_current at hm
 refine enter func24 rfl ntmps24 rfl ?_
 have hK : Tr Dw B A w A w := Tr.refl (Dw := Dw) hA
 refine Sr (As (As (To ?_)))
 refine Sr (As (To ?_))
 refine Sr (As (To ?_))
 refine C_seq (Sr (Mm (Vy (Y_lenSl h_l rfl underlying22 rfl) (Mm (To ?_)))))
 replace hH : Hp B A w (o_58 (.slice none 0 0) ([] : (List know_Entry)) :: L) := Hp.addNil (α := know_Entry) (e := 58) hH
 replace hH : Hp B A w (o_38 (.slice none 0 0) ([] : (List know_Version)) :: o_58 (.slice none 0 0) ([] : (List know_Entry)) :: L) := Hp.addNil (α := know_Version) (e := 38) hH
 have hn31 := Sl.le h_l
 obtain ⟨o3, ho3, hm⟩ := Bs hm
 refine C_cutG (ι := (((List know_Entry) × (List know_Version)) × Value × Value × (Nat → Prop))) (fun ⟨s4, v10, v12, A14⟩ => [(8, v10), (9, v12)]) (fun ⟨s4, v10, v12, A14⟩ => fun w' => o3 = .fin s4 ∧ Hp B A14 w' (o_38 v12 s4.2 :: o_58 v10 s4.1 :: L) ∧ Tr Dw B A w A14 w') ?_ ?_
 ·refine C_block ?_
  refine C_range ho3 (fun k6 s16 a w' => ∃ i : (Value × Value × (Nat → Prop)), Has ⟨76, [], none⟩ a ([(1, Ii m), (2, .func (.func wanted_f) wanted_a wanted_c), (8, i.1), (9, i.2.1), (16, v_l), (17, Ii (l.length : Int)), (18, Ii (k6 : Int))]) ∧ Hp B i.2.2 w' (o_38 i.2.1 s16.2 :: o_58 i.1 s16.1 :: L) ∧ Tr Dw B A w i.2.2 w') (fun a ha => ⟨(.slice none 0 0, .slice none 0 0, A), ha.sb, ⟨hH, Tr.refl (Dw := Dw) hA⟩⟩) ?_
  rintro K k6 s16 a w17 ⟨⟨v18, v20, A22⟩, ha190, hH23, hr5⟩ hle27 K30 h29
  refine C_of ?_ ha190
  replace h_l := Sl.tr h_l hr5; replace hK := Tt hK hr5; replace hB := Bx hB hr5; replace hA := hr5.new
  replace hH : Hp _ _ _ (o_38 v20 s16.2 :: o_58 v18 s16.1 :: L) := hH23
  refine Sr (Vy (Y_lss rfl rfl) (To ?_))
  refine C_seq ?_
  refine Cc (fun hc32 => ?_) fun hc32 => ?_
  ·have hlt28 := lt_of_dec hc32
   obtain ⟨x24, h25, h26⟩ := K30 hlt28
   refine Sk ?_
   refine C_seq ?_
   obtain ⟨s34, ho33, h25⟩ := Bs h25
   refine C_cutG (ι := (Value × Value × (Nat → Prop))) (fun ⟨v36, v38, A43⟩ => [(1, Ii m), (2, .func (.func wanted_f) wanted_a wanted_c), (8, v36), (9, v38), (16, v_l), (17, Ii (l.length : Int)), (18, Ii (k6 : Int))]) (fun ⟨v36, v38, A43⟩ => fun w' => Hp B A43 w' (o_38 v38 s34.2 :: o_58 v36 s34.1 :: L) ∧ Tr Dw B A22 w17 A43 w') ?_ ?_
   ·have hr35 : Tr Dw B A22 w17 A22 w17 := Tr.refl (Dw := Dw) hA
    refine C_block (Sr ?_)
    obtain ⟨x45, hx45, ho33⟩ := Bs ho33
    refine V_indexAddr h_l hx45 underlying22 sizeOf35 rfl rfl rfl ?_
    intro b46 o47 h48
    obtain ⟨v49, h51, h50⟩ := El_know_Article h48
    refine Vy (Y_loadA h51 isAgg35 sizeOf35 rfl) ?_
    refine V_alloc zeroValue35 rfl ?_
    intro b52 w53 h54
    have h59 : (v49).oneCell' = true := by obtain ⟨_, _, e, _⟩ := Sl.form h50; rw [e]; rfl
    refine Sn h54 sizeOf35 ?_
    intro w55 h56
    have hk61 := h56.kp (Dw := Dw)
    have h60 : El (α := know_Article) A22 w55 b52 0 x45 := h56.el hA ⟨[Ii x45.id_], _, rfl, rfl, ⟨[Ii x45.group], _, rfl, rfl, ⟨_, rfl, h50⟩⟩⟩
    have ht62 := Kp.tr hk61 hA hB; replace hH := Hp.kp hH hk61; replace hK := Tt hK ht62; replace hr35 := Tt hr35 ht62; replace hB := Bx hB ht62; replace hA := ht62.new
    refine To ?_
    refine Sr (As (To ?_))
    refine C_seq (Sr ?_)
    have h63 := El_know_Article_2 h60
    refine Fa underlying35 rfl sizeOf33 ?_
    obtain ⟨v64, h65, h66⟩ := El.list h63
    refine Ld h65 isAgg33 (Vy (Y_lenSl h66 rfl underlying33 rfl) (Mm (To ?_)))
    have hn87 := Sl.le h66
    obtain ⟨o67, ho67, ho33⟩ := Bs ho33
    refine C_cutG (ι := (Int × (Nat → Prop))) (fun ⟨s68, A74⟩ => [(1, Ii m), (2, .func (.func wanted_f) wanted_a wanted_c), (8, v18), (9, v20), (11, Pt b52), (12, Ii s68), (16, v_l), (17, Ii (l.length : Int)), (18, Ii (k6 : Int))]) (fun ⟨s68, A74⟩ => fun w' => o67 = .fin s68 ∧ Hp B A74 w' (o_38 v20 s16.2 :: o_58 v18 s16.1 :: L) ∧ Tr Dw B A22 w55 A74 w') ?_ ?_
    ·refine C_block ?_
     refine C_range ho67 (fun k70 s76 a w' => ∃ i : (Nat → Prop), Has ⟨76, [], none⟩ a ([(1, Ii m), (2, .func (.func wanted_f) wanted_a wanted_c), (8, v18), (9, v20), (11, Pt b52), (12, Ii s76), (16, v_l), (17, Ii (l.length : Int)), (18, Ii (k6 : Int)), (23, v64), (24, Ii (x45.versions.length : Int)), (25, Ii (k70 : Int))]) ∧ Hp B i w' (o_38 v20 s16.2 :: o_58 v18 s16.1 :: L) ∧ Tr Dw B A22 w55 i w') (fun a ha => ⟨A22, ha.sb, ⟨hH, Tr.refl (Dw := Dw) hA⟩⟩) ?_
     rintro K k70 s76 a w77 ⟨A78, ha123, hH79, hr69⟩ hle83 K86 h85
     refine C_of ?_ ha123
     replace h66 := Sl.tr h66 hr69; replace hB := Bx hB hr69; replace hA := hr69.new
     replace hH : Hp _ _ _ (o_38 v20 s16.2 :: o_58 v18 s16.1 :: L) := hH79
     refine Sr (Vy (Y_lss rfl rfl) (To ?_))
     refine C_seq ?_
     refine Cc (fun hc88 => ?_) fun hc88 => ?_
     ·have hlt84 := lt_of_dec hc88
      obtain ⟨x80, h81, h82⟩ := K86 hlt84
      refine Sk ?_
      refine C_seq ?_
      obtain ⟨s90, ho89, h81⟩ := Bs h81
      refine C_cutG (ι := (Nat → Prop)) (fun (A95 : (Nat → Prop)) => [(1, Ii m), (2, .func (.func wanted_f) wanted_a wanted_c), (8, v18), (9, v20), (11, Pt b52), (12, Ii s90), (16, v_l), (17, Ii (l.length : Int)), (18, Ii (k6 : Int)), (23, v64), (24, Ii (x45.versions.length : Int)), (25, Ii (k70 : Int))]) (fun (A95 : (Nat → Prop)) => fun w' => Hp B A95 w' (o_38 v20 s16.2 :: o_58 v18 s16.1 :: L) ∧ Tr Dw B A78 w77 A95 w') ?_ ?_
      ·have hr91 : Tr Dw B A78 w77 A78 w77 := Tr.refl (Dw := Dw) hA
       refine C_block (Sr (Mm ?_))
       obtain ⟨x97, hx97, ho89⟩ := Bs ho89
       refine V_indexAddr h66 hx97 underlying33 sizeOf38 rfl rfl rfl ?_
       intro b98 o99 h100
       obtain ⟨h101, _⟩ := El_know_Version h100
       refine Vy (Y_loadA h101 isAgg38 sizeOf38 rfl) ?_
       refine V_alloc zeroValue38 rfl ?_
       intro b102 w103 h104
       refine As ?_
       refine Sn h104 sizeOf38 ?_
       intro w105 h106
       have hk108 := h106.kp (Dw := Dw)
       have h107 : El (α := know_Version) A78 w105 b102 0 x97 := h106.el hA ⟨[Ii x97.at_], _, rfl, rfl, ⟨[.string x97.title], _, rfl, rfl, rfl⟩⟩
       have ht109 := Kp.tr hk108 hA hB; replace hH := Hp.kp hH hk108; replace hr91 := Tt hr91 ht109
       refine To ?_
       refine Sr ?_
       have h110 := El_know_Version_0 h107
       refine Fa underlying38 rfl sizeOf3 (Li h110 isAgg3 (Mm (Vy (Y_leq rfl rfl) (To ?_))))
       obtain ⟨s112, ho111, ho89⟩ := Bs ho89
       refine C_cutG (ι := Unit) (fun (_ : Unit) => [(1, Ii m), (2, .func (.func wanted_f) wanted_a wanted_c), (8, v18), (9, v20), (11, Pt b52), (12, Ii s112), (16, v_l), (17, Ii (l.length : Int)), (18, Ii (k6 : Int)), (23, v64), (24, Ii (x45.versions.length : Int)), (25, Ii (k70 : Int))]) (fun (_ : Unit) => fun w' => w105 = w') ?_ ?_
       ·refine Cc (fun hc117 => ?_) fun hc117 => ?_
        ·rw [if_pos hc117] at ho111
         refine C_region (Mm (As ?_))
         obtain rfl := Oi ho111
         refine V_end (fun a ha118 => ?_)
         exact ⟨(), ha118.sb, rfl⟩
        rw [if_neg (nt hc117)] at ho111
        obtain rfl := Oi ho111
        refine C_skip (fun a ha119 => ?_)
        exact ⟨(), ha119.sb, rfl⟩
       rintro _ _ rfl a ha116
       obtain rfl := Oi ho89
       exact ⟨A78, ha116.sb, ⟨hH, hr91⟩⟩
      rintro A95 w92 ⟨hH96, hk93⟩ a ha94
      replace hr69 := Tr.trans hr69 hk93; replace hA := hk93.new
      replace hH : Hp _ _ _ (o_38 v20 s16.2 :: o_58 v18 s16.1 :: L) := hH96
      refine C_at (n := ⟨76, [], none⟩) (fun _ _ => rfl) ?_ ha94
      refine C_region (Vy (Y_addI rfl rfl) (Mm ?_))
      obtain rfl := Oi h81
      refine V_end (fun a ha121 => ?_)
      exact ⟨s90, hlt84, h82, ⟨A95, ha121.sub ⟨rfl, rfl, rfl, rfl, rfl, rfl, rfl, rfl, rfl, rfl, rfl, Ws hlt84 hn87, trivial⟩, ⟨hH, hr69⟩⟩⟩
     refine C_exit (fun a ha122 => ?_)
     exact ⟨(s76, A78), ha122.sb, ⟨(h85 (eq_of_dec hle83 hc88)).symm, hH, hr69⟩⟩
    rintro ⟨s68, A74⟩ w71 ⟨rfl, hH75, hk72⟩ a ha73
    rw [Lp.andThen_fin] at ho33
    replace h60 := El.tr h60 hk72; replace hK := Tr.trans hK hk72; replace hr35 := Tr.trans hr35 hk72; replace hB := Nat.le_trans hB hk72.ex.size; replace hA := hk72.new
    replace hH : Hp _ _ _ (o_38 v20 s16.2 :: o_58 v18 s16.1 :: L) := hH75
    refine C_at (n := ⟨76, [], none⟩) (fun _ _ => rfl) ?_ ha73
    refine C_seq (Sr (Mm ?_))
    have h124 := El_know_Article_1 h60
    refine Fa underlying35 rfl sizeOf3 (Li h124 isAgg3 ?_)
    obtain ⟨x125, hx125, ho33⟩ := Bs ho33
    refine Vc wanted_call (wanted_spec w71 _ hK hA x45.group _ hx125) ?_
    rintro _ w126 ⟨rfl, hk127⟩
    have ht128 := Kp.tr hk127 hA hB; replace hH := Hp.kp hH hk127; replace h60 := El.tr h60 ht128; replace hr35 := Tt hr35 ht128; replace hB := Bx hB ht128; replace hA := ht128.new
    refine Vy (Y_not rfl) (Mm ?_)
    refine V_cut 3 (fun _ : Unit => [(1, Ii m), (2, .func (.func wanted_f) wanted_a wanted_c), (8, v18), (9, v20), (11, Pt b52), (12, Ii s68), (16, v_l), (17, Ii (l.length : Int)), (18, Ii (k6 : Int)), (44, .bool ((!x125) || (decide (s68 < 0))))]) (fun _ w' => w126 = w') ?_ ?_
    ·simp only [List.take, List.drop]
     rcases Be (!x125) with hc129 | hc129
     ·refine Gm hc129 (Gm hc129 (Vy (Y_pick_te rfl hc129 rfl) ?_))
      exact V_end fun a ha => ⟨(), ha.sub ⟨rfl, rfl, rfl, rfl, rfl, rfl, rfl, rfl, rfl, (by rw [hc129]; rfl), trivial⟩, rfl⟩
     refine Gf hc129 (Mm (Gf hc129 (Vy (Y_lss rfl rfl) (Vy (Y_pick_fe rfl hc129 rfl) ?_))))
     exact V_end fun a ha => ⟨(), ha.sub ⟨rfl, rfl, rfl, rfl, rfl, rfl, rfl, rfl, rfl, (by rw [hc129]; rfl), trivial⟩, rfl⟩
    simp only [List.take, List.drop]
    rintro _ _ rfl
    refine Mm ?_
    obtain ⟨s132, hs132, ho33⟩ := Bs ho33
    refine V_cut 8 (fun _ : Unit => [(1, Ii m), (2, .func (.func wanted_f) wanted_a wanted_c), (8, v18), (9, v20), (11, Pt b52), (12, Ii s68), (16, v_l), (17, Ii (l.length : Int)), (18, Ii (k6 : Int)), (53, .bool s132)]) (fun _ w' => w126 = w') ?_ ?_
    ·simp only [List.take, List.drop]
     rcases Be (((!x125) || (decide (s68 < 0)))) with hc131 | hc131
     ·rw [if_pos hc131] at hs132
      refine Gm hc131 (Gm hc131 (Gm hc131 (Gm hc131 (Gm hc131 (Gm hc131 (Gm hc131 (Vy (Y_pick_te rfl hc131 rfl) ?_)))))))
      obtain rfl := Oi hs132
      exact V_end fun a ha => ⟨(), ha.sb, rfl⟩
     rw [if_neg (nt hc131)] at hs132
     refine Gf hc131 ?_
     have h133 := El_know_Article_2 h60
     refine Fa underlying35 rfl sizeOf33 (Gf hc131 ?_)
     obtain ⟨v134, h135, h136⟩ := El.list h133
     refine Ld h135 isAgg33 (Gf hc131 (Mm (Gf hc131 ?_)))
     obtain ⟨x137, hx137, hs132⟩ := Bs hs132
     refine V_indexAddr h136 hx137 underlying33 sizeOf38 rfl rfl rfl ?_
     intro b138 o139 h140
     refine Gf hc131 ?_
     have h141 := El_know_Version_1 h140
     refine Fa underlying38 rfl sizeOf9 (Gf hc131 (Ld (El.str h141) isAgg9 (Gf hc131 (Vy (Y_seql rfl rfl) (Vy (Y_pick_fe rfl hc131 rfl) ?_)))))
     obtain rfl := Oi hs132
     exact V_end fun a ha => ⟨(), ha.sb, rfl⟩
    simp only [List.take, List.drop]
    rintro _ _ rfl
    refine To ?_
    refine Cc (fun hc142 => ?_) fun hc142 => ?_
    ·rw [if_pos hc142] at ho33
     obtain rfl := Oi ho33
     refine C_exit (fun a ha143 => ?_)
     exact ⟨(v18, v20, A74), ha143.sb, ⟨hH, hr35⟩⟩
    rw [if_neg (nt hc142)] at ho33
    refine Sk ?_
    refine Sr ?_
    have h144 := El_know_Article_2 h60
    refine Fa underlying35 rfl sizeOf33 ?_
    obtain ⟨v145, h146, h147⟩ := El.list h144
    refine Ld h146 isAgg33 (Mm ?_)
    obtain ⟨x148, hx148, ho33⟩ := Bs ho33
    refine V_indexAddr h147 hx148 underlying33 sizeOf38 rfl rfl rfl ?_
    intro b149 o150 h151
    obtain ⟨h152, _⟩ := El_know_Version h151
    refine Vy (Y_loadA h152 isAgg38 sizeOf38 rfl) ?_
    refine V_alloc zeroValue38 rfl ?_
    intro b153 w154 h155
    refine Sn h155 sizeOf38 ?_
    intro w156 h157
    have hk159 := h157.kp (Dw := Dw)
    have h158 : El (α := know_Version) A74 w156 b153 0 x148 := h157.el hA ⟨[Ii x148.at_], _, rfl, rfl, ⟨[.string x148.title], _, rfl, rfl, rfl⟩⟩
    have ht160 := Kp.tr hk159 hA hB; replace hH := Hp.kp hH hk159; replace h60 := El.tr h60 ht160; replace hr35 := Tt hr35 ht160; replace hB := Bx hB ht160; replace hA := ht160.new
    refine To ?_
    refine Sr (Mm ?_)
    have h161 := El_know_Article_0 h60
    refine Fa underlying35 rfl sizeOf3 (Li h161 isAgg3 ?_)
    have h162 := El_know_Version_1 h158
    refine Fa underlying38 rfl sizeOf9 (Ld (El.str h162) isAgg9 ?_)
    have h163 := El_know_Version_2 h158
    refine Fa underlying38 rfl sizeOf9 (Ld (El.str h163) isAgg9 ?_)
    refine Vy (Y_build underlying58 zeroValue58 (Tryz_places58 _ underlying58) rfl (by with_unfolding_all rfl)) ?_
    refine V_buildSlice (Dw := Dw) (cells := #[Ii x45.id_, .string x148.title, .string x148.body]) (l := ([(⟨x45.id_, x148.title, x148.body⟩ : know_Entry)] : List know_Entry)) (len := 1) underlying42 sizeOf58 zeroValue58 rfl (by kernel_rfl) (show (1 * 3 : Nat) ≠ 0 by decide) (show (1 * 3 : Nat) ≤ 2 ^ 24 by decide) hA ⟨[Ii x45.id_, .string x148.title, .string x148.body], _, rfl, ⟨[Ii x45.id_], _, rfl, rfl, ⟨[.string x148.title], _, rfl, rfl, rfl⟩⟩, rfl⟩ rfl rfl ?_
    intro v164 w165 hk167 h166
    have ht168 := Kp.tr hk167 hA hB; replace hH := Hp.kp hH hk167; replace h158 := El.tr h158 ht168; replace hr35 := Tt hr35 ht168; replace hB := Bx hB ht168; replace hA := ht168.new
    obtain ⟨x169, hx169, ho33⟩ := Bs ho33
    refine V_appendH (Dw := Dw) (e := 58) (v := v18) (l := s16.1) (ti := t58) (bytes := 40) (lim := 3518437208883) hH (i := 1) rfl h166 hx169 underlying42 Tryz_info58 rfl rfl rfl rfl (by decide) (by decide) (by decide) hB hA rfl rfl rfl ?_
    intro v170 w171 A172 hH173 ht174
    replace h158 := El.tr h158 ht174; replace hr35 := Tt hr35 ht174; replace hB := Bx hB ht174; replace hA := ht174.new
    replace hH : Hp _ _ _ (o_38 v20 s16.2 :: o_58 v170 x169 :: L) := hH173
    refine As (To ?_)
    refine C_region (Mm ?_)
    obtain ⟨h175, _⟩ := El_know_Version h158
    refine Vy (Y_loadA h175 isAgg38 sizeOf38 rfl) ?_
    refine V_buildSlice (Dw := Dw) (cells := #[Ii x148.at_, .string x148.title, .string x148.body]) (l := ([x148] : List know_Version)) (len := 1) underlying33 sizeOf38 zeroValue38 rfl (by kernel_rfl) (show (1 * 3 : Nat) ≠ 0 by decide) (show (1 * 3 : Nat) ≤ 2 ^ 24 by decide) hA ⟨[Ii x148.at_, .string x148.title, .string x148.body], _, rfl, ⟨[Ii x148.at_], _, rfl, rfl, ⟨[.string x148.title], _, rfl, rfl, rfl⟩⟩, rfl⟩ rfl rfl ?_
    intro v176 w177 hk179 h178
    have ht180 := Kp.tr hk179 hA hB; replace hH := Hp.kp hH hk179; replace hr35 := Tt hr35 ht180; replace hB := Bx hB ht180; replace hA := ht180.new
    obtain ⟨x181, hx181, ho33⟩ := Bs ho33
    refine V_appendH (Dw := Dw) (e := 38) (v := v20) (l := s16.2) (ti := t38) (bytes := 40) (lim := 3518437208883) hH (i := 0) rfl h178 hx181 underlying33 Tryz_info38 rfl rfl rfl rfl (by decide) (by decide) (by decide) hB hA rfl rfl rfl ?_
    intro v182 w183 A184 hH185 ht186
    replace hr35 := Tt hr35 ht186
    replace hH : Hp _ _ _ (o_38 v182 x181 :: o_58 v170 x169 :: L) := hH185
    refine As ?_
    obtain rfl := Oi ho33
    refine V_end (fun a ha187 => ?_)
    exact ⟨(v170, v182, A184), ha187.sb, ⟨hH, hr35⟩⟩
   rintro ⟨v36, v38, A43⟩ w40 ⟨hH44, hk41⟩ a ha42
   replace hr5 := Tr.trans hr5 hk41; replace hA := hk41.new
   replace hH : Hp _ _ _ (o_38 v38 s34.2 :: o_58 v36 s34.1 :: L) := hH44
   refine C_at (n := ⟨76, [], none⟩) (fun _ _ => rfl) ?_ ha42
   refine C_region (Vy (Y_addI rfl rfl) (Mm ?_))
   obtain rfl := Oi h25
   refine V_end (fun a ha188 => ?_)
   exact ⟨(s34.1, s34.2), hlt28, h26, ⟨(v36, v38, A43), ha188.sub ⟨rfl, rfl, rfl, rfl, rfl, rfl, Ws hlt28 hn31, trivial⟩, ⟨hH, hr5⟩⟩⟩
  refine C_exit (fun a ha189 => ?_)
  exact ⟨((s16.1, s16.2), v18, v20, A22), ha189.sb, ⟨(h29 (eq_of_dec hle27 hc32)).symm, hH, hr5⟩⟩
 rintro ⟨s4, v10, v12, A14⟩ w7 ⟨rfl, hH15, hk8⟩ a ha9
 rw [Lp.andThen_fin] at hm
 replace hK := Tr.trans hK hk8; replace hA := hk8.new
 replace hH : Hp _ _ _ (o_38 v12 s4.2 :: o_58 v10 s4.1 :: L) := hH15
 refine C_at (n := ⟨76, [], none⟩) (fun _ _ => rfl) ?_ ha9
 refine Sr (Mm (Mm (As (As (To ?_)))))
 obtain rfl := Oi hm
 replace hH : Hp B A14 w7 (o_58 v10 s4.1 :: o_38 v12 s4.2 :: L) := Hp.front hH (i := 1) rfl
 refine Rt (Res.two results24 rfl rfl) ?_
 exact ⟨v10, v12, A14, rfl, hH, hK⟩
theorem know_Current_1_c (w : World) {A : Nat → Prop} (group : Int) (p1 : (List Int)) (b_p1 : Nat) (h_p1 : El A w b_p1 0 p1) {r : Bool} (hm : know_Current_1 group p1 = some r) : Ret prog 25 #[Ii group, Pt b_p1] w fun v w' => v = .bool r ∧ w = w' := by
 unfold know_Current_1 at hm
 refine enter func25 rfl ntmps25 rfl ?_
 refine Sr (As (To ?_))
 refine Sr ?_
 obtain ⟨v1, h2, h3⟩ := El.list h_p1
 refine Ld h2 isAgg23 (Mm ?_)
 obtain ⟨x4, hx4, hm⟩ := Bs hm
 refine Vc call8 (slices_Contains_Lint_int_c w p1 v1 h3 group hx4) ?_
 rintro _ _ ⟨rfl, rfl⟩
 refine As (To ?_)
 obtain rfl := Oi hm
 refine Rt (Res.one results25 rfl) ?_
 exact ⟨rfl, rfl⟩
theorem know_Current_c (w : World) {A : Nat → Prop} (hA : ∀ b, w.heap.size ≤ b → A b) (hT : Mx prog 0 A w) (l : (List know_Article)) (v_l : Value) (h_l : Sl A w v_l l) (groups : (List Int)) (v_groups : Value) (h_groups : Sl A w v_groups groups) (m : Int) {r : ((List know_Entry) × Int)} (hm : know_Current l groups m = some r) : Ret prog 9 #[v_l, v_groups, Ii m] w fun v w' => ∃ s0, v = .tuple #[s0, Ii r.2] ∧ Ownd 58 w w' s0 r.1 ∧ Kp Dw w w' := by
 unfold know_Current at hm
 refine enter func9 rfl ntmps9 rfl ?_
 have hA0 := hA
 obtain ⟨hB, hK, hH⟩ := St (Dw := Dw) hA
 refine Sr ?_
 refine V_box rfl rfl ?_
 intro b5 w6 h7
 have h12 : (v_groups).oneCell' = true := by obtain ⟨_, _, e, _⟩ := Sl.form h_groups; rw [e]; rfl
 have hk9 := h7.kp (Dw := Dw)
 have h8 : El (α := (List Int)) A w6 b5 0 groups := h7.el hA (by rw [Value.cells_one h12]; exact ⟨_, rfl, h_groups⟩)
 have ht13 := Kp.tr hk9 hA hB; replace hH := Hp.kp hH hk9; replace h_l := Sl.tr h_l ht13; replace hK := Tt hK ht13; replace hB := Bx hB ht13; replace hA := ht13.new
 refine As (As (To ?_))
 refine C_seq (Sr (Mm ?_))
 obtain ⟨x14, hx14, hm⟩ := Bs hm
 refine Vc call6 (know_CheckArticles_c (Dw := Dw) w6 hA (Mx.tr (Dw := Dw) hT hK) l v_l h_l hx14) ?_
 rintro _ w15 ⟨rfl, hk16⟩
 have ht17 := Kp.tr hk16 hA hB; replace hH := Hp.kp hH hk16; replace h_l := Sl.tr h_l ht17; replace h8 := El.tr h8 ht17; replace hK := Tt hK ht17; replace hB := Bx hB ht17; replace hA := ht17.new
 refine As (To ?_)
 refine Sr (Mm (Vy (Y_neq rfl rfl) (To ?_)))
 refine Cc (fun hc18 => ?_) fun hc18 => ?_
 ·rw [if_pos hc18] at hm
  refine Sr (Mm (As (As (To ?_))))
  obtain rfl := Oi hm
  replace hH : Hp w.heap.size A w15 (o_58 (.slice none 0 0) ([] : (List know_Entry)) :: []) := Hp.addNil (α := know_Entry) (e := 58) hH
  refine Rt (Res.two results9 rfl rfl) ?_
  exact ⟨.slice none 0 0, rfl, (Hp.ownd hH (i := 0) rfl), hK.kp⟩
 rw [if_neg (nt hc18)] at hm
 refine Sk ?_
 refine C_seq (Sr (Mm ?_))
 refine Vc call21 (know_within_c w15 m 0 3000000) ?_
 rintro _ _ ⟨rfl, rfl⟩
 refine Vy (Y_not rfl) (To ?_)
 refine Cc (fun hc19 => ?_) fun hc19 => ?_
 ·rw [if_pos hc19] at hm
  refine Sr (As (As (To ?_)))
  obtain rfl := Oi hm
  replace hH : Hp w.heap.size A w15 (o_58 (.slice none 0 0) ([] : (List know_Entry)) :: []) := Hp.addNil (α := know_Entry) (e := 58) hH
  refine Rt (Res.two results9 rfl rfl) ?_
  exact ⟨.slice none 0 0, rfl, (Hp.ownd hH (i := 0) rfl), hK.kp⟩
 rw [if_neg (nt hc19)] at hm
 refine Sk ?_
 refine C_seq (Sr ?_)
 obtain ⟨v20, h21, h22⟩ := El.list h8
 refine Ld h21 isAgg23 (Vy (Y_lenSl h22 rfl underlying23 rfl) (Vy (Y_gtr rfl rfl) (To ?_)))
 refine Cc (fun hc23 => ?_) fun hc23 => ?_
 ·rw [if_pos hc23] at hm
  refine Sr (As (As (To ?_)))
  obtain rfl := Oi hm
  replace hH : Hp w.heap.size A w15 (o_58 (.slice none 0 0) ([] : (List know_Entry)) :: []) := Hp.addNil (α := know_Entry) (e := 58) hH
  refine Rt (Res.two results9 rfl rfl) ?_
  exact ⟨.slice none 0 0, rfl, (Hp.ownd hH (i := 0) rfl), hK.kp⟩
 rw [if_neg (nt hc23)] at hm
 refine Sk ?_
 refine Sr (Mm (Mm (Vy (Y_makeFunc rfl rfl) ?_)))
 obtain ⟨x25, hx25, hm⟩ := Bs hm
 refine Vc call24 (know_current_c (Dw := Dw) w15 hB hA l v_l h_l m (fun y37 => know_Current_1 y37 groups) 25 #[] #[Pt b5] call25 (fun w33 A34 ht35 h36 y30 r31 h32 => (know_Current_1_c w33  y30 groups b5 (El.tr h8 ht35) h32).mono (fun _ _ h => ⟨h.1, h.2 ▸ Kp.refl (Dw := Dw) _⟩)) hH hx25) ?_
 rintro _ w38 ⟨v26, v28, A39, rfl, hH40, ht41⟩
 replace hK := Tt hK ht41
 replace hH : Hp _ _ _ (o_58 v26 x25.1 :: o_38 v28 x25.2 :: []) := hH40
 refine Mm (Vy (Y_extract rfl rfl) (Vy (Y_extract rfl rfl) (As (As (To ?_)))))
 refine Sr (Mm (As (As (To ?_))))
 obtain rfl := Oi hm
 refine Rt (Res.two results9 rfl rfl) ?_
 exact ⟨v26, rfl, (Hp.ownd hH (i := 0) rfl), hK.kp⟩
theorem know_checkEntry_c (w : World) {A : Nat → Prop} (hA : ∀ b, w.heap.size ≤ b → A b) (v : know_Entry) (before : Int) {r : Int} (hm : know_checkEntry v before = some r) : Ret prog 26 #[.agg #[Ii v.id_, .string v.title, .string v.body], Ii before] w fun v w' => v = Ii r ∧ Kp Dw w w' := by
 unfold know_checkEntry at hm
 refine enter func26 rfl ntmps26 rfl ?_
 have hA0 := hA
 obtain ⟨hB, hK, hH⟩ := St (Dw := Dw) hA
 refine Sr ?_
 refine V_box rfl rfl ?_
 intro b1 w2 h3
 have hk5 := h3.kp (Dw := Dw)
 have h4 : El (α := know_Entry) A w2 b1 0 v := h3.el hA ⟨[Ii v.id_], _, rfl, rfl, ⟨[.string v.title], _, rfl, rfl, rfl⟩⟩
 have ht6 := Kp.tr hk5 hA hB; replace hK := Tt hK ht6
 refine As (To ?_)
 refine C_seq (C_block (Sr ?_))
 have h7 := El_know_Entry_0 h4
 refine Fa underlying58 rfl sizeOf3 (Li h7 isAgg3 ?_)
 refine Vc call21 (know_within_c w2 v.id_ 1 3000000) ?_
 rintro _ _ ⟨rfl, rfl⟩
 refine Vy (Y_not rfl) (As (To ?_))
 refine Cc (fun hc8 => ?_) fun hc8 => ?_
 ·rw [if_pos hc8] at hm
  refine Sr (As (To ?_))
  obtain rfl := Oi hm
  refine Rt (Res.one results26 rfl) ?_
  exact ⟨rfl, hK.kp⟩
 rw [if_neg (nt hc8)] at hm
 refine Sr ?_
 have h9 := El_know_Entry_0 h4
 refine Fa underlying58 rfl sizeOf3 (Li h9 isAgg3 (Mm (Vy (Y_leq rfl rfl) (As (To ?_)))))
 refine Cc (fun hc10 => ?_) fun hc10 => ?_
 ·rw [if_pos hc10] at hm
  refine Sr (As (To ?_))
  obtain rfl := Oi hm
  refine Rt (Res.one results26 rfl) ?_
  exact ⟨rfl, hK.kp⟩
 rw [if_neg (nt hc10)] at hm
 refine Sk ?_
 refine Sr ?_
 have h11 := El_know_Entry_1 h4
 refine Fa underlying58 rfl sizeOf9 (Ld (El.str h11) isAgg9 ?_)
 have h12 := El_know_Entry_2 h4
 refine Fa underlying58 rfl sizeOf9 (Ld (El.str h12) isAgg9 ?_)
 obtain ⟨x13, hx13, hm⟩ := Bs hm
 refine Vc call48 (know_checkText_c w2 v.title v.body hx13) ?_
 rintro _ _ ⟨rfl, rfl⟩
 refine As (To ?_)
 obtain rfl := Oi hm
 refine Rt (Res.one results26 rfl) ?_
 exact ⟨rfl, hK.kp⟩
theorem internal_stringslite_HasSuffix_c (w : World) (s : ByteArray) (suffix : ByteArray) {r : Bool} (hm : internal_stringslite_HasSuffix s suffix = some r) : Ret prog 119 #[.string s, .string suffix] w fun v w' => v = .bool r ∧ w = w' := by
 unfold internal_stringslite_HasSuffix at hm
 refine enter func119 rfl ntmps119 rfl ?_
 refine Sr (As (To ?_))
 refine Sr (Mm (Vy (Y_lenStr rfl underlying9 rfl) (Mm (Vy (Y_lenStr rfl underlying9 rfl) (Vy (Y_geq rfl rfl) (Mm ?_))))))
 obtain ⟨s2, hs2, hm⟩ := Bs hm
 refine V_cut 10 (fun _ : Unit => [(20, .bool s2)]) (fun _ w' => w = w') ?_ ?_
 ·simp only [List.take, List.drop]
  rcases Be (decide ((suffix.size : Int) ≤ (s.size : Int))) with hc1 | hc1
  ·rw [if_pos hc1] at hs2
   refine Gf hc1 (Mm (Gf hc1 (Mm (Gf hc1 (Vy (Y_lenStr rfl underlying9 rfl) (Gf hc1 (Mm (Gf hc1 (Vy (Y_lenStr rfl underlying9 rfl) ?_)))))))))
   refine Gf hc1 (Vy (Y_subI rfl rfl) (Gf hc1 ?_))
   obtain ⟨x3, hx3, hs2⟩ := Bs hs2
   refine Vy (Y_sliceSL hx3 underlying9 rfl rfl) (Gf hc1 (Mm (Gf hc1 (Vy (Y_seql rfl rfl) (Vy (Y_pick_te rfl hc1 rfl) ?_)))))
   obtain rfl := Oi hs2
   exact V_end fun a ha => ⟨(), ha.sb, rfl⟩
  rw [if_neg (nt hc1)] at hs2
  refine Gm hc1 (Gm hc1 (Gm hc1 (Gm hc1 (Gm hc1 (Gm hc1 (Gm hc1 (Gm hc1 (Gm hc1 (Vy (Y_pick_fe rfl hc1 rfl) ?_)))))))))
  obtain rfl := Oi hs2
  exact V_end fun a ha => ⟨(), ha.sb, rfl⟩
 simp only [List.take, List.drop]
 rintro _ _ rfl
 refine As (To ?_)
 obtain rfl := Oi hm
 refine Rt (Res.one results119 rfl) ?_
 exact ⟨rfl, rfl⟩
theorem strings_HasSuffix_c (w : World) (s : ByteArray) (suffix : ByteArray) {r : Bool} (hm : strings_HasSuffix s suffix = some r) : Ret prog 94 #[.string s, .string suffix] w fun v w' => v = .bool r ∧ w = w' := by
 unfold strings_HasSuffix at hm
 refine enter func94 rfl ntmps94 rfl ?_
 refine Sr (As (To ?_))
 refine Sr (Mm (Mm ?_))
 obtain ⟨x1, hx1, hm⟩ := Bs hm
 refine Vc call119 (internal_stringslite_HasSuffix_c w s suffix hx1) ?_
 rintro _ _ ⟨rfl, rfl⟩
 refine As (To ?_)
 obtain rfl := Oi hm
 refine Rt (Res.one results94 rfl) ?_
 exact ⟨rfl, rfl⟩
end Go.Proofs.YtjdjmddclfhpeaaGreatDoor.W
