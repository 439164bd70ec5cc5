/-
  Written by program (gen.py) from the IR of the dump: each function computes its model.
-/
import Derived.Test.YtcfmgjmpodpfiaaGreatDoorProg
import Derived.Test.YtcfmgjmpodpfiaaGreatDoorGe
import Derived.Test.YtcfmgjmpodpfiaaGreatDoorKnowPublishesM
import Derived.KernelRfl
import Derived.Test.YtcfmgjmpodpfiaaGreatDoorHq
import Derived.Test.YtcfmgjmpodpfiaaGreatDoorHs
import Derived.Shelf.Strings.Replace
import Derived.Shelf.Strings.Split
import Derived.Test.YtcfmgjmpodpfiaaGreatDoorGg
import Derived.Test.YtcfmgjmpodpfiaaGreatDoorHd
import Derived.Test.YtcfmgjmpodpfiaaGreatDoorGv
import Derived.Test.YtcfmgjmpodpfiaaGreatDoorHe
import Derived.Test.YtcfmgjmpodpfiaaGreatDoorHv
namespace Go.Proofs.YtcfmgjmpodpfiaaGreatDoor.W
open Go Go.RowKit Go.Pu Go.Gw Go.Proofs Go.Proofs.YtcfmgjmpodpfiaaGreatDoor.M
set_option linter.unusedVariables false
set_option linter.unusedSimpArgs false
variable {Dw : Prop}

theorem Tryz_info24 : Tryz.prog.info? 24 = some Tryz.t24 := by kernel_rfl
theorem Tryz_info36 : Tryz.prog.info? 36 = some Tryz.t36 := by kernel_rfl
theorem Tryz_places36 : ∀ fs, Tryz.prog.underlying 36 = some (.struct fs) → ∀ w : World, (Array.mapM (fun (f : Field) => do pure (f.offset, ← Go.sizeOf f.type)) fs).run Tryz.prog w = .ok #[(0, 1), (1, 1), (2, 1)] w := by
  intro fs h w
  rw [Tryz.underlying36] at h
  cases h
  kernel_rfl
theorem Tryz_eqt24_10000 (a0 : Int) (a1 : ByteArray) (a2 : ByteArray) (b0 : Int) (b1 : ByteArray) (b2 : ByteArray) (w : World) : (Op.equalIn 10000 24 (.agg #[.int .i64 a0, .string a1, .string a2]) (.agg #[.int .i64 b0, .string b1, .string b2])).run Tryz.prog w = .ok (a0 == b0 && (strEq a1 b1 && (strEq a2 b2))) w := by
  refine (run_equalIn_struct w 9999 24 _ _ (by kernel_rfl) (by kernel_rfl)).trans ?_
  rw [show Tryz.prog.fieldsOf 24 = _ from by unfold Program.fieldsOf; rw [Tryz.underlying24]]
  cases h0 : (a0 == b0) <;> cases h1 : (strEq a1 b1) <;> cases h2 : (strEq a2 b2) <;> simp_all [Op.eqFields, part, strEq, Tryz.isAgg3, Tryz.isAgg9, run_equalIn_int _ _ _ _ _ _ _ Tryz.underlying3, run_equalIn_string _ _ _ _ _ Tryz.underlying9]
theorem Tryz_eqg24 : Tryz.prog.eqGuardType Tryz.prog.depth 24 = false := by kernel_rfl
theorem Tryz_mixed : Tryz.prog.follows .mixedOrders = true := by kernel_rfl

instance : GoT know_Version := GoT.of (β := Int × ByteArray × ByteArray) fun x => (x.at_, x.title, x.body)

instance : Flat know_Version := ⟨fun {A w A1 w1 cs x} h => Flat.flat (α := Int × ByteArray × ByteArray) (x := (x.at_, x.title, x.body)) (A := A) (w := w) h⟩

theorem El_know_Version_ {A : Nat → Prop} {w : World} {b off : Nat} {x : know_Version} (h : El A w b off x) : El (α := Int × ByteArray × ByteArray) A w b off (x.at_, x.title, x.body) := h

theorem El_know_Version_0 {A : Nat → Prop} {w : World} {b off : Nat} {x : know_Version} (h : El A w b off x) : El A w b (off + 0) x.at_ := El.fst (El_know_Version_ h)

theorem El_know_Version_1 {A : Nat → Prop} {w : World} {b off : Nat} {x : know_Version} (h : El A w b off x) : El A w b (off + 1) x.title := El.fst (El.snd (El_know_Version_ h))

theorem El_know_Version_2 {A : Nat → Prop} {w : World} {b off : Nat} {x : know_Version} (h : El A w b off x) : El A w b (off + 2) x.body := El.snd (El.snd (El_know_Version_ h))

theorem El_know_Version {A : Nat → Prop} {w : World} {b off : Nat} {x : know_Version} (h : El A w b off x) : At w b off [.int .i64 x.at_, .string x.title, .string x.body] ∧ True := by
  obtain ⟨h1, h2, cs, h3, h4⟩ := h
  obtain ⟨_, _, rfl, rfl, ⟨_, _, rfl, rfl, rfl⟩⟩ := h3
  exact ⟨h4, trivial⟩

instance : GoT know_Article := GoT.of (β := Int × Int × (List know_Version)) fun x => (x.id_, x.group, x.versions)

theorem El_know_Article_ {A : Nat → Prop} {w : World} {b off : Nat} {x : know_Article} (h : El A w b off x) : El (α := Int × Int × (List know_Version)) A w b off (x.id_, x.group, x.versions) := h

theorem El_know_Article_0 {A : Nat → Prop} {w : World} {b off : Nat} {x : know_Article} (h : El A w b off x) : El A w b (off + 0) x.id_ := El.fst (El_know_Article_ h)

theorem El_know_Article_1 {A : Nat → Prop} {w : World} {b off : Nat} {x : know_Article} (h : El A w b off x) : El A w b (off + 1) x.group := El.fst (El.snd (El_know_Article_ h))

theorem El_know_Article_2 {A : Nat → Prop} {w : World} {b off : Nat} {x : know_Article} (h : El A w b off x) : El A w b (off + 2) x.versions := El.snd (El.snd (El_know_Article_ h))

theorem El_know_Article {A : Nat → Prop} {w : World} {b off : Nat} {x : know_Article} (h : El A w b off x) : ∃ v1, At w b off [.int .i64 x.id_, .int .i64 x.group, v1] ∧ Sl A w v1 x.versions := by
  obtain ⟨h1, h2, cs, h3, h4⟩ := h
  obtain ⟨_, _, rfl, rfl, ⟨_, _, rfl, rfl, ⟨u1, rfl, g1⟩⟩⟩ := h3
  exact ⟨u1, h4, g1⟩

theorem Rep_know_Article {A : Nat → Prop} {w : World} {cs : List Value} {x : know_Article} (h : GoT.rep A w cs x) : ∃ v1, cs = [.int .i64 x.id_, .int .i64 x.group, v1] ∧ Sl A w v1 x.versions := by
  obtain ⟨_, _, rfl, rfl, ⟨_, _, rfl, rfl, ⟨u1, rfl, g1⟩⟩⟩ := h
  exact ⟨u1, rfl, g1⟩

structure know_ArticleV where
  id_ : Int
  group : Int
  versions : Sv

instance : GoT know_ArticleV := GoT.of (β := Int × Int × Sv) fun x => (x.id_, x.group, x.versions)

theorem El_know_ArticleV_ {A : Nat → Prop} {w : World} {b off : Nat} {x : know_ArticleV} (h : El A w b off x) : El (α := Int × Int × Sv) A w b off (x.id_, x.group, x.versions) := h

theorem El_know_ArticleV_0 {A : Nat → Prop} {w : World} {b off : Nat} {x : know_ArticleV} (h : El A w b off x) : El A w b (off + 0) x.id_ := El.fst (El_know_ArticleV_ h)

theorem El_know_ArticleV_1 {A : Nat → Prop} {w : World} {b off : Nat} {x : know_ArticleV} (h : El A w b off x) : El A w b (off + 1) x.group := El.fst (El.snd (El_know_ArticleV_ h))

theorem El_know_ArticleV_2 {A : Nat → Prop} {w : World} {b off : Nat} {x : know_ArticleV} (h : El A w b off x) : El A w b (off + 2) x.versions := El.snd (El.snd (El_know_ArticleV_ h))

def gf_know_Article (y : know_ArticleV) (x : know_Article) : Ob := obE (fun (_ : Unit) => [obQ (y.id_ = x.id_ ∧ y.group = x.group), obS (α := know_Version) 24 y.versions.v x.versions])

theorem gf_know_Article_open {B : Nat} {A : Nat → Prop} {w : World} {L : List Ob} {y : know_ArticleV} {x : know_Article} (h : Hp B A w (gf_know_Article y x :: L)) : (y.id_ = x.id_ ∧ y.group = x.group) ∧ Hp B A w (obS (α := know_Version) 24 y.versions.v x.versions :: L) := by
  obtain ⟨_, h1⟩ := Hp.open h
  obtain ⟨_, ⟨_, hr⟩, _⟩ := h1.at (i := 0) rfl
  exact ⟨hr, h1.drop (i := 0) rfl⟩

theorem gf_know_Article_pack {B : Nat} {A : Nat → Prop} {w : World} {L : List Ob} {y : know_ArticleV} {x : know_Article} (hq : y.id_ = x.id_ ∧ y.group = x.group) (h : Hp B A w (obS (α := know_Version) 24 y.versions.v x.versions :: L)) : Hp B A w (gf_know_Article y x :: L) :=
  Hp.pack (F := fun (_ : Unit) => [obQ (y.id_ = x.id_ ∧ y.group = x.group), obS (α := know_Version) 24 y.versions.v x.versions]) () (h.free (O' := obQ (y.id_ = x.id_ ∧ y.group = x.group)) ⟨rfl, hq⟩)

instance : Beh gf_know_Article where
  cells := rfl
  rd {A A1 w fb cs y x} hr hp hs hb := by
    obtain ⟨_, fq, gq, rfl, _, ⟨rfl, hq⟩, f0, g0, rfl, _, h0, rfl⟩ := hp
    obtain ⟨y0, y1, y2⟩ := y
    obtain ⟨x0, x1, x2⟩ := x
    simp only at hq
    obtain ⟨rfl, rfl⟩ := hq
    obtain ⟨_, _, rfl, rfl, ⟨_, _, rfl, rfl, rfl⟩⟩ := hr
    exact ⟨[_], _, rfl, rfl, ⟨[_], _, rfl, rfl, ⟨_, rfl, OwP.sl h0 hs (fun b hm => hb b (by simp [hm]))⟩⟩⟩

theorem gf_know_Article_bare {y : know_ArticleV} {x : know_Article} (hq : y.id_ = x.id_ ∧ y.group = x.group) (h0 : y.versions.v = .slice none 0 0) (k0 : x.versions = []) : bare gf_know_Article [y] [x] := by
  refine ⟨rfl, fun A w y2 x2 h => ?_⟩
  simp at h
  obtain ⟨rfl, rfl⟩ := h
  exact ⟨(), [], [], rfl, by simp, ⟨rfl, hq⟩, ⟨[], [], rfl, by simp, .inl ⟨h0, k0, rfl⟩, rfl⟩⟩

def gr_know_Article (y : know_ArticleV) (x : know_Article) : Ob := obF (fun A w => (y.id_ = x.id_ ∧ y.group = x.group) ∧ Sl A w y.versions.v x.versions) (fun h he => ⟨h.1, h.2.keep he⟩)

instance : Beh gr_know_Article where
  cells := rfl
  rd {A A1 w fb cs y x} hr hp hs hb := by
    obtain ⟨rfl, hq, hp⟩ := hp
    obtain ⟨y0, y1, y2⟩ := y
    obtain ⟨x0, x1, x2⟩ := x
    simp only at hq hp
    obtain ⟨rfl, rfl⟩ := hq
    obtain ⟨_, _, rfl, rfl, ⟨_, _, rfl, rfl, rfl⟩⟩ := hr
    exact ⟨[_], _, rfl, rfl, ⟨[_], _, rfl, rfl, ⟨_, rfl, hp.keep (.sub fun k _ hk => hs k hk)⟩⟩⟩

instance : Mk gr_know_Article where
  ex {A w cs x} h := by
    obtain ⟨_, _, rfl, rfl, ⟨_, _, rfl, rfl, ⟨u2, rfl, g2⟩⟩⟩ := h
    have s2 : u2.oneCell' = true := by obtain ⟨_, _, e, _⟩ := Sl.form g2; rw [e]; rfl
    exact ⟨⟨x.id_, x.group, ⟨u2, s2⟩⟩, ⟨[_], _, rfl, rfl, ⟨[_], _, rfl, rfl, rfl⟩⟩, rfl, ⟨rfl, rfl⟩, g2⟩

theorem gr_know_Article_up2 {B : Nat} {A1 : Nat → Prop} {w1 : World} {y : know_ArticleV} {x : know_Article} {nv : Value} {c' : (List know_Version)} (h : ∃ fb, (gr_know_Article y x).P fb A1 w1) (s : Sv) (hs : s.v = nv) : ∃ y', (∀ (A2 : Nat → Prop) (w2 : World) c1, GoT.rep A2 w2 c1 y → GoT.rep A2 w2 (c1.take 2 ++ [nv] ++ c1.drop (2 + 1)) y') ∧ ∀ {A2 : Nat → Prop} {w2 : World} {L1 : List Ob}, Hp B A2 w2 (obS 24 nv c' :: L1) → Hp B A2 w2 (gf_know_Article y' { (x : know_Article) with versions := c' } :: L1) := by
  obtain ⟨_, _, hq, _⟩ := h
  subst hs
  refine ⟨{ (y : know_ArticleV) with versions := s }, fun A2 w2 c1 h => ?_, fun h => gf_know_Article_pack hq h⟩
  obtain ⟨_, _, rfl, rfl, ⟨_, _, rfl, rfl, rfl⟩⟩ := h
  exact ⟨[_], _, rfl, rfl, ⟨[_], _, rfl, rfl, rfl⟩⟩

def Tryz_contains_lay_ren : Go.Shelf.Ren := ⟨fun | 15 => 92 | 17 => 83 | 20 => 101 | n => n, fun | 0 => 0 | 1 => 1 | 2 => 2 | 3 => 3 | 4 => 4 | 5 => 5 | 6 => 6 | 7 => 7 | 8 => 8 | 9 => 9 | 10 => 10 | 11 => 11 | 12 => 12 | 13 => 13 | 14 => 14 | 15 => 15 | 16 => 16 | 17 => 17 | 18 => 18 | 19 => 19 | 20 => 20 | 21 => 21 | 23 => 182 | 26 => 191 | 27 => 210 | 28 => 181 | 30 => 209 | 31 => 202 | 32 => 203 | 34 => 217 | 35 => 159 | 36 => 218 | 37 => 219 | 38 => 220 | 39 => 204 | 40 => 223 | 41 => 224 | 42 => 225 | 43 => 226 | 44 => 227 | 45 => 228 | 46 => 175 | 47 => 229 | 48 => 230 | 49 => 231 | 50 => 212 | 51 => 232 | 52 => 233 | 53 => 234 | 54 => 235 | 55 => 213 | n => n, fun | 0 => 1 | 1 => 2 | n => n⟩
theorem Tryz_contains_lay : Go.Proofs.LaysGw.n17 Tryz.prog Tryz_contains_lay_ren := {
  mixed := by kernel_rfl,
  f15 := Tryz.func92.trans (congrArg some (by kernel_rfl)),
  f17 := Tryz.func83.trans (congrArg some (by kernel_rfl)),
  f20 := Tryz.func101.trans (congrArg some (by kernel_rfl)),
  t0 := Tryz.underlying0,
  a0 := Tryz.isAgg0,
  z0 := Tryz.sizeOf0,
  v0 := Tryz.zeroValue0,
  i0 := by kernel_rfl,
  t3 := Tryz.underlying3,
  a3 := Tryz.isAgg3,
  z3 := Tryz.sizeOf3,
  v3 := Tryz.zeroValue3,
  i3 := by kernel_rfl,
  t4 := Tryz.underlying4,
  a4 := Tryz.isAgg4,
  z4 := Tryz.sizeOf4,
  v4 := Tryz.zeroValue4,
  i4 := by kernel_rfl,
  t9 := Tryz.underlying9,
  a9 := Tryz.isAgg9,
  z9 := Tryz.sizeOf9,
  v9 := Tryz.zeroValue9,
  i9 := by kernel_rfl,
  t21 := Tryz.underlying21,
  a21 := Tryz.isAgg21,
  z21 := Tryz.sizeOf21,
  v21 := Tryz.zeroValue21,
  i21 := by kernel_rfl,
  t23 := Tryz.underlying182,
  a23 := Tryz.isAgg182,
  z23 := Tryz.sizeOf182,
  v23 := Tryz.zeroValue182,
  i23 := by kernel_rfl }

set_option maxRecDepth 4000 in
set_option maxHeartbeats 4000000 in
theorem know_within_c (w : World) (n : Int) (low : Int) (high : Int) : Ret Tryz.prog 10 #[.int .i64 n, .int .i64 low, .int .i64 high] w fun v w' => v = .bool (know_within n low high) ∧ w = w' := by
  generalize hm : know_within n low high = r
  unfold know_within at hm
  refine enter Tryz.func10 rfl Tryz.ntmps10 rfl ?_
  refine C_seq ?_
  refine C_region ?_
  refine V_y (Y_assign rfl) rfl rfl rfl ?_
  refine V_to (fun _ _ => rfl) ?_
  refine C_seq ?_
  refine C_region ?_
  refine V_y (Y_move rfl) rfl rfl rfl ?_
  refine V_y (Y_move rfl) rfl rfl rfl ?_
  refine V_y (Y_geq rfl rfl) rfl rfl rfl ?_
  refine V_y (Y_move rfl) rfl rfl rfl ?_
  refine V_cut 4 (fun _ : Unit => [(14, .bool ((decide (low ≤ n)) && (decide (n ≤ high))))]) (fun _ w' => w = w') ?_ ?_
  · simp only [List.take, List.drop]
    rcases Bool.eq_false_or_eq_true (decide (low ≤ n)) with hc1 | hc1
    · refine V_ge rfl rfl rfl hc1 ?_
      refine V_y (Y_move rfl) rfl rfl rfl ?_
      refine V_ge rfl rfl rfl hc1 ?_
      refine V_y (Y_move rfl) rfl rfl rfl ?_
      refine V_ge rfl rfl rfl hc1 ?_
      refine V_y (Y_leq rfl rfl) rfl rfl rfl ?_
      refine V_y (Y_pick_te rfl hc1 rfl) rfl rfl rfl ?_
      exact V_end fun a ha => ⟨(), ha.sub ⟨(by rw [hc1]; rfl), trivial⟩, rfl⟩
    · refine V_gn rfl rfl rfl hc1 rfl rfl rfl ?_
      refine V_gn rfl rfl rfl hc1 rfl rfl rfl ?_
      refine V_gn rfl rfl rfl hc1 rfl rfl rfl ?_
      refine V_y (Y_pick_fe rfl hc1 rfl) rfl rfl rfl ?_
      exact V_end fun a ha => ⟨(), ha.sub ⟨(by rw [hc1]; rfl), trivial⟩, rfl⟩
  simp only [List.take, List.drop]
  rintro _ _ rfl
  refine V_y (Y_assign rfl) rfl rfl rfl ?_
  refine V_to (fun _ _ => rfl) ?_
  obtain rfl := hm
  refine C_ret ?_
  try simp only [↓inBlock_ret, ↓then_ret]
  exact retQ rfl (Res.one Tryz.results10 rfl) ⟨rfl, rfl⟩

def Tryz_strings_genSplit_lay_ren : Go.Shelf.Ren := ⟨fun | 138 => 93 | 143 => 95 | 195 => 102 | 197 => 97 | 217 => 110 | 218 => 103 | 219 => 106 | 221 => 91 | 224 => 112 | 225 => 111 | 260 => 107 | 266 => 114 | 267 => 113 | 268 => 100 | 314 => 115 | n => n, fun | 0 => 0 | 1 => 1 | 2 => 2 | 3 => 3 | 4 => 4 | 5 => 5 | 6 => 6 | 7 => 7 | 8 => 8 | 9 => 9 | 10 => 10 | 11 => 11 | 12 => 12 | 13 => 13 | 14 => 14 | 15 => 15 | 16 => 16 | 17 => 17 | 18 => 18 | 19 => 19 | 20 => 20 | 21 => 21 | 27 => 192 | 28 => 75 | 31 => 70 | 34 => 80 | 37 => 194 | 40 => 182 | 43 => 43 | 46 => 159 | 47 => 158 | 51 => 175 | 52 => 174 | 53 => 177 | 54 => 176 | 55 => 211 | 61 => 178 | 65 => 183 | 66 => 166 | 68 => 163 | 70 => 193 | 71 => 195 | 72 => 196 | 73 => 197 | 74 => 198 | 75 => 199 | 76 => 200 | 77 => 201 | 80 => 204 | 81 => 228 | 101 => 73 | 103 => 210 | 104 => 165 | 105 => 202 | 106 => 203 | 111 => 153 | 113 => 190 | 114 => 216 | 119 => 217 | 127 => 212 | 131 => 38 | 137 => 218 | 138 => 219 | 139 => 220 | 146 => 221 | 150 => 208 | 151 => 222 | 155 => 209 | 164 => 213 | 165 => 214 | 166 => 215 | 182 => 168 | 183 => 169 | 218 => 184 | 219 => 185 | 220 => 186 | 222 => 188 | 228 => 205 | 229 => 206 | 238 => 223 | 239 => 224 | 240 => 225 | 241 => 226 | 242 => 227 | 243 => 229 | 244 => 230 | 245 => 231 | 246 => 232 | 247 => 233 | 248 => 234 | 249 => 235 | n => n, fun | 1 => 0 | 3 => 1 | 4 => 2 | n => n⟩
theorem Tryz_strings_genSplit_lay : Go.Proofs.Lays.n221 Tryz.prog Tryz_strings_genSplit_lay_ren := {
  mixed := by kernel_rfl,
  f138 := Tryz.func93.trans (congrArg some (by kernel_rfl)),
  f143 := Tryz.func95.trans (congrArg some (by kernel_rfl)),
  f195 := Tryz.func102.trans (congrArg some (by kernel_rfl)),
  f197 := Tryz.func97.trans (congrArg some (by kernel_rfl)),
  f217 := Tryz.func110.trans (congrArg some (by kernel_rfl)),
  f218 := Tryz.func103.trans (congrArg some (by kernel_rfl)),
  f219 := Tryz.func106.trans (congrArg some (by kernel_rfl)),
  f221 := Tryz.func91.trans (congrArg some (by kernel_rfl)),
  f224 := Tryz.func112.trans (congrArg some (by kernel_rfl)),
  f225 := Tryz.func111.trans (congrArg some (by kernel_rfl)),
  f260 := Tryz.func107.trans (congrArg some (by kernel_rfl)),
  f266 := Tryz.func114.trans (congrArg some (by kernel_rfl)),
  f267 := Tryz.func113.trans (congrArg some (by kernel_rfl)),
  f268 := Tryz.func100.trans (congrArg some (by kernel_rfl)),
  f314 := Tryz.func115.trans (congrArg some (by kernel_rfl)),
  t0 := Tryz.underlying0,
  a0 := Tryz.isAgg0,
  z0 := Tryz.sizeOf0,
  v0 := Tryz.zeroValue0,
  t3 := Tryz.underlying3,
  a3 := Tryz.isAgg3,
  z3 := Tryz.sizeOf3,
  v3 := Tryz.zeroValue3,
  t4 := Tryz.underlying4,
  a4 := Tryz.isAgg4,
  z4 := Tryz.sizeOf4,
  v4 := Tryz.zeroValue4,
  t5 := Tryz.underlying5,
  a5 := Tryz.isAgg5,
  z5 := Tryz.sizeOf5,
  v5 := Tryz.zeroValue5,
  t9 := Tryz.underlying9,
  a9 := Tryz.isAgg9,
  z9 := Tryz.sizeOf9,
  v9 := Tryz.zeroValue9,
  t21 := Tryz.underlying21,
  a21 := Tryz.isAgg21,
  z21 := Tryz.sizeOf21,
  v21 := Tryz.zeroValue21,
  t31 := Tryz.underlying70,
  a31 := Tryz.isAgg70,
  z31 := Tryz.sizeOf70,
  v31 := Tryz.zeroValue70,
  t46 := Tryz.underlying159,
  a46 := Tryz.isAgg159,
  z46 := Tryz.sizeOf159,
  v46 := Tryz.zeroValue159,
  t51 := Tryz.underlying175,
  a51 := Tryz.isAgg175,
  z51 := Tryz.sizeOf175,
  v51 := Tryz.zeroValue175,
  t105 := Tryz.underlying202,
  a105 := Tryz.isAgg202,
  z105 := Tryz.sizeOf202,
  v105 := Tryz.zeroValue202,
  t119 := Tryz.underlying217,
  a119 := Tryz.isAgg217,
  z119 := Tryz.sizeOf217,
  t138 := Tryz.underlying219,
  a138 := Tryz.isAgg219,
  z138 := Tryz.sizeOf219,
  v138 := Tryz.zeroValue219,
  t139 := Tryz.underlying220,
  a139 := Tryz.isAgg220,
  z139 := Tryz.sizeOf220,
  v139 := Tryz.zeroValue220,
  t146 := Tryz.underlying221,
  a146 := Tryz.isAgg221,
  z146 := Tryz.sizeOf221,
  v146 := Tryz.zeroValue221,
  g1 := by kernel_rfl,
  g3 := by kernel_rfl,
  g4 := by kernel_rfl }
theorem strings_genSplit_c (w : World) {A : Nat → Prop} (hA : ∀ b, w.heap.size ≤ b → A b) (hT : Mx Tryz.prog 0 A w) (s : ByteArray) (sep : ByteArray) (sepSave : Int) (n : Int) {r : List ByteArray} (hm : strings_genSplit s sep sepSave n = some r) : Ret Tryz.prog 91 #[.string s, .string sep, .int .i64 sepSave, .int .i64 n] w fun v w' => ∃ s0, v = s0 ∧ Sl A w' s0 r ∧ Kp Dw w w' := by
  unfold strings_genSplit at hm
  split at hm
  case isFalse => cases hm
  rename_i h
  obtain ⟨h1, h2, h3, h4, rfl⟩ := h
  obtain rfl := Option.some.inj hm
  obtain ⟨⟨m, hmx⟩, _, _⟩ := hT
  obtain ⟨k, rfl⟩ := Int.eq_ofNat_of_zero_le h3
  have hlen := Go.Lib.splitB_length_le sep (k : Int).toNat (min (Go.Lib.countB s sep + 1) (s.size + 1) - 1) s
  refine split_wrap (Dw := Dw) (N := min (Go.Lib.countB s sep + 1) (s.size + 1)) (sv := k) hA (by omega) (by unfold maxLen; omega) (Go.Proofs.Any.strings_genSplit Tryz_strings_genSplit_lay (by kernel_rfl) s sep k (-1) _ m w h1 hmx h2 (by omega) (by decide) (by decide) ?_)
  rw [if_pos (by decide)]
  omega

set_option maxRecDepth 4000 in
set_option maxHeartbeats 4000000 in
theorem strings_SplitAfter_c (w : World) {A : Nat → Prop} (hA : ∀ b, w.heap.size ≤ b → A b) (hT : Mx Tryz.prog 0 A w) (s : ByteArray) (sep : ByteArray) {r : (List ByteArray)} (hm : strings_SplitAfter s sep = some r) : Ret Tryz.prog 80 #[.string s, .string sep] w fun v w' => ∃ s0, v = s0 ∧ Sl A w' s0 r ∧ Kp Dw w w' := by
  unfold strings_SplitAfter at hm
  refine enter Tryz.func80 rfl Tryz.ntmps80 rfl ?_
  have hA0 := hA
  have hB := Nat.le_refl w.heap.size
  have hK : Tr Dw w.heap.size A w A w := Tr.refl (Dw := Dw) hA
  have hH : Hp w.heap.size A w [] := Hp.nil
  refine C_seq ?_
  refine C_region ?_
  refine V_y (Y_assign rfl) rfl rfl rfl ?_
  refine V_to (fun _ _ => rfl) ?_
  refine C_seq ?_
  refine C_region ?_
  refine V_y (Y_move rfl) rfl rfl rfl ?_
  refine V_y (Y_move rfl) rfl rfl rfl ?_
  refine V_y (Y_move rfl) rfl rfl rfl ?_
  refine V_y (Y_lenStr rfl Tryz.underlying9 rfl) rfl rfl rfl ?_
  obtain ⟨x1, hx1, hm⟩ := Option.bind_eq_some_iff.1 hm
  refine V_call Tryz.call91 rfl rfl rfl rfl (strings_genSplit_c (Dw := Dw) w hA (Mx.tr (Dw := Dw) hT hK) s sep (sep.size : Int) (-1) hx1) ?_
  rintro v2 w4 ⟨_, rfl, h3, hk5⟩
  have ht6 := Kp.tr (Dw := Dw) hk5 hA hB
  replace hH := Hp.kp (Dw := Dw) hH hk5
  replace hK := Tr.trans (Dw := Dw) hK ht6
  replace hB := Nat.le_trans hB ht6.ex.size
  replace hA := ht6.new
  refine V_y (Y_assign rfl) rfl rfl rfl ?_
  refine V_to (fun _ _ => rfl) ?_
  obtain rfl := Option.some.inj hm
  refine C_ret ?_
  try simp only [↓inBlock_ret, ↓then_ret]
  exact retQ rfl (Res.one Tryz.results80 rfl) ⟨v2, rfl, (Sl.out (Dw := Dw) h3 hA0 hK), hK.kp⟩

set_option maxRecDepth 4000 in
set_option maxHeartbeats 4000000 in
theorem know_lines_c (w : World) {A : Nat → Prop} (hA : ∀ b, w.heap.size ≤ b → A b) (hT : Mx Tryz.prog 0 A w) (body : ByteArray) {r : (List ByteArray)} (hm : know_lines body = some r) : Ret Tryz.prog 64 #[.string body] w fun v w' => ∃ s0, v = s0 ∧ Sl A w' s0 r ∧ Kp Dw w w' := by
  unfold know_lines at hm
  refine enter Tryz.func64 rfl Tryz.ntmps64 rfl ?_
  have hA0 := hA
  have hB := Nat.le_refl w.heap.size
  have hK : Tr Dw w.heap.size A w A w := Tr.refl (Dw := Dw) hA
  have hH : Hp w.heap.size A w [] := Hp.nil
  refine C_seq ?_
  refine C_region ?_
  refine V_y (Y_assign rfl) rfl rfl rfl ?_
  refine V_to (fun _ _ => rfl) ?_
  refine C_seq ?_
  refine C_region ?_
  refine V_y (Y_move rfl) rfl rfl rfl ?_
  obtain ⟨x1, hx1, hm⟩ := Option.bind_eq_some_iff.1 hm
  refine V_call Tryz.call80 rfl rfl rfl rfl (strings_SplitAfter_c (Dw := Dw) w hA (Mx.tr (Dw := Dw) hT hK) body (⟨#[10]⟩ : ByteArray) hx1) ?_
  rintro v2 w4 ⟨_, rfl, h3, hk5⟩
  have ht6 := Kp.tr (Dw := Dw) hk5 hA hB
  replace hH := Hp.kp (Dw := Dw) hH hk5
  replace hK := Tr.trans (Dw := Dw) hK ht6
  replace hB := Nat.le_trans hB ht6.ex.size
  replace hA := ht6.new
  refine V_y (Y_assign rfl) rfl rfl rfl ?_
  refine V_to (fun _ _ => rfl) ?_
  refine C_seq ?_
  refine C_seq ?_
  refine C_region ?_
  refine V_y (Y_move rfl) rfl rfl rfl ?_
  refine V_y (Y_move rfl) rfl rfl rfl ?_
  refine V_y (Y_lenSl h3 rfl Tryz.underlying70 rfl) rfl rfl rfl ?_
  refine V_y (Y_subI rfl rfl) rfl rfl rfl ?_
  obtain ⟨x7, hx7, hm⟩ := Option.bind_eq_some_iff.1 hm
  refine V_indexAddr h3 hx7 Tryz.underlying70 Tryz.sizeOf9 rfl rfl rfl ?_
  intro b8 o9 h10
  refine V_y (Y_load (El.str h10) Tryz.isAgg9 rfl) rfl rfl rfl ?_
  refine V_y (Y_seql rfl rfl) rfl rfl rfl ?_
  refine V_to (fun _ _ => rfl) ?_
  obtain ⟨s12, ho11, hm⟩ := Option.bind_eq_some_iff.1 hm
  refine C_cutG (ι := Value) (fun (v14 : Value) => [(3, v14)]) (fun (v14 : Value) => fun w' => Sl A w' v14 s12 ∧ w4 = w') ?_ ?_
  · refine C_cond rfl (fun hc20 => ?_) (fun hc20 => ?_)
    · rw [if_pos hc20] at ho11
      refine C_region ?_
      refine V_y (Y_move rfl) rfl rfl rfl ?_
      refine V_y (Y_move rfl) rfl rfl rfl ?_
      refine V_y (Y_lenSl h3 rfl Tryz.underlying70 rfl) rfl rfl rfl ?_
      refine V_y (Y_subI rfl rfl) rfl rfl rfl ?_
      obtain ⟨x21, hx21, ho11⟩ := Option.bind_eq_some_iff.1 ho11
      obtain ⟨v22, h23, h23y⟩ := sliceL_val hx21 h3
      refine V_y (Y_sliceLH h23y Tryz.underlying70 Tryz.sizeOf9 rfl rfl) rfl rfl rfl ?_
      refine V_y (Y_assign rfl) rfl rfl rfl ?_
      obtain rfl := Option.some.inj ho11
      refine V_end (fun a ha24 => ?_)
      exact ⟨v22, ha24.sub ⟨rfl, trivial⟩, ⟨h23, rfl⟩⟩
    · rw [if_neg (nt hc20)] at ho11
      obtain rfl := Option.some.inj ho11
      refine C_skip (fun a ha25 => ?_)
      exact ⟨v2, ha25.sub ⟨rfl, trivial⟩, ⟨h3, rfl⟩⟩
  rintro v14 _ ⟨h15, rfl⟩ a ha19
  refine C_at (n := ⟨19, [], none⟩) (fun _ _ => rfl) ?_ ha19
  refine C_seq ?_
  refine C_region ?_
  refine V_y (Y_move rfl) rfl rfl rfl ?_
  refine V_y (Y_assign rfl) rfl rfl rfl ?_
  refine V_to (fun _ _ => rfl) ?_
  obtain rfl := Option.some.inj hm
  refine C_ret ?_
  try simp only [↓inBlock_ret, ↓then_ret]
  exact retQ rfl (Res.one Tryz.results64 rfl) ⟨v14, rfl, (Sl.out (Dw := Dw) h15 hA0 hK), hK.kp⟩

set_option maxRecDepth 4000 in
set_option maxHeartbeats 4000000 in
theorem know_plain_c (w : World) (s : ByteArray) (feeds : Bool) {r : Bool} (hm : know_plain s feeds = some r) : Ret Tryz.prog 81 #[.string s, .bool feeds] w fun v w' => v = .bool r ∧ w = w' := by
  unfold know_plain at hm
  refine enter Tryz.func81 rfl Tryz.ntmps81 rfl ?_
  refine C_seq ?_
  refine C_region ?_
  refine V_y (Y_assign rfl) rfl rfl rfl ?_
  refine V_to (fun _ _ => rfl) ?_
  refine C_seq ?_
  refine C_seq ?_
  refine C_region ?_
  refine V_y (Y_move rfl) rfl rfl rfl ?_
  refine V_y (Y_lenStr rfl Tryz.underlying9 rfl) rfl rfl rfl ?_
  refine V_y (Y_move rfl) rfl rfl rfl ?_
  refine V_to (fun _ _ => rfl) ?_
  obtain ⟨o1, ho1, hm⟩ := Option.bind_eq_some_iff.1 hm
  refine C_cutG (ι := Int) (fun (s2 : Int) => []) (fun (s2 : Int) => fun w' => o1 = .fin s2 ∧ w = w') ?_ ?_
  · refine C_block ?_
    refine C_while ho1 (fun s8 a w' => ∃ i : Unit, Has ⟨32, [], none⟩ a ([(0, .string s), (1, .bool feeds), (7, .int .i64 (s.size : Int)), (8, .int .i64 s8)]) ∧ w = w') (fun a ha => ⟨(), ha.sub ⟨rfl, rfl, rfl, rfl, trivial⟩, rfl⟩) ?_
    rintro K s8 a _ ⟨_, ha28, rfl⟩ K16
    refine C_of ?_ ha28
    obtain ⟨x10, h11, h12⟩ := K16
    refine C_seq ?_
    refine C_region ?_
    refine V_y (Y_lss rfl rfl) rfl rfl rfl ?_
    refine V_to (fun _ _ => rfl) ?_
    refine C_seq ?_
    refine C_cond rfl (fun hc17 => ?_) (fun hc17 => ?_)
    · rw [if_pos hc17] at h11
      refine C_skip_to (fun _ _ => rfl) ?_
      refine C_seq ?_
      refine C_block ?_
      refine C_seq ?_
      refine C_region ?_
      refine V_y (Y_move rfl) rfl rfl rfl ?_
      refine V_y (Y_assign rfl) rfl rfl rfl ?_
      refine V_to (fun _ _ => rfl) ?_
      refine C_seq ?_
      refine C_region ?_
      refine V_y (Y_move rfl) rfl rfl rfl ?_
      refine V_y (Y_move rfl) rfl rfl rfl ?_
      obtain ⟨x18, hx18, h11⟩ := Option.bind_eq_some_iff.1 h11
      refine V_y (Y_indexS hx18 Tryz.underlying9 rfl rfl) rfl rfl rfl ?_
      refine V_y (Y_lss rfl rfl) rfl rfl rfl ?_
      refine V_y (Y_move rfl) rfl rfl rfl ?_
      obtain ⟨s20, hs20, h11⟩ := Option.bind_eq_some_iff.1 h11
      refine V_cut 5 (fun _ : Unit => [(0, .string s), (1, .bool feeds), (5, .int .i64 s8), (7, .int .i64 (s.size : Int)), (8, .int .i64 s8), (20, .bool s20)]) (fun _ w' => w = w') ?_ ?_
      · simp only [List.take, List.drop]
        rcases Bool.eq_false_or_eq_true (decide ((x18.toNat : Int) < 32)) with hc19 | hc19
        · rw [if_pos hc19] at hs20
          refine V_gn rfl rfl rfl hc19 rfl rfl rfl ?_
          refine V_gn rfl rfl rfl hc19 rfl rfl rfl ?_
          refine V_gn rfl rfl rfl hc19 rfl rfl rfl ?_
          refine V_gn rfl rfl rfl hc19 rfl rfl rfl ?_
          refine V_y (Y_pick_te rfl hc19 rfl) rfl rfl rfl ?_
          obtain rfl := Option.some.inj hs20
          exact V_end fun a ha => ⟨(), ha.sub ⟨rfl, rfl, rfl, rfl, rfl, rfl, trivial⟩, rfl⟩
        · rw [if_neg (nt hc19)] at hs20
          refine V_ge rfl rfl rfl hc19 ?_
          refine V_y (Y_move rfl) rfl rfl rfl ?_
          refine V_ge rfl rfl rfl hc19 ?_
          refine V_y (Y_move rfl) rfl rfl rfl ?_
          refine V_ge rfl rfl rfl hc19 ?_
          refine V_y (Y_indexS hx18 Tryz.underlying9 rfl rfl) rfl rfl rfl ?_
          refine V_ge rfl rfl rfl hc19 ?_
          refine V_y (Y_eql rfl rfl) rfl rfl rfl ?_
          refine V_y (Y_pick_fe rfl hc19 rfl) rfl rfl rfl ?_
          obtain rfl := Option.some.inj hs20
          exact V_end fun a ha => ⟨(), ha.sub ⟨rfl, rfl, rfl, rfl, rfl, rfl, trivial⟩, rfl⟩
      simp only [List.take, List.drop]
      rintro _ _ rfl
      refine V_y (Y_move rfl) rfl rfl rfl ?_
      obtain ⟨s22, hs22, h11⟩ := Option.bind_eq_some_iff.1 h11
      refine V_cut 9 (fun _ : Unit => [(0, .string s), (1, .bool feeds), (7, .int .i64 (s.size : Int)), (8, .int .i64 s8), (30, .bool s22)]) (fun _ w' => w = w') ?_ ?_
      · simp only [List.take, List.drop]
        rcases Bool.eq_false_or_eq_true (s20) with hc21 | hc21
        · rw [if_pos hc21] at hs22
          refine V_ge rfl rfl rfl hc21 ?_
          refine V_y (Y_move rfl) rfl rfl rfl ?_
          refine V_ge rfl rfl rfl hc21 ?_
          refine V_y (Y_move rfl) rfl rfl rfl ?_
          refine V_ge rfl rfl rfl hc21 ?_
          refine V_y (Y_indexS hx18 Tryz.underlying9 rfl rfl) rfl rfl rfl ?_
          refine V_ge rfl rfl rfl hc21 ?_
          refine V_y (Y_neq rfl rfl) rfl rfl rfl ?_
          refine V_ge rfl rfl rfl hc21 ?_
          refine V_y (Y_move rfl) rfl rfl rfl ?_
          refine V_cut 3 (fun _ : Unit => [(0, .string s), (1, .bool feeds), (7, .int .i64 (s.size : Int)), (8, .int .i64 s8), (21, .bool s20), (29, .bool (((x18.toNat : Int) != 10) || (!feeds)))]) (fun _ w' => w = w') ?_ ?_
          · simp only [List.take, List.drop]
            rcases Bool.eq_false_or_eq_true ((x18.toNat : Int) != 10) with hc23 | hc23
            · refine V_gn rfl rfl rfl hc23 rfl rfl rfl ?_
              refine V_gn rfl rfl rfl hc23 rfl rfl rfl ?_
              refine V_ge rfl rfl rfl hc21 ?_
              refine V_y (Y_pick_te rfl hc23 rfl) rfl rfl rfl ?_
              exact V_end fun a ha => ⟨(), ha.sub ⟨rfl, rfl, rfl, rfl, rfl, (by rw [hc23]; rfl), trivial⟩, rfl⟩
            · refine V_ge rfl rfl rfl hc23 ?_
              refine V_y (Y_move rfl) rfl rfl rfl ?_
              refine V_ge rfl rfl rfl hc23 ?_
              refine V_y (Y_not rfl) rfl rfl rfl ?_
              refine V_ge rfl rfl rfl hc21 ?_
              refine V_y (Y_pick_fe rfl hc23 rfl) rfl rfl rfl ?_
              exact V_end fun a ha => ⟨(), ha.sub ⟨rfl, rfl, rfl, rfl, rfl, (by rw [hc23]; rfl), trivial⟩, rfl⟩
          simp only [List.take, List.drop]
          rintro _ _ rfl
          refine V_y (Y_pick_te rfl hc21 rfl) rfl rfl rfl ?_
          obtain rfl := Option.some.inj hs22
          exact V_end fun a ha => ⟨(), ha.sub ⟨rfl, rfl, rfl, rfl, rfl, trivial⟩, rfl⟩
        · rw [if_neg (nt hc21)] at hs22
          refine V_gn rfl rfl rfl hc21 rfl rfl rfl ?_
          refine V_gn rfl rfl rfl hc21 rfl rfl rfl ?_
          refine V_gn rfl rfl rfl hc21 rfl rfl rfl ?_
          refine V_gn rfl rfl rfl hc21 rfl rfl rfl ?_
          refine V_gn rfl rfl rfl hc21 rfl rfl rfl ?_
          refine V_gu rfl rfl rfl rfl rfl ?_
          refine V_gu rfl rfl rfl rfl rfl ?_
          refine V_gn rfl rfl rfl hc21 rfl rfl rfl ?_
          refine V_y (Y_pick_fe rfl hc21 rfl) rfl rfl rfl ?_
          obtain rfl := Option.some.inj hs22
          exact V_end fun a ha => ⟨(), ha.sub ⟨rfl, rfl, rfl, rfl, rfl, trivial⟩, rfl⟩
      simp only [List.take, List.drop]
      rintro _ _ rfl
      refine V_to (fun _ _ => rfl) ?_
      refine C_cond rfl (fun hc25 => ?_) (fun hc25 => ?_)
      · rw [if_pos hc25] at h11
        refine C_seq ?_
        refine C_region ?_
        refine V_y (Y_assign rfl) rfl rfl rfl ?_
        refine V_to (fun _ _ => rfl) ?_
        obtain rfl := Option.some.inj h11
        obtain rfl := (h12 : Lp.rt _ = _)
        rw [Lp.andThen_rt] at hm
        obtain rfl := Option.some.inj hm
        refine C_ret ?_
        try simp only [↓inBlock_ret, ↓then_ret]
        exact retQ rfl (Res.one Tryz.results81 rfl) ⟨rfl, rfl⟩
      · rw [if_neg (nt hc25)] at h11
        refine C_skip_to (fun _ _ => rfl) ?_
        refine C_region ?_
        refine V_y (Y_addI rfl rfl) rfl rfl rfl ?_
        refine V_y (Y_move rfl) rfl rfl rfl ?_
        obtain rfl := Option.some.inj h11
        refine V_end (fun a ha26 => ?_)
        exact ⟨w64 (s8 + 1), h12, ⟨(), ha26.sub ⟨rfl, rfl, rfl, rfl, trivial⟩, rfl⟩⟩
    · rw [if_neg (nt hc17)] at h11
      obtain rfl := Option.some.inj h11
      refine C_exit (fun a ha27 => ?_)
      exact ⟨s8, ha27.sub trivial, ⟨h12.symm, rfl⟩⟩
  rintro s2 _ ⟨rfl, rfl⟩ a ha7
  rw [Lp.andThen_fin] at hm
  refine C_at (n := ⟨32, [], none⟩) (fun _ _ => rfl) ?_ ha7
  refine C_seq ?_
  refine C_region ?_
  refine V_y (Y_assign rfl) rfl rfl rfl ?_
  refine V_to (fun _ _ => rfl) ?_
  obtain rfl := Option.some.inj hm
  refine C_ret ?_
  try simp only [↓inBlock_ret, ↓then_ret]
  exact retQ rfl (Res.one Tryz.results81 rfl) ⟨rfl, rfl⟩

set_option maxRecDepth 4000 in
set_option maxHeartbeats 4000000 in
theorem know_checkText_c (w : World) (title : ByteArray) (body : ByteArray) {r : Int} (hm : know_checkText title body = some r) : Ret Tryz.prog 65 #[.string title, .string body] w fun v w' => v = .int .i64 r ∧ w = w' := by
  unfold know_checkText at hm
  refine enter Tryz.func65 rfl Tryz.ntmps65 rfl ?_
  refine C_seq ?_
  refine C_region ?_
  refine V_y (Y_assign rfl) rfl rfl rfl ?_
  refine V_to (fun _ _ => rfl) ?_
  refine C_seq ?_
  refine C_seq ?_
  refine C_region ?_
  refine V_y (Y_move rfl) rfl rfl rfl ?_
  refine V_y (Y_lenStr rfl Tryz.underlying9 rfl) rfl rfl rfl ?_
  refine V_y (Y_gtr rfl rfl) rfl rfl rfl ?_
  refine V_y (Y_move rfl) rfl rfl rfl ?_
  refine V_cut 4 (fun _ : Unit => [(0, .string title), (1, .string body), (12, .bool ((decide ((200 : Int) < (title.size : Int))) || (decide ((20000 : Int) < (body.size : Int)))))]) (fun _ w' => w = w') ?_ ?_
  · simp only [List.take, List.drop]
    rcases Bool.eq_false_or_eq_true (decide ((200 : Int) < (title.size : Int))) with hc1 | hc1
    · refine V_gn rfl rfl rfl hc1 rfl rfl rfl ?_
      refine V_gn rfl rfl rfl hc1 rfl rfl rfl ?_
      refine V_gn rfl rfl rfl hc1 rfl rfl rfl ?_
      refine V_y (Y_pick_te rfl hc1 rfl) rfl rfl rfl ?_
      exact V_end fun a ha => ⟨(), ha.sub ⟨rfl, rfl, (by rw [hc1]; rfl), trivial⟩, rfl⟩
    · refine V_ge rfl rfl rfl hc1 ?_
      refine V_y (Y_move rfl) rfl rfl rfl ?_
      refine V_ge rfl rfl rfl hc1 ?_
      refine V_y (Y_lenStr rfl Tryz.underlying9 rfl) rfl rfl rfl ?_
      refine V_ge rfl rfl rfl hc1 ?_
      refine V_y (Y_gtr rfl rfl) rfl rfl rfl ?_
      refine V_y (Y_pick_fe rfl hc1 rfl) rfl rfl rfl ?_
      exact V_end fun a ha => ⟨(), ha.sub ⟨rfl, rfl, (by rw [hc1]; rfl), trivial⟩, rfl⟩
  simp only [List.take, List.drop]
  rintro _ _ rfl
  refine V_to (fun _ _ => rfl) ?_
  refine C_cond rfl (fun hc3 => ?_) (fun hc3 => ?_)
  · rw [if_pos hc3] at hm
    refine C_seq ?_
    refine C_region ?_
    refine V_y (Y_assign rfl) rfl rfl rfl ?_
    refine V_to (fun _ _ => rfl) ?_
    obtain rfl := Option.some.inj hm
    refine C_ret ?_
    try simp only [↓inBlock_ret, ↓then_ret]
    exact retQ rfl (Res.one Tryz.results65 rfl) ⟨rfl, rfl⟩
  · rw [if_neg (nt hc3)] at hm
    refine C_skip_to (fun _ _ => rfl) ?_
    refine C_seq ?_
    refine C_seq ?_
    refine C_region ?_
    refine V_y (Y_move rfl) rfl rfl rfl ?_
    obtain ⟨x4, hx4, hm⟩ := Option.bind_eq_some_iff.1 hm
    refine V_call Tryz.call81 rfl rfl rfl rfl (know_plain_c w title false hx4) ?_
    rintro _ _ ⟨rfl, rfl⟩
    refine V_y (Y_not rfl) rfl rfl rfl ?_
    refine V_y (Y_move rfl) rfl rfl rfl ?_
    obtain ⟨s6, hs6, hm⟩ := Option.bind_eq_some_iff.1 hm
    refine V_cut 4 (fun _ : Unit => [(20, .bool s6)]) (fun _ w' => w = w') ?_ ?_
    · simp only [List.take, List.drop]
      rcases Bool.eq_false_or_eq_true (!x4) with hc5 | hc5
      · rw [if_pos hc5] at hs6
        refine V_gn rfl rfl rfl hc5 rfl rfl rfl ?_
        refine V_gn rfl rfl rfl hc5 rfl rfl rfl ?_
        refine V_gn rfl rfl rfl hc5 rfl rfl rfl ?_
        refine V_y (Y_pick_te rfl hc5 rfl) rfl rfl rfl ?_
        obtain rfl := Option.some.inj hs6
        exact V_end fun a ha => ⟨(), ha.sub ⟨rfl, trivial⟩, rfl⟩
      · rw [if_neg (nt hc5)] at hs6
        refine V_ge rfl rfl rfl hc5 ?_
        refine V_y (Y_move rfl) rfl rfl rfl ?_
        refine V_ge rfl rfl rfl hc5 ?_
        obtain ⟨x7, hx7, hs6⟩ := Option.bind_eq_some_iff.1 hs6
        refine V_call Tryz.call81 rfl rfl rfl rfl (know_plain_c w body true hx7) ?_
        rintro _ _ ⟨rfl, rfl⟩
        refine V_ge rfl rfl rfl hc5 ?_
        refine V_y (Y_not rfl) rfl rfl rfl ?_
        refine V_y (Y_pick_fe rfl hc5 rfl) rfl rfl rfl ?_
        obtain rfl := Option.some.inj hs6
        exact V_end fun a ha => ⟨(), ha.sub ⟨rfl, trivial⟩, rfl⟩
    simp only [List.take, List.drop]
    rintro _ _ rfl
    refine V_to (fun _ _ => rfl) ?_
    refine C_cond rfl (fun hc8 => ?_) (fun hc8 => ?_)
    · rw [if_pos hc8] at hm
      refine C_seq ?_
      refine C_region ?_
      refine V_y (Y_assign rfl) rfl rfl rfl ?_
      refine V_to (fun _ _ => rfl) ?_
      obtain rfl := Option.some.inj hm
      refine C_ret ?_
      try simp only [↓inBlock_ret, ↓then_ret]
      exact retQ rfl (Res.one Tryz.results65 rfl) ⟨rfl, rfl⟩
    · rw [if_neg (nt hc8)] at hm
      refine C_skip_to (fun _ _ => rfl) ?_
      refine C_seq ?_
      refine C_region ?_
      refine V_y (Y_assign rfl) rfl rfl rfl ?_
      refine V_to (fun _ _ => rfl) ?_
      obtain rfl := Option.some.inj hm
      refine C_ret ?_
      try simp only [↓inBlock_ret, ↓then_ret]
      exact retQ rfl (Res.one Tryz.results65 rfl) ⟨rfl, rfl⟩

set_option maxRecDepth 4000 in
set_option maxHeartbeats 4000000 in
theorem know_checkVersion_c (w : World) {A : Nat → Prop} (hA : ∀ b, w.heap.size ≤ b → A b) (hT : Mx Tryz.prog 0 A w) (v : know_Version) (before : Int) {r : Int} (hm : know_checkVersion v before = some r) : Ret Tryz.prog 51 #[.agg #[.int .i64 v.at_, .string v.title, .string v.body], .int .i64 before] w fun v w' => v = .int .i64 r ∧ Kp Dw w w' := by
  unfold know_checkVersion at hm
  refine enter Tryz.func51 rfl Tryz.ntmps51 rfl ?_
  have hA0 := hA
  have hB := Nat.le_refl w.heap.size
  have hK : Tr Dw w.heap.size A w A w := Tr.refl (Dw := Dw) hA
  have hH : Hp w.heap.size A w [] := Hp.nil
  refine C_seq ?_
  refine C_region ?_
  refine V_box rfl rfl ?_
  intro b1 w2 h3
  have hk5 := h3.kp (Dw := Dw)
  have h4 : El (α := know_Version) A w2 b1 0 v := h3.el hA ⟨[.int .i64 v.at_], _, rfl, rfl, ⟨[.string v.title], _, rfl, rfl, rfl⟩⟩
  have ht6 := Kp.tr (Dw := Dw) hk5 hA hB
  replace hH := Hp.kp (Dw := Dw) hH hk5
  replace hK := Tr.trans (Dw := Dw) hK ht6
  replace hB := Nat.le_trans hB ht6.ex.size
  replace hA := ht6.new
  refine V_y (Y_assign rfl) rfl rfl rfl ?_
  refine V_to (fun _ _ => rfl) ?_
  refine C_seq ?_
  refine C_block ?_
  refine C_seq ?_
  refine C_region ?_
  have h7 := El_know_Version_0 h4
  refine V_y (Y_fieldAddr Tryz.underlying24 rfl Tryz.sizeOf3 (by decide) rfl) rfl rfl rfl ?_
  refine V_y (Y_load (El.int h7) Tryz.isAgg3 rfl) rfl rfl rfl ?_
  refine V_call Tryz.call10 rfl rfl rfl rfl (know_within_c w2 v.at_ 0 3000000) ?_
  rintro _ _ ⟨rfl, rfl⟩
  refine V_y (Y_not rfl) rfl rfl rfl ?_
  refine V_y (Y_assign rfl) rfl rfl rfl ?_
  refine V_to (fun _ _ => rfl) ?_
  refine C_cond rfl (fun hc8 => ?_) (fun hc8 => ?_)
  · rw [if_pos hc8] at hm
    refine C_seq ?_
    refine C_region ?_
    refine V_y (Y_assign rfl) rfl rfl rfl ?_
    refine V_to (fun _ _ => rfl) ?_
    obtain rfl := Option.some.inj hm
    refine C_ret ?_
    try simp only [↓inBlock_ret, ↓then_ret]
    exact retQ rfl (Res.one Tryz.results51 rfl) ⟨rfl, hK.kp⟩
  · rw [if_neg (nt hc8)] at hm
    refine C_seq ?_
    refine C_region ?_
    have h9 := El_know_Version_0 h4
    refine V_y (Y_fieldAddr Tryz.underlying24 rfl Tryz.sizeOf3 (by decide) rfl) rfl rfl rfl ?_
    refine V_y (Y_load (El.int h9) Tryz.isAgg3 rfl) rfl rfl rfl ?_
    refine V_y (Y_move rfl) rfl rfl rfl ?_
    refine V_y (Y_lss rfl rfl) rfl rfl rfl ?_
    refine V_y (Y_assign rfl) rfl rfl rfl ?_
    refine V_to (fun _ _ => rfl) ?_
    refine C_cond rfl (fun hc10 => ?_) (fun hc10 => ?_)
    · rw [if_pos hc10] at hm
      refine C_seq ?_
      refine C_region ?_
      refine V_y (Y_assign rfl) rfl rfl rfl ?_
      refine V_to (fun _ _ => rfl) ?_
      obtain rfl := Option.some.inj hm
      refine C_ret ?_
      try simp only [↓inBlock_ret, ↓then_ret]
      exact retQ rfl (Res.one Tryz.results51 rfl) ⟨rfl, hK.kp⟩
    · rw [if_neg (nt hc10)] at hm
      refine C_seq ?_
      obtain ⟨s12, ho11, hm⟩ := Option.bind_eq_some_iff.1 hm
      refine C_cutG (ι := (Nat → Prop)) (fun (A17 : (Nat → Prop)) => [(2, .pointer (some ⟨b1, 0, none⟩)), (16, .bool s12)]) (fun (A17 : (Nat → Prop)) => fun w' => Hp w.heap.size A17 w' ([]) ∧ Tr Dw w.heap.size A w2 A17 w') ?_ ?_
      · have hr13 : Tr Dw w.heap.size A w2 A w2 := Tr.refl (Dw := Dw) hA
        refine C_region ?_
        have h19 := El_know_Version_2 h4
        refine V_y (Y_fieldAddr Tryz.underlying24 rfl Tryz.sizeOf9 (by decide) rfl) rfl rfl rfl ?_
        refine V_y (Y_load (El.str h19) Tryz.isAgg9 rfl) rfl rfl rfl ?_
        refine V_y (Y_lenStr rfl Tryz.underlying9 rfl) rfl rfl rfl ?_
        refine V_y (Y_leq rfl rfl) rfl rfl rfl ?_
        refine V_y (Y_move rfl) rfl rfl rfl ?_
        rcases Bool.eq_false_or_eq_true (decide ((v.body.size : Int) ≤ 20000)) with hc20 | hc20
        · rw [if_pos hc20] at ho11
          refine V_ge rfl rfl rfl hc20 ?_
          have h21 := El_know_Version_2 h4
          refine V_y (Y_fieldAddr Tryz.underlying24 rfl Tryz.sizeOf9 (by decide) rfl) rfl rfl rfl ?_
          refine V_ge rfl rfl rfl hc20 ?_
          refine V_y (Y_load (El.str h21) Tryz.isAgg9 rfl) rfl rfl rfl ?_
          refine V_ge rfl rfl rfl hc20 ?_
          obtain ⟨x22, hx22, ho11⟩ := Option.bind_eq_some_iff.1 ho11
          refine V_call Tryz.call64 rfl rfl rfl rfl (know_lines_c (Dw := Dw) w2 hA (Mx.tr (Dw := Dw) hT hK) v.body hx22) ?_
          rintro v23 w25 ⟨_, rfl, h24, hk26⟩
          have ht27 := Kp.tr (Dw := Dw) hk26 hA hB
          replace hH := Hp.kp (Dw := Dw) hH hk26
          replace h4 := El.tr (Dw := Dw) h4 ht27
          replace h19 := El.tr (Dw := Dw) h19 ht27
          replace h21 := El.tr (Dw := Dw) h21 ht27
          replace hK := Tr.trans (Dw := Dw) hK ht27
          replace hr13 := Tr.trans (Dw := Dw) hr13 ht27
          replace hB := Nat.le_trans hB ht27.ex.size
          replace hA := ht27.new
          refine V_ge rfl rfl rfl hc20 ?_
          refine V_y (Y_lenSl h24 rfl Tryz.underlying70 rfl) rfl rfl rfl ?_
          refine V_ge rfl rfl rfl hc20 ?_
          refine V_y (Y_gtr rfl rfl) rfl rfl rfl ?_
          refine V_y (Y_pick_te rfl hc20 rfl) rfl rfl rfl ?_
          refine V_y (Y_assign rfl) rfl rfl rfl ?_
          obtain rfl := Option.some.inj ho11
          refine V_end (fun a ha28 => ?_)
          exact ⟨A, ha28.sub ⟨rfl, rfl, trivial⟩, ⟨hH, hr13⟩⟩
        · rw [if_neg (nt hc20)] at ho11
          refine V_gn rfl rfl rfl hc20 rfl rfl rfl ?_
          refine V_gn rfl rfl rfl hc20 rfl rfl rfl ?_
          refine V_gn rfl rfl rfl hc20 rfl rfl rfl ?_
          refine V_gn rfl rfl rfl hc20 rfl rfl rfl ?_
          refine V_gn rfl rfl rfl hc20 rfl rfl rfl ?_
          refine V_y (Y_pick_fe rfl hc20 rfl) rfl rfl rfl ?_
          refine V_y (Y_assign rfl) rfl rfl rfl ?_
          obtain rfl := Option.some.inj ho11
          refine V_end (fun a ha29 => ?_)
          exact ⟨A, ha29.sub ⟨rfl, rfl, trivial⟩, ⟨hH, hr13⟩⟩
      rintro A17 w14 ⟨hH18, hk15⟩ a ha16
      replace h4 := El.tr (Dw := Dw) h4 hk15
      replace hK := Tr.trans (Dw := Dw) hK hk15
      replace hB := Nat.le_trans hB hk15.ex.size
      replace hA := hk15.new
      replace hH : Hp w.heap.size A17 w14 ([]) := hH18
      refine C_at (n := ⟨44, [], none⟩) (fun _ _ => rfl) ?_ ha16
      refine C_cond rfl (fun hc30 => ?_) (fun hc30 => ?_)
      · rw [if_pos hc30] at hm
        refine C_seq ?_
        refine C_region ?_
        refine V_y (Y_assign rfl) rfl rfl rfl ?_
        refine V_to (fun _ _ => rfl) ?_
        obtain rfl := Option.some.inj hm
        refine C_ret ?_
        try simp only [↓inBlock_ret, ↓then_ret]
        exact retQ rfl (Res.one Tryz.results51 rfl) ⟨rfl, hK.kp⟩
      · rw [if_neg (nt hc30)] at hm
        refine C_skip_to (fun _ _ => rfl) ?_
        refine C_seq ?_
        refine C_seq ?_
        refine C_region ?_
        have h31 := El_know_Version_1 h4
        refine V_y (Y_fieldAddr Tryz.underlying24 rfl Tryz.sizeOf9 (by decide) rfl) rfl rfl rfl ?_
        refine V_y (Y_load (El.str h31) Tryz.isAgg9 rfl) rfl rfl rfl ?_
        have h32 := El_know_Version_2 h4
        refine V_y (Y_fieldAddr Tryz.underlying24 rfl Tryz.sizeOf9 (by decide) rfl) rfl rfl rfl ?_
        refine V_y (Y_load (El.str h32) Tryz.isAgg9 rfl) rfl rfl rfl ?_
        obtain ⟨x33, hx33, hm⟩ := Option.bind_eq_some_iff.1 hm
        refine V_call Tryz.call65 rfl rfl rfl rfl (know_checkText_c w14 v.title v.body hx33) ?_
        rintro _ _ ⟨rfl, rfl⟩
        refine V_y (Y_assign rfl) rfl rfl rfl ?_
        refine V_to (fun _ _ => rfl) ?_
        refine C_seq ?_
        refine C_region ?_
        refine V_y (Y_move rfl) rfl rfl rfl ?_
        refine V_y (Y_neq rfl rfl) rfl rfl rfl ?_
        refine V_to (fun _ _ => rfl) ?_
        refine C_cond rfl (fun hc34 => ?_) (fun hc34 => ?_)
        · rw [if_pos hc34] at hm
          refine C_seq ?_
          refine C_region ?_
          refine V_y (Y_move rfl) rfl rfl rfl ?_
          refine V_y (Y_assign rfl) rfl rfl rfl ?_
          refine V_to (fun _ _ => rfl) ?_
          obtain rfl := Option.some.inj hm
          refine C_ret ?_
          try simp only [↓inBlock_ret, ↓then_ret]
          exact retQ rfl (Res.one Tryz.results51 rfl) ⟨rfl, hK.kp⟩
        · rw [if_neg (nt hc34)] at hm
          refine C_skip_to (fun _ _ => rfl) ?_
          refine C_seq ?_
          refine C_seq ?_
          refine C_region ?_
          have h35 := El_know_Version_1 h4
          refine V_y (Y_fieldAddr Tryz.underlying24 rfl Tryz.sizeOf9 (by decide) rfl) rfl rfl rfl ?_
          refine V_y (Y_load (El.str h35) Tryz.isAgg9 rfl) rfl rfl rfl ?_
          refine V_y (Y_seql rfl rfl) rfl rfl rfl ?_
          refine V_y (Y_move rfl) rfl rfl rfl ?_
          refine V_cut 4 (fun _ : Unit => [(43, .bool ((strEq v.title (⟨#[]⟩ : ByteArray)) && (!(strEq v.body (⟨#[]⟩ : ByteArray)))))]) (fun _ w' => w14 = w') ?_ ?_
          · simp only [List.take, List.drop]
            rcases Bool.eq_false_or_eq_true (strEq v.title (⟨#[]⟩ : ByteArray)) with hc36 | hc36
            · refine V_ge rfl rfl rfl hc36 ?_
              have h38 := El_know_Version_2 h4
              refine V_y (Y_fieldAddr Tryz.underlying24 rfl Tryz.sizeOf9 (by decide) rfl) rfl rfl rfl ?_
              refine V_ge rfl rfl rfl hc36 ?_
              refine V_y (Y_load (El.str h38) Tryz.isAgg9 rfl) rfl rfl rfl ?_
              refine V_ge rfl rfl rfl hc36 ?_
              refine V_y (Y_sneq rfl rfl) rfl rfl rfl ?_
              refine V_y (Y_pick_te rfl hc36 rfl) rfl rfl rfl ?_
              exact V_end fun a ha => ⟨(), ha.sub ⟨(by rw [hc36]; rfl), trivial⟩, rfl⟩
            · refine V_gn rfl rfl rfl hc36 rfl rfl rfl ?_
              refine V_gn rfl rfl rfl hc36 rfl rfl rfl ?_
              refine V_gn rfl rfl rfl hc36 rfl rfl rfl ?_
              refine V_y (Y_pick_fe rfl hc36 rfl) rfl rfl rfl ?_
              exact V_end fun a ha => ⟨(), ha.sub ⟨(by rw [hc36]; rfl), trivial⟩, rfl⟩
          simp only [List.take, List.drop]
          rintro _ _ rfl
          refine V_to (fun _ _ => rfl) ?_
          refine C_cond rfl (fun hc39 => ?_) (fun hc39 => ?_)
          · rw [if_pos hc39] at hm
            refine C_seq ?_
            refine C_region ?_
            refine V_y (Y_assign rfl) rfl rfl rfl ?_
            refine V_to (fun _ _ => rfl) ?_
            obtain rfl := Option.some.inj hm
            refine C_ret ?_
            try simp only [↓inBlock_ret, ↓then_ret]
            exact retQ rfl (Res.one Tryz.results51 rfl) ⟨rfl, hK.kp⟩
          · rw [if_neg (nt hc39)] at hm
            refine C_skip_to (fun _ _ => rfl) ?_
            refine C_seq ?_
            refine C_region ?_
            refine V_y (Y_assign rfl) rfl rfl rfl ?_
            refine V_to (fun _ _ => rfl) ?_
            obtain rfl := Option.some.inj hm
            refine C_ret ?_
            try simp only [↓inBlock_ret, ↓then_ret]
            exact retQ rfl (Res.one Tryz.results51 rfl) ⟨rfl, hK.kp⟩

set_option maxRecDepth 4000 in
set_option maxHeartbeats 4000000 in
theorem know_CheckArticles_c (w : World) {A : Nat → Prop} (hA : ∀ b, w.heap.size ≤ b → A b) (hT : Mx Tryz.prog 0 A w) (l : (List know_Article)) (v_l : Value) (h_l : Sl A w v_l l) {r : Int} (hm : know_CheckArticles l = some r) : Ret Tryz.prog 9 #[v_l] w fun v w' => v = .int .i64 r ∧ Kp Dw w w' := by
  unfold know_CheckArticles at hm
  refine enter Tryz.func9 rfl Tryz.ntmps9 rfl ?_
  have hA0 := hA
  have hB := Nat.le_refl w.heap.size
  have hK : Tr Dw w.heap.size A w A w := Tr.refl (Dw := Dw) hA
  have hH : Hp w.heap.size A w [] := Hp.nil
  refine C_seq ?_
  refine C_region ?_
  refine V_y (Y_assign rfl) rfl rfl rfl ?_
  refine V_to (fun _ _ => rfl) ?_
  refine C_seq ?_
  refine C_seq ?_
  refine C_region ?_
  refine V_y (Y_move rfl) rfl rfl rfl ?_
  refine V_y (Y_lenSl h_l rfl Tryz.underlying22 rfl) rfl rfl rfl ?_
  refine V_y (Y_gtr rfl rfl) rfl rfl rfl ?_
  refine V_to (fun _ _ => rfl) ?_
  refine C_cond rfl (fun hc3 => ?_) (fun hc3 => ?_)
  · rw [if_pos hc3] at hm
    refine C_seq ?_
    refine C_region ?_
    refine V_y (Y_assign rfl) rfl rfl rfl ?_
    refine V_to (fun _ _ => rfl) ?_
    obtain rfl := Option.some.inj hm
    refine C_ret ?_
    try simp only [↓inBlock_ret, ↓then_ret]
    exact retQ rfl (Res.one Tryz.results9 rfl) ⟨rfl, hK.kp⟩
  · rw [if_neg (nt hc3)] at hm
    refine C_skip_to (fun _ _ => rfl) ?_
    refine C_seq ?_
    refine C_seq ?_
    refine C_region ?_
    refine V_y (Y_move rfl) rfl rfl rfl ?_
    refine V_y (Y_lenSl h_l rfl Tryz.underlying22 rfl) rfl rfl rfl ?_
    refine V_y (Y_move rfl) rfl rfl rfl ?_
    refine V_to (fun _ _ => rfl) ?_
    have hn25 := Sl.le h_l
    obtain ⟨o4, ho4, hm⟩ := Option.bind_eq_some_iff.1 hm
    refine C_cutG (ι := (Unit × (Nat → Prop))) (fun ⟨s5, A12⟩ => []) (fun ⟨s5, A12⟩ => fun w' => o4 = .fin s5 ∧ Hp w.heap.size A12 w' ([]) ∧ Tr Dw w.heap.size A w A12 w') ?_ ?_
    · refine C_block ?_
      refine C_range ho4 (fun k7 _ a w' => ∃ i : (Nat → Prop), Has ⟨66, [], none⟩ a ([(0, v_l), (12, v_l), (13, .int .i64 (l.length : Int)), (14, .int .i64 (k7 : Int))]) ∧ Hp w.heap.size i w' ([]) ∧ Tr Dw w.heap.size A w i w') (fun a ha => ⟨A, ha.sub ⟨rfl, rfl, rfl, rfl, trivial⟩, ⟨hH, Tr.refl (Dw := Dw) hA⟩⟩) ?_
      rintro K k7 _ a w15 ⟨A16, ha126, hH17, hr6⟩ hle21 K24 h23
      refine C_of ?_ ha126
      replace h_l := Sl.tr (Dw := Dw) h_l hr6
      replace hK := Tr.trans (Dw := Dw) hK hr6
      replace hB := Nat.le_trans hB hr6.ex.size
      replace hA := hr6.new
      replace hH : Hp w.heap.size A16 w15 ([]) := hH17
      refine C_seq (C_region (V_y (Y_lss rfl rfl) rfl rfl rfl (V_to (fun _ _ => rfl) ?_)))
      refine C_seq ?_
      refine C_cond rfl (fun hc26 => ?_) (fun hc26 => ?_)
      · have hlt22 := lt_of_dec hc26
        obtain ⟨x18, h19, h20⟩ := K24 hlt22
        refine C_skip_to (fun _ _ => rfl) ?_
        refine C_seq ?_
        obtain ⟨o27, ho27, h19⟩ := Option.bind_eq_some_iff.1 h19
        refine C_cutG (ι := (Unit × (Nat → Prop))) (fun ⟨s28, A33⟩ => [(0, v_l), (12, v_l), (13, .int .i64 (l.length : Int)), (14, .int .i64 (k7 : Int))]) (fun ⟨s28, A33⟩ => fun w' => o27 = .fin s28 ∧ Hp w.heap.size A33 w' ([]) ∧ Tr Dw w.heap.size A16 w15 A33 w') ?_ ?_
        · have hr29 : Tr Dw w.heap.size A16 w15 A16 w15 := Tr.refl (Dw := Dw) hA
          refine C_block ?_
          refine C_seq ?_
          refine C_region ?_
          refine V_y (Y_move rfl) rfl rfl rfl ?_
          obtain ⟨x35, hx35, ho27⟩ := Option.bind_eq_some_iff.1 ho27
          refine V_indexAddr h_l hx35 Tryz.underlying22 Tryz.sizeOf36 rfl rfl rfl ?_
          intro b36 o37 h38
          obtain ⟨v39, h41, h40⟩ := El_know_Article h38
          refine V_y (Y_loadA h41 Tryz.isAgg36 Tryz.sizeOf36 rfl) rfl rfl rfl ?_
          refine V_alloc Tryz.zeroValue36 rfl ?_
          intro b42 w43 h44
          refine V_y (Y_assign rfl) rfl rfl rfl ?_
          have h49 : (v39).oneCell' = true := by obtain ⟨_, _, e, _⟩ := Sl.form h40; rw [e]; rfl
          refine V_storeNew h44 Tryz.sizeOf36 rfl rfl rfl rfl (by exact (List.forall_mem_cons.2 ⟨rfl, (List.forall_mem_cons.2 ⟨rfl, (List.forall_mem_cons.2 ⟨h49, (fun _ h => nomatch h)⟩)⟩)⟩)) ?_
          intro w45 h46
          have hk51 := h46.kp (Dw := Dw)
          have h50 : El (α := know_Article) A16 w45 b42 0 x35 := h46.el hA ⟨[.int .i64 x35.id_], _, rfl, rfl, ⟨[.int .i64 x35.group], _, rfl, rfl, ⟨_, rfl, h40⟩⟩⟩
          have ht52 := Kp.tr (Dw := Dw) hk51 hA hB
          replace hH := Hp.kp (Dw := Dw) hH hk51
          replace h_l := Sl.tr (Dw := Dw) h_l ht52
          replace h38 := El.tr (Dw := Dw) h38 ht52
          replace h40 := Sl.tr (Dw := Dw) h40 ht52
          replace hK := Tr.trans (Dw := Dw) hK ht52
          replace hr6 := Tr.trans (Dw := Dw) hr6 ht52
          replace hr29 := Tr.trans (Dw := Dw) hr29 ht52
          replace hB := Nat.le_trans hB ht52.ex.size
          replace hA := ht52.new
          refine V_to (fun _ _ => rfl) ?_
          refine C_seq ?_
          refine C_block ?_
          refine C_seq ?_
          refine C_region ?_
          have h53 := El_know_Article_0 h50
          refine V_y (Y_fieldAddr Tryz.underlying36 rfl Tryz.sizeOf3 (by decide) rfl) rfl rfl rfl ?_
          refine V_y (Y_load (El.int h53) Tryz.isAgg3 rfl) rfl rfl rfl ?_
          refine V_call Tryz.call10 rfl rfl rfl rfl (know_within_c w45 x35.id_ 1 3000000) ?_
          rintro _ _ ⟨rfl, rfl⟩
          refine V_y (Y_not rfl) rfl rfl rfl ?_
          refine V_y (Y_assign rfl) rfl rfl rfl ?_
          refine V_to (fun _ _ => rfl) ?_
          refine C_cond rfl (fun hc54 => ?_) (fun hc54 => ?_)
          · rw [if_pos hc54] at ho27
            refine C_seq ?_
            refine C_region ?_
            refine V_y (Y_assign rfl) rfl rfl rfl ?_
            refine V_to (fun _ _ => rfl) ?_
            obtain rfl := Option.some.inj ho27
            rw [Lp.andThen_rt] at h19
            obtain rfl := Option.some.inj h19
            obtain rfl := (h20 : Lp.rt _ = _)
            rw [Lp.andThen_rt] at hm
            obtain rfl := Option.some.inj hm
            refine C_ret ?_
            try simp only [↓inBlock_ret, ↓then_ret]
            exact retQ rfl (Res.one Tryz.results9 rfl) ⟨rfl, hK.kp⟩
          · rw [if_neg (nt hc54)] at ho27
            refine C_seq ?_
            refine C_region_q (Dw := Dw) Tryz_mixed (by kernel_rfl) ?_
            refine VQ_y (fun w' hw' => Y_move rfl) rfl rfl rfl ?_
            refine VQ_y (fun w' hw' => Y_gtr rfl rfl) rfl rfl rfl ?_
            refine VQ_y (fun w' hw' => Y_move rfl) rfl rfl rfl ?_
            obtain ⟨s56, hs56, ho27⟩ := Option.bind_eq_some_iff.1 ho27
            refine VQ_cut 10 (fun _ : Unit => [(0, v_l), (4, .pointer (some ⟨b42, 0, none⟩)), (12, v_l), (13, .int .i64 (l.length : Int)), (14, .int .i64 (k7 : Int)), (37, .bool s56)]) (fun _ => True) ?_ ?_
            · simp only [List.take, List.drop]
              rcases Bool.eq_false_or_eq_true (decide ((0 : Int) < (k7 : Int))) with hc55 | hc55
              · rw [if_pos hc55] at hs56
                refine VQ_ge rfl rfl rfl hc55 ?_
                have h57 := El_know_Article_0 h50
                refine VQ_y (fun w' hw' => Y_fieldAddr Tryz.underlying36 rfl Tryz.sizeOf3 (by decide) rfl) rfl rfl rfl ?_
                refine VQ_ge rfl rfl rfl hc55 ?_
                refine VQ_y (fun w' hw' => Y_load (El.int (El.kp (Dw := Dw) h57 hw')) Tryz.isAgg3 rfl) rfl rfl rfl ?_
                refine VQ_ge rfl rfl rfl hc55 ?_
                refine VQ_y (fun w' hw' => Y_move rfl) rfl rfl rfl ?_
                refine VQ_ge rfl rfl rfl hc55 ?_
                refine VQ_y (fun w' hw' => Y_move rfl) rfl rfl rfl ?_
                refine VQ_ge rfl rfl rfl hc55 ?_
                refine VQ_y (fun w' hw' => Y_subI rfl rfl) rfl rfl rfl ?_
                refine VQ_ge rfl rfl rfl hc55 ?_
                obtain ⟨x58, hx58, hs56⟩ := Option.bind_eq_some_iff.1 hs56
                refine VQ_indexAddr h_l hx58 Tryz.underlying22 Tryz.sizeOf36 rfl rfl rfl ?_
                intro b59 o60 h61
                refine VQ_ge rfl rfl rfl hc55 ?_
                have h62 := El_know_Article_0 h61
                refine VQ_y (fun w' hw' => Y_fieldAddr Tryz.underlying36 rfl Tryz.sizeOf3 (by decide) rfl) rfl rfl rfl ?_
                refine VQ_ge rfl rfl rfl hc55 ?_
                refine VQ_y (fun w' hw' => Y_load (El.int (El.kp (Dw := Dw) h62 hw')) Tryz.isAgg3 rfl) rfl rfl rfl ?_
                refine VQ_ge rfl rfl rfl hc55 ?_
                refine VQ_y (fun w' hw' => Y_leq rfl rfl) rfl rfl rfl ?_
                refine VQ_y (fun _ _ => Y_pick_te rfl hc55 rfl) rfl rfl rfl ?_
                obtain rfl := Option.some.inj hs56
                exact VQ_end fun a ha => ⟨(), ha.sub ⟨rfl, rfl, rfl, rfl, rfl, rfl, trivial⟩, trivial⟩
              · rw [if_neg (nt hc55)] at hs56
                refine VQ_gn rfl rfl rfl hc55 rfl rfl rfl ?_
                refine VQ_gn rfl rfl rfl hc55 rfl rfl rfl ?_
                refine VQ_gn rfl rfl rfl hc55 rfl rfl rfl ?_
                refine VQ_gn rfl rfl rfl hc55 rfl rfl rfl ?_
                refine VQ_gn rfl rfl rfl hc55 rfl rfl rfl ?_
                refine VQ_gn rfl rfl rfl hc55 rfl rfl rfl ?_
                refine VQ_gn rfl rfl rfl hc55 rfl rfl rfl ?_
                refine VQ_gn rfl rfl rfl hc55 rfl rfl rfl ?_
                refine VQ_gn rfl rfl rfl hc55 rfl rfl rfl ?_
                refine VQ_y (fun _ _ => Y_pick_fe rfl hc55 rfl) rfl rfl rfl ?_
                obtain rfl := Option.some.inj hs56
                exact VQ_end fun a ha => ⟨(), ha.sub ⟨rfl, rfl, rfl, rfl, rfl, rfl, trivial⟩, trivial⟩
            simp only [List.take, List.drop]
            rintro _ _
            refine VQ_y (fun w' hw' => Y_assign rfl) rfl rfl rfl ?_
            refine VQ_to (fun _ _ => rfl) (fun w63 hk64 => ?_)
            have ht65 := Kp.tr (Dw := Dw) hk64 hA hB
            replace hH := Hp.kp (Dw := Dw) hH hk64
            replace h_l := Sl.tr (Dw := Dw) h_l ht65
            replace h50 := El.tr (Dw := Dw) h50 ht65
            replace hK := Tr.trans (Dw := Dw) hK ht65
            replace hr6 := Tr.trans (Dw := Dw) hr6 ht65
            replace hr29 := Tr.trans (Dw := Dw) hr29 ht65
            replace hB := Nat.le_trans hB ht65.ex.size
            replace hA := ht65.new
            refine C_cond rfl (fun hc66 => ?_) (fun hc66 => ?_)
            · rw [if_pos hc66] at ho27
              refine C_seq ?_
              refine C_region ?_
              refine V_y (Y_assign rfl) rfl rfl rfl ?_
              refine V_to (fun _ _ => rfl) ?_
              obtain rfl := Option.some.inj ho27
              rw [Lp.andThen_rt] at h19
              obtain rfl := Option.some.inj h19
              obtain rfl := (h20 : Lp.rt _ = _)
              rw [Lp.andThen_rt] at hm
              obtain rfl := Option.some.inj hm
              refine C_ret ?_
              try simp only [↓inBlock_ret, ↓then_ret]
              exact retQ rfl (Res.one Tryz.results9 rfl) ⟨rfl, hK.kp⟩
            · rw [if_neg (nt hc66)] at ho27
              refine C_seq ?_
              refine C_region ?_
              have h67 := El_know_Article_1 h50
              refine V_y (Y_fieldAddr Tryz.underlying36 rfl Tryz.sizeOf3 (by decide) rfl) rfl rfl rfl ?_
              refine V_y (Y_load (El.int h67) Tryz.isAgg3 rfl) rfl rfl rfl ?_
              refine V_call Tryz.call10 rfl rfl rfl rfl (know_within_c w63 x35.group 0 40) ?_
              rintro _ _ ⟨rfl, rfl⟩
              refine V_y (Y_not rfl) rfl rfl rfl ?_
              refine V_y (Y_assign rfl) rfl rfl rfl ?_
              refine V_to (fun _ _ => rfl) ?_
              refine C_cond rfl (fun hc68 => ?_) (fun hc68 => ?_)
              · rw [if_pos hc68] at ho27
                refine C_seq ?_
                refine C_region ?_
                refine V_y (Y_assign rfl) rfl rfl rfl ?_
                refine V_to (fun _ _ => rfl) ?_
                obtain rfl := Option.some.inj ho27
                rw [Lp.andThen_rt] at h19
                obtain rfl := Option.some.inj h19
                obtain rfl := (h20 : Lp.rt _ = _)
                rw [Lp.andThen_rt] at hm
                obtain rfl := Option.some.inj hm
                refine C_ret ?_
                try simp only [↓inBlock_ret, ↓then_ret]
                exact retQ rfl (Res.one Tryz.results9 rfl) ⟨rfl, hK.kp⟩
              · rw [if_neg (nt hc68)] at ho27
                refine C_seq ?_
                refine C_region ?_
                have h69 := El_know_Article_2 h50
                refine V_y (Y_fieldAddr Tryz.underlying36 rfl Tryz.sizeOf34 (by decide) rfl) rfl rfl rfl ?_
                obtain ⟨v70, h71, h72⟩ := El.list h69
                refine V_y (Y_load h71 Tryz.isAgg34 rfl) rfl rfl rfl ?_
                refine V_y (Y_lenSl h72 rfl Tryz.underlying34 rfl) rfl rfl rfl ?_
                refine V_call Tryz.call10 rfl rfl rfl rfl (know_within_c w63 (x35.versions.length : Int) 1 40) ?_
                rintro _ _ ⟨rfl, rfl⟩
                refine V_y (Y_not rfl) rfl rfl rfl ?_
                refine V_y (Y_assign rfl) rfl rfl rfl ?_
                refine V_to (fun _ _ => rfl) ?_
                refine C_cond rfl (fun hc73 => ?_) (fun hc73 => ?_)
                · rw [if_pos hc73] at ho27
                  refine C_seq ?_
                  refine C_region ?_
                  refine V_y (Y_assign rfl) rfl rfl rfl ?_
                  refine V_to (fun _ _ => rfl) ?_
                  obtain rfl := Option.some.inj ho27
                  rw [Lp.andThen_rt] at h19
                  obtain rfl := Option.some.inj h19
                  obtain rfl := (h20 : Lp.rt _ = _)
                  rw [Lp.andThen_rt] at hm
                  obtain rfl := Option.some.inj hm
                  refine C_ret ?_
                  try simp only [↓inBlock_ret, ↓then_ret]
                  exact retQ rfl (Res.one Tryz.results9 rfl) ⟨rfl, hK.kp⟩
                · rw [if_neg (nt hc73)] at ho27
                  refine C_skip_to (fun _ _ => rfl) ?_
                  refine C_seq ?_
                  refine C_region ?_
                  refine V_y (Y_assign rfl) rfl rfl rfl ?_
                  refine V_to (fun _ _ => rfl) ?_
                  refine C_seq ?_
                  refine C_region ?_
                  have h74 := El_know_Article_2 h50
                  refine V_y (Y_fieldAddr Tryz.underlying36 rfl Tryz.sizeOf34 (by decide) rfl) rfl rfl rfl ?_
                  obtain ⟨v75, h76, h77⟩ := El.list h74
                  refine V_y (Y_load h76 Tryz.isAgg34 rfl) rfl rfl rfl ?_
                  refine V_y (Y_lenSl h77 rfl Tryz.underlying34 rfl) rfl rfl rfl ?_
                  refine V_y (Y_move rfl) rfl rfl rfl ?_
                  refine V_to (fun _ _ => rfl) ?_
                  have hn98 := Sl.le h77
                  obtain ⟨o78, ho78, ho27⟩ := Option.bind_eq_some_iff.1 ho27
                  refine C_cutG (ι := (Int × (Nat → Prop))) (fun ⟨s79, A85⟩ => [(0, v_l), (12, v_l), (13, .int .i64 (l.length : Int)), (14, .int .i64 (k7 : Int))]) (fun ⟨s79, A85⟩ => fun w' => o78 = .fin s79 ∧ Hp w.heap.size A85 w' ([]) ∧ Tr Dw w.heap.size A16 w63 A85 w') ?_ ?_
                  · refine C_block ?_
                    refine C_range ho78 (fun k81 s87 a w' => ∃ i : (Nat → Prop), Has ⟨66, [], none⟩ a ([(0, v_l), (5, .int .i64 s87), (12, v_l), (13, .int .i64 (l.length : Int)), (14, .int .i64 (k7 : Int)), (50, v75), (51, .int .i64 (x35.versions.length : Int)), (52, .int .i64 (k81 : Int))]) ∧ Hp w.heap.size i w' ([]) ∧ Tr Dw w.heap.size A16 w63 i w') (fun a ha => ⟨A16, ha.sub ⟨rfl, rfl, rfl, rfl, rfl, rfl, rfl, rfl, trivial⟩, ⟨hH, Tr.refl (Dw := Dw) hA⟩⟩) ?_
                    rintro K k81 s87 a w88 ⟨A89, ha122, hH90, hr80⟩ hle94 K97 h96
                    refine C_of ?_ ha122
                    replace h_l := Sl.tr (Dw := Dw) h_l hr80
                    replace h77 := Sl.tr (Dw := Dw) h77 hr80
                    replace hK := Tr.trans (Dw := Dw) hK hr80
                    replace hr6 := Tr.trans (Dw := Dw) hr6 hr80
                    replace hr29 := Tr.trans (Dw := Dw) hr29 hr80
                    replace hB := Nat.le_trans hB hr80.ex.size
                    replace hA := hr80.new
                    replace hH : Hp w.heap.size A89 w88 ([]) := hH90
                    refine C_seq (C_region (V_y (Y_lss rfl rfl) rfl rfl rfl (V_to (fun _ _ => rfl) ?_)))
                    refine C_seq ?_
                    refine C_cond rfl (fun hc99 => ?_) (fun hc99 => ?_)
                    · have hlt95 := lt_of_dec hc99
                      obtain ⟨x91, h92, h93⟩ := K97 hlt95
                      refine C_skip_to (fun _ _ => rfl) ?_
                      refine C_seq ?_
                      refine C_block ?_
                      refine C_seq ?_
                      refine C_region ?_
                      obtain ⟨x100, hx100, h92⟩ := Option.bind_eq_some_iff.1 h92
                      refine V_indexAddr h77 hx100 Tryz.underlying34 Tryz.sizeOf24 rfl rfl rfl ?_
                      intro b101 o102 h103
                      obtain ⟨h104, _⟩ := El_know_Version h103
                      refine V_y (Y_loadA h104 Tryz.isAgg24 Tryz.sizeOf24 rfl) rfl rfl rfl ?_
                      refine V_alloc Tryz.zeroValue24 rfl ?_
                      intro b105 w106 h107
                      refine V_storeNew h107 Tryz.sizeOf24 rfl rfl rfl rfl (by exact (List.forall_mem_cons.2 ⟨rfl, (List.forall_mem_cons.2 ⟨rfl, (List.forall_mem_cons.2 ⟨rfl, (fun _ h => nomatch h)⟩)⟩)⟩)) ?_
                      intro w108 h109
                      have hk111 := h109.kp (Dw := Dw)
                      have h110 : El (α := know_Version) A89 w108 b105 0 x100 := h109.el hA ⟨[.int .i64 x100.at_], _, rfl, rfl, ⟨[.string x100.title], _, rfl, rfl, rfl⟩⟩
                      have ht112 := Kp.tr (Dw := Dw) hk111 hA hB
                      replace hH := Hp.kp (Dw := Dw) hH hk111
                      replace h_l := Sl.tr (Dw := Dw) h_l ht112
                      replace h77 := Sl.tr (Dw := Dw) h77 ht112
                      replace h103 := El.tr (Dw := Dw) h103 ht112
                      replace hK := Tr.trans (Dw := Dw) hK ht112
                      replace hr6 := Tr.trans (Dw := Dw) hr6 ht112
                      replace hr29 := Tr.trans (Dw := Dw) hr29 ht112
                      replace hr80 := Tr.trans (Dw := Dw) hr80 ht112
                      replace hB := Nat.le_trans hB ht112.ex.size
                      replace hA := ht112.new
                      refine V_to (fun _ _ => rfl) ?_
                      refine C_seq ?_
                      refine C_seq ?_
                      refine C_region ?_
                      obtain ⟨h113, _⟩ := El_know_Version h110
                      refine V_y (Y_loadA h113 Tryz.isAgg24 Tryz.sizeOf24 rfl) rfl rfl rfl ?_
                      refine V_y (Y_move rfl) rfl rfl rfl ?_
                      obtain ⟨x114, hx114, h92⟩ := Option.bind_eq_some_iff.1 h92
                      refine V_call Tryz.call51 rfl rfl rfl rfl (know_checkVersion_c (Dw := Dw) w108 hA (Mx.tr (Dw := Dw) hT hK) x100 s87 hx114) ?_
                      rintro _ w115 ⟨rfl, hk116⟩
                      have ht117 := Kp.tr (Dw := Dw) hk116 hA hB
                      replace hH := Hp.kp (Dw := Dw) hH hk116
                      replace h_l := Sl.tr (Dw := Dw) h_l ht117
                      replace h77 := Sl.tr (Dw := Dw) h77 ht117
                      replace h110 := El.tr (Dw := Dw) h110 ht117
                      replace hK := Tr.trans (Dw := Dw) hK ht117
                      replace hr6 := Tr.trans (Dw := Dw) hr6 ht117
                      replace hr29 := Tr.trans (Dw := Dw) hr29 ht117
                      replace hr80 := Tr.trans (Dw := Dw) hr80 ht117
                      replace hB := Nat.le_trans hB ht117.ex.size
                      replace hA := ht117.new
                      refine V_y (Y_assign rfl) rfl rfl rfl ?_
                      refine V_to (fun _ _ => rfl) ?_
                      refine C_seq ?_
                      refine C_region ?_
                      refine V_y (Y_move rfl) rfl rfl rfl ?_
                      refine V_y (Y_neq rfl rfl) rfl rfl rfl ?_
                      refine V_to (fun _ _ => rfl) ?_
                      refine C_cond rfl (fun hc118 => ?_) (fun hc118 => ?_)
                      · rw [if_pos hc118] at h92
                        refine C_seq ?_
                        refine C_region ?_
                        refine V_y (Y_move rfl) rfl rfl rfl ?_
                        refine V_y (Y_assign rfl) rfl rfl rfl ?_
                        refine V_to (fun _ _ => rfl) ?_
                        obtain rfl := Option.some.inj h92
                        obtain rfl := (h93 : Lp.rt _ = _)
                        rw [Lp.andThen_rt] at ho27
                        obtain rfl := Option.some.inj ho27
                        rw [Lp.andThen_rt] at h19
                        obtain rfl := Option.some.inj h19
                        obtain rfl := (h20 : Lp.rt _ = _)
                        rw [Lp.andThen_rt] at hm
                        obtain rfl := Option.some.inj hm
                        refine C_ret ?_
                        try simp only [↓inBlock_ret, ↓then_ret]
                        exact retQ rfl (Res.one Tryz.results9 rfl) ⟨rfl, hK.kp⟩
                      · rw [if_neg (nt hc118)] at h92
                        refine C_skip_to (fun _ _ => rfl) ?_
                        refine C_region ?_
                        have h119 := El_know_Version_0 h110
                        refine V_y (Y_fieldAddr Tryz.underlying24 rfl Tryz.sizeOf3 (by decide) rfl) rfl rfl rfl ?_
                        refine V_y (Y_load (El.int h119) Tryz.isAgg3 rfl) rfl rfl rfl ?_
                        refine V_y (Y_assign rfl) rfl rfl rfl ?_
                        refine V_to (fun _ _ => rfl) ?_
                        refine C_region ?_
                        refine V_y (Y_addI rfl rfl) rfl rfl rfl ?_
                        refine V_y (Y_move rfl) rfl rfl rfl ?_
                        obtain rfl := Option.some.inj h92
                        refine V_end (fun a ha120 => ?_)
                        exact ⟨x100.at_, hlt95, h93, ⟨A89, ha120.sub ⟨rfl, rfl, rfl, rfl, rfl, rfl, rfl, (congrArg (fun z => some (Value.int .i64 z)) (w64_succ hlt95 hn98)), trivial⟩, ⟨hH, hr80⟩⟩⟩
                    · refine C_exit (fun a ha121 => ?_)
                      exact ⟨(s87, A89), ha121.sub ⟨rfl, rfl, rfl, rfl, trivial⟩, ⟨(h96 (eq_of_dec hle94 hc99)).symm, hH, hr80⟩⟩
                  rintro ⟨s79, A85⟩ w82 ⟨rfl, hH86, hk83⟩ a ha84
                  rw [Lp.andThen_fin] at ho27
                  replace h_l := Sl.tr (Dw := Dw) h_l hk83
                  replace hK := Tr.trans (Dw := Dw) hK hk83
                  replace hr6 := Tr.trans (Dw := Dw) hr6 hk83
                  replace hr29 := Tr.trans (Dw := Dw) hr29 hk83
                  replace hB := Nat.le_trans hB hk83.ex.size
                  replace hA := hk83.new
                  replace hH : Hp w.heap.size A85 w82 ([]) := hH86
                  obtain rfl := Option.some.inj ho27
                  exact ⟨((), A85), ha84.sub ⟨rfl, rfl, rfl, rfl, trivial⟩, ⟨rfl, hH, hr29⟩⟩
        rintro ⟨s28, A33⟩ w30 ⟨rfl, hH34, hk31⟩ a ha32
        rw [Lp.andThen_fin] at h19
        replace h_l := Sl.tr (Dw := Dw) h_l hk31
        replace hK := Tr.trans (Dw := Dw) hK hk31
        replace hr6 := Tr.trans (Dw := Dw) hr6 hk31
        replace hB := Nat.le_trans hB hk31.ex.size
        replace hA := hk31.new
        replace hH : Hp w.heap.size A33 w30 ([]) := hH34
        refine C_at (n := ⟨66, [], none⟩) (fun _ _ => rfl) ?_ ha32
        refine C_region ?_
        refine V_y (Y_addI rfl rfl) rfl rfl rfl ?_
        refine V_y (Y_move rfl) rfl rfl rfl ?_
        obtain rfl := Option.some.inj h19
        refine V_end (fun a ha124 => ?_)
        exact ⟨(), hlt22, h20, ⟨A33, ha124.sub ⟨rfl, rfl, rfl, (congrArg (fun z => some (Value.int .i64 z)) (w64_succ hlt22 hn25)), trivial⟩, ⟨hH, hr6⟩⟩⟩
      · refine C_exit (fun a ha125 => ?_)
        exact ⟨((), A16), ha125.sub trivial, ⟨(h23 (eq_of_dec hle21 hc26)).symm, hH, hr6⟩⟩
    rintro ⟨s5, A12⟩ w9 ⟨rfl, hH13, hk10⟩ a ha11
    rw [Lp.andThen_fin] at hm
    replace hK := Tr.trans (Dw := Dw) hK hk10
    replace hB := Nat.le_trans hB hk10.ex.size
    replace hA := hk10.new
    replace hH : Hp w.heap.size A12 w9 ([]) := hH13
    refine C_at (n := ⟨66, [], none⟩) (fun _ _ => rfl) ?_ ha11
    refine C_seq ?_
    refine C_region ?_
    refine V_y (Y_assign rfl) rfl rfl rfl ?_
    refine V_to (fun _ _ => rfl) ?_
    obtain rfl := Option.some.inj hm
    refine C_ret ?_
    try simp only [↓inBlock_ret, ↓then_ret]
    exact retQ rfl (Res.one Tryz.results9 rfl) ⟨rfl, hK.kp⟩

set_option maxRecDepth 4000 in
set_option maxHeartbeats 4000000 in
theorem slices_Clone_Lknow_Article_know_Article_c (w : World) {A : Nat → Prop} {B : Nat} (hB : B ≤ w.heap.size) (hA : ∀ b, w.heap.size ≤ b → A b) (s : (List know_Article)) (v_s : Value) (h_s : Sl A w v_s s) {L : List Ob} (hH : Hp B A w (L)) {r : (List know_Article)} (hm : slices_Clone_Lknow_Article_know_Article s = some r) : Ret Tryz.prog 11 #[v_s] w fun v w' => ∃ s0, ∃ A1 : Nat → Prop, v = s0 ∧ Hp B A1 w' (obS (α := know_Article) 36 s0 r :: L) ∧ Tr Dw B A w A1 w' := by
  unfold slices_Clone_Lknow_Article_know_Article at hm
  refine enter Tryz.func11 rfl Tryz.ntmps11 rfl ?_
  have hK : Tr Dw B A w A w := Tr.refl (Dw := Dw) hA
  rcases Sl.split h_s with ⟨rfl, rfl⟩ | ⟨a0, n0, c0, rfl⟩
  · replace hm : some ([] : (List know_Article)) = some r := by simpa [appendL] using hm
    refine C_seq ?_
    refine C_region ?_
    refine V_y (Y_assign rfl) rfl rfl rfl ?_
    refine V_to (fun _ _ => rfl) ?_
    refine C_seq ?_
    refine C_seq ?_
    refine C_region ?_
    refine V_y (Y_move rfl) rfl rfl rfl ?_
    refine V_y (Y_eqlNilT rfl rfl Tryz.underlying22) rfl rfl rfl ?_
    refine V_to (fun _ _ => rfl) ?_
    refine C_cond rfl (fun hc => ?_) (fun hc => ?_)
    · refine C_seq ?_
      refine C_region ?_
      refine V_y (Y_assign rfl) rfl rfl rfl ?_
      refine V_to (fun _ _ => rfl) ?_
      obtain rfl := Option.some.inj hm
      replace hH : Hp B A w (obS (α := know_Article) 36 (.slice none 0 0) ([] : (List know_Article)) :: L) := Hp.addNil (α := know_Article) (e := 36) hH
      refine C_ret ?_
      try simp only [↓inBlock_ret, ↓then_ret]
      exact retQ rfl (Res.one Tryz.results11 rfl) ⟨.slice none 0 0, A, rfl, hH, hK⟩
    · exact absurd hc (by decide)
  · refine C_seq ?_
    refine C_region ?_
    refine V_y (Y_assign rfl) rfl rfl rfl ?_
    refine V_to (fun _ _ => rfl) ?_
    refine C_seq ?_
    refine C_seq ?_
    refine C_region ?_
    refine V_y (Y_move rfl) rfl rfl rfl ?_
    refine V_y (Y_eqlNilF rfl rfl Tryz.underlying22) rfl rfl rfl ?_
    refine V_to (fun _ _ => rfl) ?_
    refine C_cond rfl (fun hc => ?_) (fun hc => ?_)
    · exact absurd hc (by decide)
    · refine C_skip_to (fun _ _ => rfl) ?_
      refine C_seq ?_
      refine C_region ?_
      refine V_buildOwn0H (Dw := Dw) (α := know_Article) hH Tryz.underlying22 Tryz.sizeOf36 hB hA rfl ?_
      intro v3 w4 A5 hH6 ht7
      replace h_s := Sl.tr (Dw := Dw) h_s ht7
      replace hK := Tr.trans (Dw := Dw) hK ht7
      replace hB := Nat.le_trans hB ht7.ex.size
      replace hA := ht7.new
      replace hH : Hp B A5 w4 (obS (α := know_Article) 36 v3 ([] : List know_Article) :: L) := hH6
      refine V_y (Y_move rfl) rfl rfl rfl ?_
      obtain ⟨x8, hx8, hm⟩ := Option.bind_eq_some_iff.1 hm
      refine V_appendH (Dw := Dw) (e := 36) (v := v3) (l := ([] : List know_Article)) (ti := Tryz.t36) (bytes := 40) (lim := 3518437208883) hH (i := 0) rfl h_s hx8 Tryz.underlying22 Tryz_info36 rfl rfl rfl rfl (by decide) (by decide) (by decide) hB hA rfl rfl rfl ?_
      intro v9 w10 A11 hH12 ht13
      replace h_s := Sl.tr (Dw := Dw) h_s ht13
      replace hK := Tr.trans (Dw := Dw) hK ht13
      replace hB := Nat.le_trans hB ht13.ex.size
      replace hA := ht13.new
      replace hH : Hp B A11 w10 (obS (α := know_Article) 36 v9 x8 :: L) := hH12
      refine V_y (Y_assign rfl) rfl rfl rfl ?_
      refine V_to (fun _ _ => rfl) ?_
      obtain rfl := Option.some.inj hm
      refine C_ret ?_
      try simp only [↓inBlock_ret, ↓then_ret]
      exact retQ rfl (Res.one Tryz.results11 rfl) ⟨v9, A11, rfl, hH, hK⟩

set_option maxRecDepth 4000 in
set_option maxHeartbeats 4000000 in
theorem slices_Clone_Lknow_Version_know_Version_c (w : World) {A : Nat → Prop} (hA : ∀ b, w.heap.size ≤ b → A b) (s : (List know_Version)) (v_s : Value) (h_s : Sl A w v_s s) {r : (List know_Version)} (hm : slices_Clone_Lknow_Version_know_Version s = some r) : Ret Tryz.prog 12 #[v_s] w fun v w' => ∃ s0, v = s0 ∧ Ownd 24 w w' s0 r ∧ Kp Dw w w' := by
  unfold slices_Clone_Lknow_Version_know_Version at hm
  refine enter Tryz.func12 rfl Tryz.ntmps12 rfl ?_
  have hA0 := hA
  have hB := Nat.le_refl w.heap.size
  have hK : Tr Dw w.heap.size A w A w := Tr.refl (Dw := Dw) hA
  have hH : Hp w.heap.size A w [] := Hp.nil
  rcases Sl.split h_s with ⟨rfl, rfl⟩ | ⟨a0, n0, c0, rfl⟩
  · replace hm : some ([] : (List know_Version)) = some r := by simpa [appendL] using hm
    refine C_seq ?_
    refine C_region ?_
    refine V_y (Y_assign rfl) rfl rfl rfl ?_
    refine V_to (fun _ _ => rfl) ?_
    refine C_seq ?_
    refine C_seq ?_
    refine C_region ?_
    refine V_y (Y_move rfl) rfl rfl rfl ?_
    refine V_y (Y_eqlNilT rfl rfl Tryz.underlying34) rfl rfl rfl ?_
    refine V_to (fun _ _ => rfl) ?_
    refine C_cond rfl (fun hc => ?_) (fun hc => ?_)
    · refine C_seq ?_
      refine C_region ?_
      refine V_y (Y_assign rfl) rfl rfl rfl ?_
      refine V_to (fun _ _ => rfl) ?_
      obtain rfl := Option.some.inj hm
      replace hH : Hp w.heap.size A w (obS (α := know_Version) 24 (.slice none 0 0) ([] : (List know_Version)) :: []) := Hp.addNil (α := know_Version) (e := 24) hH
      refine C_ret ?_
      try simp only [↓inBlock_ret, ↓then_ret]
      exact retQ rfl (Res.one Tryz.results12 rfl) ⟨.slice none 0 0, rfl, (Hp.ownd hH (i := 0) rfl), hK.kp⟩
    · exact absurd hc (by decide)
  · refine C_seq ?_
    refine C_region ?_
    refine V_y (Y_assign rfl) rfl rfl rfl ?_
    refine V_to (fun _ _ => rfl) ?_
    refine C_seq ?_
    refine C_seq ?_
    refine C_region ?_
    refine V_y (Y_move rfl) rfl rfl rfl ?_
    refine V_y (Y_eqlNilF rfl rfl Tryz.underlying34) rfl rfl rfl ?_
    refine V_to (fun _ _ => rfl) ?_
    refine C_cond rfl (fun hc => ?_) (fun hc => ?_)
    · exact absurd hc (by decide)
    · refine C_skip_to (fun _ _ => rfl) ?_
      refine C_seq ?_
      refine C_region ?_
      refine V_buildOwn0H (Dw := Dw) (α := know_Version) hH Tryz.underlying34 Tryz.sizeOf24 hB hA rfl ?_
      intro v3 w4 A5 hH6 ht7
      replace h_s := Sl.tr (Dw := Dw) h_s ht7
      replace hK := Tr.trans (Dw := Dw) hK ht7
      replace hB := Nat.le_trans hB ht7.ex.size
      replace hA := ht7.new
      replace hH : Hp w.heap.size A5 w4 (obS (α := know_Version) 24 v3 ([] : List know_Version) :: []) := hH6
      refine V_y (Y_move rfl) rfl rfl rfl ?_
      obtain ⟨x8, hx8, hm⟩ := Option.bind_eq_some_iff.1 hm
      refine V_appendH (Dw := Dw) (e := 24) (v := v3) (l := ([] : List know_Version)) (ti := Tryz.t24) (bytes := 40) (lim := 3518437208883) hH (i := 0) rfl h_s hx8 Tryz.underlying34 Tryz_info24 rfl rfl rfl rfl (by decide) (by decide) (by decide) hB hA rfl rfl rfl ?_
      intro v9 w10 A11 hH12 ht13
      replace h_s := Sl.tr (Dw := Dw) h_s ht13
      replace hK := Tr.trans (Dw := Dw) hK ht13
      replace hB := Nat.le_trans hB ht13.ex.size
      replace hA := ht13.new
      replace hH : Hp w.heap.size A11 w10 (obS (α := know_Version) 24 v9 x8 :: []) := hH12
      refine V_y (Y_assign rfl) rfl rfl rfl ?_
      refine V_to (fun _ _ => rfl) ?_
      obtain rfl := Option.some.inj hm
      refine C_ret ?_
      try simp only [↓inBlock_ret, ↓then_ret]
      exact retQ rfl (Res.one Tryz.results12 rfl) ⟨v9, rfl, (Hp.ownd hH (i := 0) rfl), hK.kp⟩

set_option maxRecDepth 4000 in
set_option maxHeartbeats 4000000 in
theorem slices_BinarySearchFunc_Lknow_Article_know_Article_int_c (w : World) {A : Nat → Prop} (hA : ∀ b, w.heap.size ≤ b → A b) (x : (List know_Article)) (v_x : Value) (h_x : Sl A w v_x x) (target : Int) (cmp : know_Article → Int → Option Int) (cmp_f : FuncId) (cmp_a cmp_c : Array Value) (cmp_call : ∀ (args : Array Value) (w : World), (callFunc cmp_f args).run Tryz.prog w = .ok (.enter cmp_f args) w) (cmp_spec : ∀ (w1 : World) (A1 : Nat → Prop), Tr Dw w.heap.size A w A1 w1 → (∀ b, w1.heap.size ≤ b → A1 b) → ∀ (y0 : know_Article) (v1 : Value) (h2 : Sl A1 w1 v1 y0.versions) (y1 : Int) (r : Int), cmp y0 y1 = some r → Ret Tryz.prog cmp_f (cmp_a ++ #[.agg #[.int .i64 y0.id_, .int .i64 y0.group, v1], .int .i64 y1] ++ cmp_c) w1 fun v w' => v = .int .i64 r ∧ Kp Dw w1 w') {r : (Int × Bool)} (hm : slices_BinarySearchFunc_Lknow_Article_know_Article_int x target cmp = some r) : Ret Tryz.prog 52 #[v_x, .int .i64 target, .func (.func cmp_f) cmp_a cmp_c] w fun v w' => v = .tuple #[.int .i64 r.1, .bool r.2] ∧ Kp Dw w w' := by
  unfold slices_BinarySearchFunc_Lknow_Article_know_Article_int at hm
  refine enter Tryz.func52 rfl Tryz.ntmps52 rfl ?_
  have hA0 := hA
  have hB := Nat.le_refl w.heap.size
  have hK : Tr Dw w.heap.size A w A w := Tr.refl (Dw := Dw) hA
  have hH : Hp w.heap.size A w [] := Hp.nil
  refine C_seq ?_
  refine C_region ?_
  refine V_y (Y_assign rfl) rfl rfl rfl ?_
  refine V_y (Y_assign rfl) rfl rfl rfl ?_
  refine V_to (fun _ _ => rfl) ?_
  refine C_seq ?_
  refine C_region ?_
  refine V_y (Y_move rfl) rfl rfl rfl ?_
  refine V_y (Y_lenSl h_x rfl Tryz.underlying22 rfl) rfl rfl rfl ?_
  refine V_y (Y_assign rfl) rfl rfl rfl ?_
  refine V_to (fun _ _ => rfl) ?_
  refine C_seq ?_
  refine C_region ?_
  refine V_y (Y_move rfl) rfl rfl rfl ?_
  refine V_y (Y_assign rfl) rfl rfl rfl ?_
  refine V_y (Y_assign rfl) rfl rfl rfl ?_
  refine V_to (fun _ _ => rfl) ?_
  refine C_seq ?_
  obtain ⟨o3, ho3, hm⟩ := Option.bind_eq_some_iff.1 hm
  refine C_cutG (ι := ((Int × Int) × (Nat → Prop))) (fun ⟨s4, A10⟩ => [(0, v_x), (1, .int .i64 target), (2, .func (.func cmp_f) cmp_a cmp_c), (8, .int .i64 (x.length : Int)), (9, .int .i64 s4.1)]) (fun ⟨s4, A10⟩ => fun w' => o3 = .fin s4 ∧ Hp w.heap.size A10 w' ([]) ∧ Tr Dw w.heap.size A w A10 w') ?_ ?_
  · refine C_block ?_
    refine C_while ho3 (fun s12 a w' => ∃ i : (Nat → Prop), Has ⟨49, [], none⟩ a ([(0, v_x), (1, .int .i64 target), (2, .func (.func cmp_f) cmp_a cmp_c), (8, .int .i64 (x.length : Int)), (9, .int .i64 s12.1), (10, .int .i64 s12.2)]) ∧ Hp w.heap.size i w' ([]) ∧ Tr Dw w.heap.size A w i w') (fun a ha => ⟨A, ha.sub ⟨rfl, rfl, rfl, rfl, rfl, rfl, trivial⟩, ⟨hH, Tr.refl (Dw := Dw) hA⟩⟩) ?_
    rintro K s12 a w13 ⟨A14, ha56, hH15, hr5⟩ K22
    refine C_of ?_ ha56
    replace h_x := Sl.tr (Dw := Dw) h_x hr5
    replace hK := Tr.trans (Dw := Dw) hK hr5
    replace hB := Nat.le_trans hB hr5.ex.size
    replace hA := hr5.new
    replace hH : Hp w.heap.size A14 w13 ([]) := hH15
    obtain ⟨x16, h17, h18⟩ := K22
    refine C_seq ?_
    refine C_seq ?_
    refine C_region ?_
    refine V_y (Y_move rfl) rfl rfl rfl ?_
    refine V_y (Y_move rfl) rfl rfl rfl ?_
    refine V_y (Y_lss rfl rfl) rfl rfl rfl ?_
    refine V_to (fun _ _ => rfl) ?_
    refine C_cond rfl (fun hc23 => ?_) (fun hc23 => ?_)
    · rw [if_pos hc23] at h17
      refine C_skip_to (fun _ _ => rfl) ?_
      obtain ⟨s25, ho24, h17⟩ := Option.bind_eq_some_iff.1 h17
      refine C_cutG (ι := (Nat → Prop)) (fun (A30 : (Nat → Prop)) => [(0, v_x), (1, .int .i64 target), (2, .func (.func cmp_f) cmp_a cmp_c), (8, .int .i64 (x.length : Int)), (9, .int .i64 s25.1), (10, .int .i64 s25.2)]) (fun (A30 : (Nat → Prop)) => fun w' => Hp w.heap.size A30 w' ([]) ∧ Tr Dw w.heap.size A14 w13 A30 w') ?_ ?_
      · have hr26 : Tr Dw w.heap.size A14 w13 A14 w13 := Tr.refl (Dw := Dw) hA
        refine C_block ?_
        refine C_seq ?_
        refine C_region ?_
        refine V_y (Y_move rfl) rfl rfl rfl ?_
        refine V_y (Y_move rfl) rfl rfl rfl ?_
        refine V_y (Y_addI rfl rfl) rfl rfl rfl ?_
        refine V_y (Y_convI Tryz.underlying3 Tryz.underlying159 rfl) rfl rfl rfl ?_
        obtain ⟨x32, hx32, ho24⟩ := Option.bind_eq_some_iff.1 ho24
        refine V_y (Y_shr hx32 rfl rfl) rfl rfl rfl ?_
        refine V_y (Y_convI Tryz.underlying159 Tryz.underlying3 rfl) rfl rfl rfl ?_
        refine V_y (Y_assign rfl) rfl rfl rfl ?_
        refine V_to (fun _ _ => rfl) ?_
        refine C_seq ?_
        refine C_region ?_
        refine V_y (Y_move rfl) rfl rfl rfl ?_
        refine V_y (Y_move rfl) rfl rfl rfl ?_
        refine V_y (Y_move rfl) rfl rfl rfl ?_
        obtain ⟨x33, hx33, ho24⟩ := Option.bind_eq_some_iff.1 ho24
        refine V_indexAddr h_x hx33 Tryz.underlying22 Tryz.sizeOf36 rfl rfl rfl ?_
        intro b34 o35 h36
        obtain ⟨v37, h39, h38⟩ := El_know_Article h36
        refine V_y (Y_loadA h39 Tryz.isAgg36 Tryz.sizeOf36 rfl) rfl rfl rfl ?_
        refine V_y (Y_move rfl) rfl rfl rfl ?_
        obtain ⟨x40, hx40, ho24⟩ := Option.bind_eq_some_iff.1 ho24
        refine V_call cmp_call rfl rfl rfl rfl (cmp_spec w13 _ hK hA x33 v37 h38 target _ hx40) ?_
        rintro _ w41 ⟨rfl, hk42⟩
        have ht43 := Kp.tr (Dw := Dw) hk42 hA hB
        replace hH := Hp.kp (Dw := Dw) hH hk42
        replace h_x := Sl.tr (Dw := Dw) h_x ht43
        replace h36 := El.tr (Dw := Dw) h36 ht43
        replace h38 := Sl.tr (Dw := Dw) h38 ht43
        replace hK := Tr.trans (Dw := Dw) hK ht43
        replace hr5 := Tr.trans (Dw := Dw) hr5 ht43
        replace hr26 := Tr.trans (Dw := Dw) hr26 ht43
        replace hB := Nat.le_trans hB ht43.ex.size
        replace hA := ht43.new
        refine V_y (Y_lss rfl rfl) rfl rfl rfl ?_
        refine V_to (fun _ _ => rfl) ?_
        obtain ⟨s45, ho44, ho24⟩ := Option.bind_eq_some_iff.1 ho24
        refine C_cutG (ι := Unit) (fun (_ : Unit) => [(0, v_x), (1, .int .i64 target), (2, .func (.func cmp_f) cmp_a cmp_c), (8, .int .i64 (x.length : Int)), (9, .int .i64 s45.1), (10, .int .i64 s45.2)]) (fun (_ : Unit) => fun w' => w41 = w') ?_ ?_
        · refine C_cond rfl (fun hc50 => ?_) (fun hc50 => ?_)
          · rw [if_pos hc50] at ho44
            refine C_region ?_
            refine V_y (Y_move rfl) rfl rfl rfl ?_
            refine V_y (Y_addI rfl rfl) rfl rfl rfl ?_
            refine V_y (Y_assign rfl) rfl rfl rfl ?_
            obtain rfl := Option.some.inj ho44
            refine V_end (fun a ha51 => ?_)
            exact ⟨(), ha51.sub ⟨rfl, rfl, rfl, rfl, rfl, rfl, trivial⟩, rfl⟩
          · rw [if_neg (nt hc50)] at ho44
            refine C_region ?_
            refine V_y (Y_move rfl) rfl rfl rfl ?_
            refine V_y (Y_assign rfl) rfl rfl rfl ?_
            obtain rfl := Option.some.inj ho44
            refine V_end (fun a ha52 => ?_)
            exact ⟨(), ha52.sub ⟨rfl, rfl, rfl, rfl, rfl, rfl, trivial⟩, rfl⟩
        rintro _ _ rfl a ha49
        obtain rfl := Option.some.inj ho24
        exact ⟨A14, ha49.sub ⟨rfl, rfl, rfl, rfl, rfl, rfl, trivial⟩, ⟨hH, hr26⟩⟩
      rintro A30 w27 ⟨hH31, hk28⟩ a ha29
      replace h_x := Sl.tr (Dw := Dw) h_x hk28
      replace hK := Tr.trans (Dw := Dw) hK hk28
      replace hr5 := Tr.trans (Dw := Dw) hr5 hk28
      replace hB := Nat.le_trans hB hk28.ex.size
      replace hA := hk28.new
      replace hH : Hp w.heap.size A30 w27 ([]) := hH31
      obtain rfl := Option.some.inj h17
      exact ⟨(s25.1, s25.2), h18, ⟨A30, ha29.sub ⟨rfl, rfl, rfl, rfl, rfl, rfl, trivial⟩, ⟨hH, hr5⟩⟩⟩
    · rw [if_neg (nt hc23)] at h17
      obtain rfl := Option.some.inj h17
      refine C_exit (fun a ha55 => ?_)
      exact ⟨((s12.1, s12.2), A14), ha55.sub ⟨rfl, rfl, rfl, rfl, rfl, trivial⟩, ⟨h18.symm, hH, hr5⟩⟩
  rintro ⟨s4, A10⟩ w7 ⟨rfl, hH11, hk8⟩ a ha9
  rw [Lp.andThen_fin] at hm
  replace h_x := Sl.tr (Dw := Dw) h_x hk8
  replace hK := Tr.trans (Dw := Dw) hK hk8
  replace hB := Nat.le_trans hB hk8.ex.size
  replace hA := hk8.new
  replace hH : Hp w.heap.size A10 w7 ([]) := hH11
  refine C_at (n := ⟨49, [], none⟩) (fun _ _ => rfl) ?_ ha9
  refine C_seq ?_
  obtain ⟨s58, ho57, hm⟩ := Option.bind_eq_some_iff.1 hm
  refine C_cutG (ι := (Nat → Prop)) (fun (A63 : (Nat → Prop)) => [(6, .int .i64 s58.1), (7, .bool s58.2)]) (fun (A63 : (Nat → Prop)) => fun w' => Hp w.heap.size A63 w' ([]) ∧ Tr Dw w.heap.size A10 w7 A63 w') ?_ ?_
  · have hr59 : Tr Dw w.heap.size A10 w7 A10 w7 := Tr.refl (Dw := Dw) hA
    refine C_region ?_
    refine V_y (Y_move rfl) rfl rfl rfl ?_
    refine V_y (Y_move rfl) rfl rfl rfl ?_
    refine V_y (Y_move rfl) rfl rfl rfl ?_
    refine V_y (Y_lss rfl rfl) rfl rfl rfl ?_
    refine V_y (Y_move rfl) rfl rfl rfl ?_
    rcases Bool.eq_false_or_eq_true (decide (s4.1 < (x.length : Int))) with hc65 | hc65
    · rw [if_pos hc65] at ho57
      refine V_ge rfl rfl rfl hc65 ?_
      refine V_y (Y_move rfl) rfl rfl rfl ?_
      refine V_ge rfl rfl rfl hc65 ?_
      refine V_y (Y_move rfl) rfl rfl rfl ?_
      refine V_ge rfl rfl rfl hc65 ?_
      refine V_y (Y_move rfl) rfl rfl rfl ?_
      refine V_ge rfl rfl rfl hc65 ?_
      obtain ⟨x66, hx66, ho57⟩ := Option.bind_eq_some_iff.1 ho57
      refine V_indexAddr h_x hx66 Tryz.underlying22 Tryz.sizeOf36 rfl rfl rfl ?_
      intro b67 o68 h69
      refine V_ge rfl rfl rfl hc65 ?_
      obtain ⟨v70, h72, h71⟩ := El_know_Article h69
      refine V_y (Y_loadA h72 Tryz.isAgg36 Tryz.sizeOf36 rfl) rfl rfl rfl ?_
      refine V_ge rfl rfl rfl hc65 ?_
      refine V_y (Y_move rfl) rfl rfl rfl ?_
      refine V_ge rfl rfl rfl hc65 ?_
      obtain ⟨x73, hx73, ho57⟩ := Option.bind_eq_some_iff.1 ho57
      refine V_call cmp_call rfl rfl rfl rfl (cmp_spec w7 _ hK hA x66 v70 h71 target _ hx73) ?_
      rintro _ w74 ⟨rfl, hk75⟩
      have ht76 := Kp.tr (Dw := Dw) hk75 hA hB
      replace hH := Hp.kp (Dw := Dw) hH hk75
      replace h_x := Sl.tr (Dw := Dw) h_x ht76
      replace h69 := El.tr (Dw := Dw) h69 ht76
      replace h71 := Sl.tr (Dw := Dw) h71 ht76
      replace hK := Tr.trans (Dw := Dw) hK ht76
      replace hr59 := Tr.trans (Dw := Dw) hr59 ht76
      replace hB := Nat.le_trans hB ht76.ex.size
      replace hA := ht76.new
      refine V_ge rfl rfl rfl hc65 ?_
      refine V_y (Y_eql rfl rfl) rfl rfl rfl ?_
      refine V_y (Y_pick_te rfl hc65 rfl) rfl rfl rfl ?_
      refine V_y (Y_assign rfl) rfl rfl rfl ?_
      refine V_y (Y_assign rfl) rfl rfl rfl ?_
      obtain rfl := Option.some.inj ho57
      refine V_end (fun a ha77 => ?_)
      exact ⟨A10, ha77.sub ⟨rfl, rfl, trivial⟩, ⟨hH, hr59⟩⟩
    · rw [if_neg (nt hc65)] at ho57
      refine V_gn rfl rfl rfl hc65 rfl rfl rfl ?_
      refine V_gn rfl rfl rfl hc65 rfl rfl rfl ?_
      refine V_gn rfl rfl rfl hc65 rfl rfl rfl ?_
      refine V_gn rfl rfl rfl hc65 rfl rfl rfl ?_
      refine V_gn rfl rfl rfl hc65 rfl rfl rfl ?_
      refine V_gn rfl rfl rfl hc65 rfl rfl rfl ?_
      refine V_gn rfl rfl rfl hc65 rfl rfl rfl ?_
      refine V_gn rfl rfl rfl hc65 rfl rfl rfl ?_
      refine V_y (Y_pick_fe rfl hc65 rfl) rfl rfl rfl ?_
      refine V_y (Y_assign rfl) rfl rfl rfl ?_
      refine V_y (Y_assign rfl) rfl rfl rfl ?_
      obtain rfl := Option.some.inj ho57
      refine V_end (fun a ha78 => ?_)
      exact ⟨A10, ha78.sub ⟨rfl, rfl, trivial⟩, ⟨hH, hr59⟩⟩
  rintro A63 w60 ⟨hH64, hk61⟩ a ha62
  replace hK := Tr.trans (Dw := Dw) hK hk61
  replace hB := Nat.le_trans hB hk61.ex.size
  replace hA := hk61.new
  replace hH : Hp w.heap.size A63 w60 ([]) := hH64
  refine C_at (n := ⟨49, [], none⟩) (fun _ _ => rfl) ?_ ha62
  obtain rfl := Option.some.inj hm
  refine C_ret ?_
  try simp only [↓inBlock_ret, ↓then_ret]
  exact retQ rfl (Res.two Tryz.results52 rfl rfl) ⟨rfl, hK.kp⟩

set_option maxRecDepth 4000 in
set_option maxHeartbeats 4000000 in
theorem cmp_isNaN_int_c (w : World) (x : Int) : Ret Tryz.prog 62 #[.int .i64 x] w fun v w' => v = .bool (cmp_isNaN_int x) ∧ w = w' := by
  generalize hm : cmp_isNaN_int x = r
  unfold cmp_isNaN_int at hm
  refine enter Tryz.func62 rfl Tryz.ntmps62 rfl ?_
  refine C_seq ?_
  refine C_region ?_
  refine V_y (Y_assign rfl) rfl rfl rfl ?_
  refine V_to (fun _ _ => rfl) ?_
  refine C_seq ?_
  refine C_region ?_
  refine V_y (Y_move rfl) rfl rfl rfl ?_
  refine V_y (Y_move rfl) rfl rfl rfl ?_
  refine V_y (Y_neq rfl rfl) rfl rfl rfl ?_
  refine V_y (Y_assign rfl) rfl rfl rfl ?_
  refine V_to (fun _ _ => rfl) ?_
  obtain rfl := hm
  refine C_ret ?_
  try simp only [↓inBlock_ret, ↓then_ret]
  exact retQ rfl (Res.one Tryz.results62 rfl) ⟨rfl, rfl⟩

set_option maxRecDepth 4000 in
set_option maxHeartbeats 4000000 in
theorem cmp_Compare_int_c (w : World) (x : Int) (y : Int) : Ret Tryz.prog 19 #[.int .i64 x, .int .i64 y] w fun v w' => v = .int .i64 (cmp_Compare_int x y) ∧ w = w' := by
  generalize hm : cmp_Compare_int x y = r
  unfold cmp_Compare_int at hm
  refine enter Tryz.func19 rfl Tryz.ntmps19 rfl ?_
  refine C_seq ?_
  refine C_region ?_
  refine V_y (Y_assign rfl) rfl rfl rfl ?_
  refine V_to (fun _ _ => rfl) ?_
  refine C_seq ?_
  refine C_region ?_
  refine V_y (Y_move rfl) rfl rfl rfl ?_
  refine V_call Tryz.call62 rfl rfl rfl rfl (cmp_isNaN_int_c w x) ?_
  rintro _ _ ⟨rfl, rfl⟩
  refine V_y (Y_assign rfl) rfl rfl rfl ?_
  refine V_to (fun _ _ => rfl) ?_
  refine C_seq ?_
  refine C_region ?_
  refine V_y (Y_move rfl) rfl rfl rfl ?_
  refine V_call Tryz.call62 rfl rfl rfl rfl (cmp_isNaN_int_c w y) ?_
  rintro _ _ ⟨rfl, rfl⟩
  refine V_y (Y_assign rfl) rfl rfl rfl ?_
  refine V_to (fun _ _ => rfl) ?_
  refine C_seq ?_
  refine C_seq ?_
  refine C_region ?_
  refine V_y (Y_move rfl) rfl rfl rfl ?_
  refine V_to (fun _ _ => rfl) ?_
  refine C_cond rfl (fun hc1 => ?_) (fun hc1 => ?_)
  · rw [if_pos hc1] at hm
    refine C_seq ?_
    refine C_seq ?_
    refine C_region ?_
    refine V_y (Y_move rfl) rfl rfl rfl ?_
    refine V_to (fun _ _ => rfl) ?_
    refine C_cond rfl (fun hc2 => ?_) (fun hc2 => ?_)
    · rw [if_pos hc2] at hm
      refine C_seq ?_
      refine C_region ?_
      refine V_y (Y_assign rfl) rfl rfl rfl ?_
      refine V_to (fun _ _ => rfl) ?_
      obtain rfl := hm
      refine C_ret ?_
      try simp only [↓inBlock_ret, ↓then_ret]
      exact retQ rfl (Res.one Tryz.results19 rfl) ⟨rfl, rfl⟩
    · rw [if_neg (nt hc2)] at hm
      refine C_skip_to (fun _ _ => rfl) ?_
      refine C_seq ?_
      refine C_region ?_
      refine V_y (Y_assign rfl) rfl rfl rfl ?_
      refine V_to (fun _ _ => rfl) ?_
      obtain rfl := hm
      refine C_ret ?_
      try simp only [↓inBlock_ret, ↓then_ret]
      exact retQ rfl (Res.one Tryz.results19 rfl) ⟨rfl, rfl⟩
  · rw [if_neg (nt hc1)] at hm
    refine C_skip_to (fun _ _ => rfl) ?_
    refine C_seq ?_
    refine C_seq ?_
    refine C_region ?_
    refine V_y (Y_move rfl) rfl rfl rfl ?_
    refine V_to (fun _ _ => rfl) ?_
    refine C_cond rfl (fun hc3 => ?_) (fun hc3 => ?_)
    · rw [if_pos hc3] at hm
      refine C_seq ?_
      refine C_region ?_
      refine V_y (Y_assign rfl) rfl rfl rfl ?_
      refine V_to (fun _ _ => rfl) ?_
      obtain rfl := hm
      refine C_ret ?_
      try simp only [↓inBlock_ret, ↓then_ret]
      exact retQ rfl (Res.one Tryz.results19 rfl) ⟨rfl, rfl⟩
    · rw [if_neg (nt hc3)] at hm
      refine C_skip_to (fun _ _ => rfl) ?_
      refine C_seq ?_
      refine C_seq ?_
      refine C_region ?_
      refine V_y (Y_move rfl) rfl rfl rfl ?_
      refine V_y (Y_move rfl) rfl rfl rfl ?_
      refine V_y (Y_lss rfl rfl) rfl rfl rfl ?_
      refine V_to (fun _ _ => rfl) ?_
      refine C_cond rfl (fun hc4 => ?_) (fun hc4 => ?_)
      · rw [if_pos hc4] at hm
        refine C_seq ?_
        refine C_region ?_
        refine V_y (Y_assign rfl) rfl rfl rfl ?_
        refine V_to (fun _ _ => rfl) ?_
        obtain rfl := hm
        refine C_ret ?_
        try simp only [↓inBlock_ret, ↓then_ret]
        exact retQ rfl (Res.one Tryz.results19 rfl) ⟨rfl, rfl⟩
      · rw [if_neg (nt hc4)] at hm
        refine C_skip_to (fun _ _ => rfl) ?_
        refine C_seq ?_
        refine C_seq ?_
        refine C_region ?_
        refine V_y (Y_move rfl) rfl rfl rfl ?_
        refine V_y (Y_move rfl) rfl rfl rfl ?_
        refine V_y (Y_gtr rfl rfl) rfl rfl rfl ?_
        refine V_to (fun _ _ => rfl) ?_
        refine C_cond rfl (fun hc5 => ?_) (fun hc5 => ?_)
        · rw [if_pos hc5] at hm
          refine C_seq ?_
          refine C_region ?_
          refine V_y (Y_assign rfl) rfl rfl rfl ?_
          refine V_to (fun _ _ => rfl) ?_
          obtain rfl := hm
          refine C_ret ?_
          try simp only [↓inBlock_ret, ↓then_ret]
          exact retQ rfl (Res.one Tryz.results19 rfl) ⟨rfl, rfl⟩
        · rw [if_neg (nt hc5)] at hm
          refine C_skip_to (fun _ _ => rfl) ?_
          refine C_seq ?_
          refine C_region ?_
          refine V_y (Y_assign rfl) rfl rfl rfl ?_
          refine V_to (fun _ _ => rfl) ?_
          obtain rfl := hm
          refine C_ret ?_
          try simp only [↓inBlock_ret, ↓then_ret]
          exact retQ rfl (Res.one Tryz.results19 rfl) ⟨rfl, rfl⟩

set_option maxRecDepth 4000 in
set_option maxHeartbeats 4000000 in
theorem know_find_1_c (w : World) {A : Nat → Prop} (hA : ∀ b, w.heap.size ≤ b → A b) (a_ : know_Article) (v_a_ : Value) (h_a_ : Sl A w v_a_ a_.versions) (id_ : Int) {r : Int} (hm : know_find_1 a_ id_ = some r) : Ret Tryz.prog 53 #[.agg #[.int .i64 a_.id_, .int .i64 a_.group, v_a_], .int .i64 id_] w fun v w' => v = .int .i64 r ∧ Kp Dw w w' := by
  unfold know_find_1 at hm
  refine enter Tryz.func53 rfl Tryz.ntmps53 rfl ?_
  have hA0 := hA
  have hB := Nat.le_refl w.heap.size
  have hK : Tr Dw w.heap.size A w A w := Tr.refl (Dw := Dw) hA
  have hH : Hp w.heap.size A w [] := Hp.nil
  refine C_seq ?_
  refine C_region ?_
  refine V_box rfl rfl ?_
  intro b3 w4 h5
  have hk7 := h5.kp (Dw := Dw)
  have h6 : El (α := know_Article) A w4 b3 0 a_ := h5.el hA ⟨[.int .i64 a_.id_], _, rfl, rfl, ⟨[.int .i64 a_.group], _, rfl, rfl, ⟨_, rfl, h_a_⟩⟩⟩
  have ht8 := Kp.tr (Dw := Dw) hk7 hA hB
  replace hH := Hp.kp (Dw := Dw) hH hk7
  replace h_a_ := Sl.tr (Dw := Dw) h_a_ ht8
  replace hK := Tr.trans (Dw := Dw) hK ht8
  replace hB := Nat.le_trans hB ht8.ex.size
  replace hA := ht8.new
  refine V_y (Y_assign rfl) rfl rfl rfl ?_
  refine V_to (fun _ _ => rfl) ?_
  refine C_seq ?_
  refine C_region ?_
  have h9 := El_know_Article_0 h6
  refine V_y (Y_fieldAddr Tryz.underlying36 rfl Tryz.sizeOf3 (by decide) rfl) rfl rfl rfl ?_
  refine V_y (Y_load (El.int h9) Tryz.isAgg3 rfl) rfl rfl rfl ?_
  refine V_y (Y_move rfl) rfl rfl rfl ?_
  refine V_call Tryz.call19 rfl rfl rfl rfl (cmp_Compare_int_c w4 a_.id_ id_) ?_
  rintro _ _ ⟨rfl, rfl⟩
  refine V_y (Y_assign rfl) rfl rfl rfl ?_
  refine V_to (fun _ _ => rfl) ?_
  obtain rfl := Option.some.inj hm
  refine C_ret ?_
  try simp only [↓inBlock_ret, ↓then_ret]
  exact retQ rfl (Res.one Tryz.results53 rfl) ⟨rfl, hK.kp⟩

set_option maxRecDepth 4000 in
set_option maxHeartbeats 4000000 in
theorem know_find_c (w : World) {A : Nat → Prop} (hA : ∀ b, w.heap.size ≤ b → A b) (l : (List know_Article)) (v_l : Value) (h_l : Sl A w v_l l) (id_ : Int) {r : (Int × Bool)} (hm : know_find l id_ = some r) : Ret Tryz.prog 13 #[v_l, .int .i64 id_] w fun v w' => v = .tuple #[.int .i64 r.1, .bool r.2] ∧ Kp Dw w w' := by
  unfold know_find at hm
  refine enter Tryz.func13 rfl Tryz.ntmps13 rfl ?_
  have hA0 := hA
  have hB := Nat.le_refl w.heap.size
  have hK : Tr Dw w.heap.size A w A w := Tr.refl (Dw := Dw) hA
  have hH : Hp w.heap.size A w [] := Hp.nil
  refine C_seq ?_
  refine C_region ?_
  refine V_y (Y_assign rfl) rfl rfl rfl ?_
  refine V_y (Y_assign rfl) rfl rfl rfl ?_
  refine V_to (fun _ _ => rfl) ?_
  refine C_seq ?_
  refine C_region ?_
  refine V_y (Y_move rfl) rfl rfl rfl ?_
  refine V_y (Y_move rfl) rfl rfl rfl ?_
  obtain ⟨x5, hx5, hm⟩ := Option.bind_eq_some_iff.1 hm
  refine V_call Tryz.call52 rfl rfl rfl rfl (slices_BinarySearchFunc_Lknow_Article_know_Article_int_c (Dw := Dw) w hA l v_l h_l id_ (fun y16 y17 => know_find_1 y16 y17) 53 #[] #[] Tryz.call53 (fun w12 A13 ht14 h15 y6 v7 h8 y9 r10 h11 => (know_find_1_c (Dw := Dw) w12 h15 y6 v7 h8 y9  h11).mono (fun _ _ h => ⟨h.1, h.2⟩)) hx5) ?_
  rintro _ w18 ⟨rfl, hk19⟩
  have ht20 := Kp.tr (Dw := Dw) hk19 hA hB
  replace hH := Hp.kp (Dw := Dw) hH hk19
  replace h_l := Sl.tr (Dw := Dw) h_l ht20
  replace hK := Tr.trans (Dw := Dw) hK ht20
  replace hB := Nat.le_trans hB ht20.ex.size
  replace hA := ht20.new
  refine V_y (Y_extract rfl rfl) rfl rfl rfl ?_
  refine V_y (Y_extract rfl rfl) rfl rfl rfl ?_
  refine V_y (Y_assign rfl) rfl rfl rfl ?_
  refine V_y (Y_assign rfl) rfl rfl rfl ?_
  refine V_to (fun _ _ => rfl) ?_
  obtain rfl := Option.some.inj hm
  refine C_ret ?_
  try simp only [↓inBlock_ret, ↓then_ret]
  exact retQ rfl (Res.two Tryz.results13 rfl rfl) ⟨rfl, hK.kp⟩

theorem Tryz_ovl54 : Tryz.prog.funcs[54]? = some Tryz.f54 := by kernel_rfl
theorem Tryz_ovln54 : Extern.findNext Tryz.f54 = none := by kernel_rfl
theorem Tryz_ovlf54 : Extern.find Tryz.f54 = some (Extern.SlicesOverlaps.overlaps #[22, 22] #[4]) := by kernel_rfl
theorem Tryz_ovlb54 : (Tryz.f54.name == "runtime.NumGoroutine") = false ∧ Tryz.f54.body.isNone = true := by constructor <;> kernel_rfl
theorem slices_Insert_Lknow_Article_know_Article_raw {α β : Type} {l vs r : List α} {k : Int} {ys zs : List β} (h : slices_Insert_Lknow_Article_know_Article l k vs = some r) (h1 : ys.length = l.length) (h2 : zs.length = vs.length) : slices_Insert_Lknow_Article_know_Article ys k zs = some (ys.take k.toNat ++ zs ++ ys.drop k.toNat) ∧ r = l.take k.toNat ++ vs ++ l.drop k.toNat := by
  unfold slices_Insert_Lknow_Article_know_Article at h ⊢
  split at h
  case isFalse => cases h
  rename_i hc
  refine ⟨if_pos ⟨hc.1, by rw [h1]; exact hc.2.1, fun e => hc.2.2.1 ?_, by rw [h1, h2]; exact hc.2.2.2⟩, (Option.some.inj h).symm⟩
  subst e
  exact List.length_eq_zero_iff.1 h2.symm
set_option maxRecDepth 4000 in
set_option maxHeartbeats 4000000 in
theorem slices_Insert_Lknow_Article_know_Article_c (w : World) {A : Nat → Prop} {B : Nat} {L : List Ob} {i : Nat} {v v_vs : Value} {l vs r : List know_ArticleV} (k : Int) (hH : Hp B A w (obS (α := know_ArticleV) 36 v_vs vs :: L)) (hi : L[i]? = some (obS (α := know_ArticleV) 36 v l)) (hB : B ≤ w.heap.size) (hA : ∀ b, w.heap.size ≤ b → A b) (hr : slices_Insert_Lknow_Article_know_Article l k vs = some r) :
    Ret Tryz.prog 14 #[v, .int .i64 k, v_vs] w fun u w' => ∃ v' A1, u = v' ∧ Hp B A1 w' (L.set i (obS (α := know_ArticleV) 36 v' r)) ∧ Tr Dw B A w A1 w' := by
  unfold slices_Insert_Lknow_Article_know_Article at hr
  split at hr
  case isFalse => cases hr
  rename_i hcond
  obtain ⟨hk0, hkl, hne, hlim⟩ := hcond
  obtain rfl := Option.some.inj hr
  obtain ⟨i0, rfl⟩ : ∃ i0 : Nat, k = (i0 : Int) := ⟨k.toNat, by omega⟩
  rw [Int.toNat_natCast]
  have hil : i0 ≤ l.length := by omega
  have hm0 : 0 < vs.length := List.length_pos_iff.2 hne
  have hmax : l.length + vs.length ≤ maxLen := Nat.le_trans hlim (by decide)
  have hbytes : (l.length + vs.length) * 40 ≤ 140737488355328 := Nat.le_trans (Nat.mul_le_mul_right _ hlim) (by decide)
  have e1 : w64 ((l.length : Int) + (vs.length : Int)) = ((l.length + vs.length : Nat) : Int) := by rw [w64_id (by omega) (by omega)]; omega
  have e2 : w64 (((l.length + vs.length : Nat) : Int) - (i0 : Int)) = ((l.length + vs.length - i0 : Nat) : Int) := by rw [w64_id (by omega) (by omega)]; omega
  have e3 : w64 ((i0 : Int) + (vs.length : Int)) = ((i0 + vs.length : Nat) : Int) := by rw [w64_id (by omega) (by omega)]; omega
  have hiL : i < L.length := (List.getElem?_eq_some_iff.1 hi).1
  have hi1 : (obS (α := know_ArticleV) 36 v_vs vs :: L)[i + 1]? = some (obS (α := know_ArticleV) 36 v l) := by simpa using hi
  obtain ⟨a, cap, rfl, hlc, hlm⟩ := Hp.formS hH hi1
  obtain ⟨b, capv, _, hvv, _⟩ := Hp.openS hH (i := 0) rfl hne hA
  subst hvv
  refine enter Tryz.func14 rfl Tryz.ntmps14 rfl ?_
  refine C_seq ?_
  refine C_region ?_
  refine V_y (Y_assign rfl) rfl rfl rfl ?_
  refine V_to (fun _ _ => rfl) ?_
  refine C_seq ?_
  refine C_region ?_
  refine V_y (Y_move rfl) rfl rfl rfl ?_
  refine V_y (Y_move rfl) rfl rfl rfl ?_
  refine V_y (Y_sliceLL (sz := 3) (lo := (i0 : Int)) (k := .i64) ⟨a, l.length, cap, i0, l.length, rfl, rfl, rfl, hil, Nat.le_refl _, hlc, rfl⟩ Tryz.underlying22 Tryz.sizeOf36 rfl rfl) rfl rfl rfl ?_
  refine V_to (fun _ _ => rfl) ?_
  refine C_seq ?_
  refine C_region ?_
  refine V_y (Y_move rfl) rfl rfl rfl ?_
  refine V_y (Y_lenS (a := some ⟨b, 0, none⟩) (len := vs.length) (cap := capv) rfl Tryz.underlying22 rfl) rfl rfl rfl ?_
  refine V_y (Y_assign rfl) rfl rfl rfl ?_
  refine V_to (fun _ _ => rfl) ?_
  refine C_seq ?_
  refine C_seq ?_
  refine C_region ?_
  refine V_y (Y_move rfl) rfl rfl rfl ?_
  refine V_y (Y_eql rfl rfl) rfl rfl rfl ?_
  refine V_to (fun _ _ => rfl) ?_
  refine C_cond rfl (fun hc => ?_) (fun _ => ?_)
  · have : ((vs.length : Int) == 0) = true := hc
    rw [beq_iff_eq] at this
    omega
  refine C_skip_to (fun _ _ => rfl) ?_
  refine C_seq ?_
  refine C_region ?_
  refine V_y (Y_move rfl) rfl rfl rfl ?_
  refine V_y (Y_lenS (a := a) (len := l.length) (cap := cap) rfl Tryz.underlying22 rfl) rfl rfl rfl ?_
  refine V_y (Y_assign rfl) rfl rfl rfl ?_
  refine V_to (fun _ _ => rfl) ?_
  refine C_seq ?_
  refine C_seq ?_
  refine C_region ?_
  refine V_y (Y_move rfl) rfl rfl rfl ?_
  refine V_y (Y_move rfl) rfl rfl rfl ?_
  refine V_y (Y_eql rfl rfl) rfl rfl rfl ?_
  refine V_to (fun _ _ => rfl) ?_
  refine C_cond rfl (fun hc => ?_) (fun hc => ?_)
  · have hil2 : i0 = l.length := by
      have : ((i0 : Int) == (l.length : Int)) = true := hc
      rw [beq_iff_eq] at this
      omega
    obtain ⟨A1, ht1, h_vs, hH1⟩ := Hp.freeze (Dw := Dw) hH (i := 0) rfl hA
    replace hH1 : Hp B A1 w L := hH1
    refine C_seq ?_
    refine C_region ?_
    refine V_y (Y_move rfl) rfl rfl rfl ?_
    refine V_y (Y_move rfl) rfl rfl rfl ?_
    refine V_appendH (Dw := Dw) (e := 36) (l := l) (m := vs) (r := l ++ vs) (ti := Tryz.t36) (bytes := 40) (lim := 3518437208883) hH1 hi h_vs (by unfold appendL; rw [if_pos hlim]) Tryz.underlying22 Tryz_info36 rfl rfl rfl rfl (by decide) (by decide) (by decide) hB ht1.new rfl rfl rfl ?_
    intro v2 w2 A2 hH2 ht2
    refine V_y (Y_assign rfl) rfl rfl rfl ?_
    refine V_to (fun _ _ => rfl) ?_
    refine C_ret ?_
    try simp only [↓inBlock_ret, ↓then_ret]
    refine retQ rfl (Res.one Tryz.results14 rfl) ⟨v2, A2, rfl, ?_, ht1.trans ht2⟩
    rw [hil2, List.take_length, List.drop_length, List.append_nil]
    exact hH2
  have hil2 : i0 < l.length := by
    have : ((i0 : Int) == (l.length : Int)) = false := hc
    rw [beq_eq_false_iff_ne] at this
    omega
  have hlne : l ≠ [] := fun h => by rw [h] at hil2; cases hil2
  refine C_skip_to (fun _ _ => rfl) ?_
  obtain ⟨g, cap', cur, hv, hH1, h5, h6, h7, h8⟩ := Hp.openS hH hi1 hlne hA
  simp only [Value.slice.injEq, true_and] at hv
  obtain ⟨rfl, rfl⟩ := hv
  have hbg := Hp.rowsApart hH hi1 (j := 0) rfl (Nat.succ_ne_zero i)
  obtain ⟨curv, hgv, hcv, hrv, hlv⟩ := Hp.rowAt hH (j := 0) rfl
  have hls := h8.len
  rw [List.length_take, show (GoT.cells know_ArticleV) = 3 from rfl] at hls
  have hlsv := hrv.len
  rw [show (GoT.cells know_ArticleV) = 3 from rfl] at h7 h8 hlsv hcv hrv
  have hcurl : cur.toList.length = cap * 3 := by rw [Array.length_toList]; exact h7
  replace hH1 : Hp B A w (obS (α := know_ArticleV) 36 (.slice (some ⟨b, 0, none⟩) vs.length capv) vs :: L.set i (obO g (.cells cur 36 (0, 0)))) := hH1
  have hgx : ∀ (X : Ob), (obS (α := know_ArticleV) 36 (.slice (some ⟨b, 0, none⟩) vs.length capv) vs :: L.set i X)[i + 1]? = some X := fun X => by simp [hiL]
  -- what the end of the old row holds
  have htail : ((cur.toList.drop (i0 * 3)).take (l.length * 3 - i0 * 3)).length = (l.length - i0) * 3 := by
    rw [List.length_take, List.length_drop, hcurl, Nat.sub_mul]
    have : l.length * 3 ≤ cap * 3 := Nat.mul_le_mul_right _ h5
    omega
  have hone : ∀ u ∈ (cur.toList.drop (i0 * 3)).take (l.length * 3 - i0 * 3), u.oneCell' = true := fun u hu => by
    refine h8.one u ?_
    rw [← List.drop_take] at hu
    exact List.mem_of_mem_drop hu
  have hi6 : i0 * 3 ≤ l.length * 3 := Nat.mul_le_mul_right _ hil
  have hc6 : l.length * 3 ≤ cap * 3 := Nat.mul_le_mul_right _ h5
  refine C_seq ?_
  refine C_seq ?_
  refine C_region ?_
  refine V_y (Y_move rfl) rfl rfl rfl ?_
  refine V_y (Y_move rfl) rfl rfl rfl ?_
  refine V_y (Y_addI rfl rfl) rfl rfl rfl ?_
  rw [e1]
  refine V_y (Y_move rfl) rfl rfl rfl ?_
  refine V_y (Y_cap (a := some ⟨g, 0, none⟩) (len := l.length) (cap := cap) rfl Tryz.underlying22 rfl) rfl rfl rfl ?_
  refine V_y (Y_gtr rfl rfl) rfl rfl rfl ?_
  refine V_to (fun _ _ => rfl) ?_
  refine C_cond rfl (fun hc2 => ?_) (fun hc2 => ?_)
  · have hroom : cap < l.length + vs.length := by
      have : decide ((cap : Int) < ((l.length + vs.length : Nat) : Int)) = true := hc2
      have := of_decide_eq_true this
      omega
    have hsz : i0 + (l.length + vs.length - i0) = l.length + vs.length := by omega
    refine C_seq ?_
    refine C_region ?_
    refine V_y (Y_move rfl) rfl rfl rfl ?_
    refine V_y (Y_move rfl) rfl rfl rfl ?_
    refine V_y (Y_slHi (sz := 3) (g := g) (len := l.length) (cap := cap) (hi := i0) (k := .i64) (by omega) Tryz.underlying22 Tryz.sizeOf36 rfl rfl) rfl rfl rfl ?_
    refine V_y (Y_move rfl) rfl rfl rfl ?_
    refine V_y (Y_move rfl) rfl rfl rfl ?_
    refine V_y (Y_addI rfl rfl) rfl rfl rfl ?_
    rw [e1]
    refine V_y (Y_move rfl) rfl rfl rfl ?_
    refine V_y (Y_subI rfl rfl) rfl rfl rfl ?_
    rw [e2]
    refine V_appendZ (Dw := Dw) (g := g) (sLen := i0) (sCap := cap) (k := l.length + vs.length - i0) (size := 3) (bytes := 40) (ti := Tryz.t36) (olds := cur.toList.take (i0 * 3)) hH1 Tryz.underlying22 Tryz.underlying3 Tryz_info36 rfl rfl rfl rfl (by decide) (by omega) (by omega) (by omega) (by rw [hsz]; exact hbytes) (by rw [List.length_take, hcurl]; omega) (fun j u hj => by
      rw [List.getElem?_take] at hj
      split at hj
      case isFalse => cases hj
      rw [Nat.zero_add]
      exact row_cell (Hp.objAt hH1 (hgx _)) hj) hB hA rfl rfl rfl ?_
    rw [hsz]
    intro g2 cap2 row w1 A1 hH2 ht1 hc2' hm2 hrs hrt
    have hrl : row.toList.length = cap2 * 3 := by rw [Array.length_toList]; exact hrs
    have hc26 : (l.length + vs.length) * 3 ≤ cap2 * 3 := Nat.mul_le_mul_right _ hc2'
    rw [Nat.add_mul] at hc26
    have hB1 := Nat.le_trans hB ht1.ex.size
    have hA1 := ht1.new
    refine V_y (Y_assign rfl) rfl rfl rfl ?_
    refine V_to (fun _ _ => rfl) ?_
    refine C_seq ?_
    refine C_region ?_
    refine V_y (Y_move rfl) rfl rfl rfl ?_
    refine V_y (Y_move rfl) rfl rfl rfl ?_
    refine V_y (Y_slLo (sz := 3) (g := g2) (o := 0) (len := l.length + vs.length) (cap := cap2) (lo := i0) (k := .i64) (by omega) (by omega) hc2' Tryz.underlying22 Tryz.sizeOf36 rfl rfl) rfl rfl rfl ?_
    refine V_y (Y_move rfl) rfl rfl rfl ?_
    obtain ⟨curw, hgw, hcw, hrw, _⟩ := Hp.rowAt hH2 (j := 1) rfl
    have hlsw := hrw.len
    rw [show (GoT.cells know_ArticleV) = 3 from rfl] at hrw hlsw
    refine V_copyO (Dw := Dw) (g := g2) (o := 0 + i0 * 3) (N := vs.length) (size := 3) (a := ⟨b, 0, none⟩) (ii := Tryz.t36) (cs := curw.toList.take (vs.length * 3)) hH2 (i := 0) rfl Tryz.underlying22 Tryz_info36 rfl rfl rfl (Nat.min_eq_left (by omega)) hlsw (fun j u hj => by
      rw [List.getElem?_take] at hj
      split at hj
      case isFalse => cases hj
      rw [add_none, Nat.zero_add]
      exact row_cell hgw hj) (by rw [hlsw, ← Array.length_toList, hrl]; omega) hrw.one hB1 hA1 rfl ?_
    intro w2 hH3 ht2
    replace hH3 : Hp B A1 w2 (obO g2 (.cells (row.toList.take (0 + i0 * 3) ++ curw.toList.take (vs.length * 3) ++ row.toList.drop (0 + i0 * 3 + (curw.toList.take (vs.length * 3)).length)).toArray 36 (0, 0)) :: obS (α := know_ArticleV) 36 (.slice (some ⟨b, 0, none⟩) vs.length capv) vs :: L.set i (obO g (.cells cur 36 (0, 0)))) := hH3
    rw [hlsw, Nat.zero_add] at hH3
    have hB2 := Nat.le_trans hB1 ht2.ex.size
    have hA2 := ht2.new
    have hx1 := ins_grow (X := cur.toList) (R := row.toList) (p := i0 * 3) (q := vs.length * 3) (nn := l.length * 3) (ds := curw.toList.take (vs.length * 3)) (R1 := row.toList.take (i0 * 3) ++ curw.toList.take (vs.length * 3) ++ row.toList.drop (i0 * 3 + vs.length * 3)) hi6 (by omega) (by omega) hrt hlsw rfl
    generalize row.toList.take (i0 * 3) ++ curw.toList.take (vs.length * 3) ++ row.toList.drop (i0 * 3 + vs.length * 3) = R1 at hH3 hx1
    refine V_to (fun _ _ => rfl) ?_
    refine C_seq ?_
    refine C_region_qt (Dw := Dw) 8 Tryz_mixed (by kernel_rfl) ?_
    refine VQ_y (fun w' hw' => Y_move rfl) rfl rfl rfl ?_
    refine VQ_y (fun w' hw' => Y_move rfl) rfl rfl rfl ?_
    refine VQ_y (fun w' hw' => Y_move rfl) rfl rfl rfl ?_
    refine VQ_y (fun w' hw' => Y_addI rfl rfl) rfl rfl rfl ?_
    rw [e3]
    refine VQ_y (fun w' hw' => Y_slLo (sz := 3) (g := g2) (o := 0) (len := l.length + vs.length) (cap := cap2) (lo := i0 + vs.length) (k := .i64) (by omega) (by omega) hc2' Tryz.underlying22 Tryz.sizeOf36 rfl rfl) rfl rfl rfl ?_
    refine VQ_y (fun w' hw' => Y_move rfl) rfl rfl rfl ?_
    refine VQ_y (fun w' hw' => Y_move rfl) rfl rfl rfl ?_
    refine VQ_y (fun w' hw' => Y_slLo (sz := 3) (g := g) (o := 0) (len := l.length) (cap := cap) (lo := i0) (k := .i64) (by omega) (by omega) h5 Tryz.underlying22 Tryz.sizeOf36 rfl rfl) rfl rfl rfl ?_
    refine VQ_tail (fun w3 hk3 => ?_)
    have ht3 := Kp.tr (Dw := Dw) hk3 hA2 hB2
    replace hH3 := Hp.kp (Dw := Dw) hH3 hk3
    have hB3 := Nat.le_trans hB2 ht3.ex.size
    have hA3 := ht3.new
    refine V_copyO (Dw := Dw) (g := g2) (o := 0 + (i0 + vs.length) * 3) (N := l.length - i0) (size := 3) (a := ⟨g, 0 + i0 * 3, none⟩) (ii := Tryz.t36) (cs := (cur.toList.drop (i0 * 3)).take (l.length * 3 - i0 * 3)) hH3 (i := 0) rfl Tryz.underlying22 Tryz_info36 rfl rfl rfl (by rw [show l.length + vs.length - (i0 + vs.length) = l.length - i0 by omega]; exact Nat.min_eq_left (Nat.le_refl _)) htail (fun j u hj => by
      rw [List.getElem?_take] at hj
      split at hj
      case isFalse => cases hj
      rw [List.getElem?_drop] at hj
      rw [add_none, Nat.zero_add]
      exact row_cell (Hp.objAt hH3 (i := i + 2) (g := g) (o := .cells cur 36 (0, 0)) (by simp [hiL])) hj) (by rw [htail, ← Array.length_toList, List.toList_toArray, hx1.2, hrl, Nat.add_mul, Nat.sub_mul]; omega) hone hB3 hA3 rfl ?_
    intro w4 hH4 ht4
    rw [Nat.zero_add, List.toList_toArray, Nat.add_mul] at hH4
    replace hH4 : Hp B A1 w4 (obO g2 (.cells (R1.take (i0 * 3 + vs.length * 3) ++ (cur.toList.drop (i0 * 3)).take (l.length * 3 - i0 * 3) ++ R1.drop (i0 * 3 + vs.length * 3 + ((cur.toList.drop (i0 * 3)).take (l.length * 3 - i0 * 3)).length)).toArray 36 (0, 0)) :: obS (α := know_ArticleV) 36 (.slice (some ⟨b, 0, none⟩) vs.length capv) vs :: L.set i (obO g (.cells cur 36 (0, 0)))) := hH4
    have hA4 := ht4.new
    have htAll := ((ht1.trans ht2).trans ht3).trans ht4
    have hrep := rows_insert (i0 := i0) (h8.keep htAll.ex) (hrw.keep ((ht2.trans ht3).trans ht4).ex)
    rw [show (GoT.cells know_ArticleV) = 3 from rfl, ← hx1.1] at hrep
    have hlr : (l.take i0 ++ vs ++ l.drop i0).length = l.length + vs.length := by simp only [List.length_append, List.length_take, List.length_drop]; omega
    have hH5 := Hp.closeS (α := know_ArticleV) (e := 36) (l := l.take i0 ++ vs ++ l.drop i0) (cap := cap2) hH4 (i := 0) rfl hA4 (by rw [hlr]; exact hc2') hm2 (by
      rw [← Array.length_toList, List.toList_toArray, List.length_append, List.length_append, List.length_take, List.length_drop, htail, hx1.2, hrl, show (GoT.cells know_ArticleV) = 3 from rfl, Nat.sub_mul]
      omega) (by rw [hlr, List.toList_toArray, show (GoT.cells know_ArticleV) = 3 from rfl, Nat.add_mul]; exact hrep)
    rw [hlr] at hH5
    have hH6 := (Hp.drop hH5 (i := 1) rfl).takes hiL
    refine V_to (fun _ _ => rfl) ?_
    refine C_seq ?_
    refine C_region ?_
    refine V_y (Y_move rfl) rfl rfl rfl ?_
    refine V_y (Y_assign rfl) rfl rfl rfl ?_
    refine V_to (fun _ _ => rfl) ?_
    refine C_ret ?_
    try simp only [↓inBlock_ret, ↓then_ret]
    exact retQ rfl (Res.one Tryz.results14 rfl) ⟨_, A1, rfl, hH6, htAll⟩
  have hroom : l.length + vs.length ≤ cap := by
    have : decide ((cap : Int) < ((l.length + vs.length : Nat) : Int)) = false := hc2
    have := of_decide_eq_false this
    omega
  have hr6 : (l.length + vs.length) * 3 ≤ cap * 3 := Nat.mul_le_mul_right _ hroom
  rw [Nat.add_mul] at hr6
  have hx1 := fun (ds : List Value) (hd : ds.length = vs.length * 3) => ins_place (X := cur.toList) (p := i0 * 3) (q := vs.length * 3) (nn := l.length * 3) (ds := ds) (X1 := cur.toList.take (i0 * 3 + vs.length * 3) ++ (cur.toList.drop (i0 * 3)).take (l.length * 3 - i0 * 3) ++ cur.toList.drop (i0 * 3 + vs.length * 3 + ((cur.toList.drop (i0 * 3)).take (l.length * 3 - i0 * 3)).length)) hi6 (by omega) hd rfl
  refine C_skip_to (fun _ _ => rfl) ?_
  refine C_seq ?_
  refine C_region ?_
  refine V_y (Y_move rfl) rfl rfl rfl ?_
  refine V_y (Y_move rfl) rfl rfl rfl ?_
  refine V_y (Y_move rfl) rfl rfl rfl ?_
  refine V_y (Y_addI rfl rfl) rfl rfl rfl ?_
  rw [e1]
  refine V_y (Y_slHi (sz := 3) (g := g) (len := l.length) (cap := cap) (hi := l.length + vs.length) (k := .i64) hroom Tryz.underlying22 Tryz.sizeOf36 rfl rfl) rfl rfl rfl ?_
  refine V_y (Y_assign rfl) rfl rfl rfl ?_
  refine V_to (fun _ _ => rfl) ?_
  refine C_seq ?_
  refine C_seq ?_
  refine C_region ?_
  refine V_y (Y_move rfl) rfl rfl rfl ?_
  refine V_y (Y_move rfl) rfl rfl rfl ?_
  refine V_y (Y_move rfl) rfl rfl rfl ?_
  refine V_y (Y_move rfl) rfl rfl rfl ?_
  refine V_y (Y_addI rfl rfl) rfl rfl rfl ?_
  rw [e3]
  refine V_y (Y_slLo (sz := 3) (g := g) (o := 0) (len := l.length + vs.length) (cap := cap) (lo := i0 + vs.length) (k := .i64) (by omega) (by omega) hroom Tryz.underlying22 Tryz.sizeOf36 rfl rfl) rfl rfl rfl ?_
  refine V_y (Y_ext Tryz_ovl54 Tryz_ovlb54.1 Tryz_ovlb54.2 Tryz_ovln54 Tryz_ovlf54 rfl rfl (Go.Lib.run_overlaps_apart w 22 4 36 Tryz.underlying22 3 Tryz.sizeOf36 ⟨b, 0, none⟩ ⟨g, 0 + (i0 + vs.length) * 3, none⟩ vs.length capv (l.length + vs.length - (i0 + vs.length)) (cap - (i0 + vs.length)) hbg 36 36 (capv * 3) (cap * 3) (by simp [World.shape?, hgv, hcv]) (by simp [World.shape?, Hp.objAt hH1 (hgx _), h7]) (by omega) (by simp [World.frozen?, hgv]) (by simp [World.frozen?, hgv]))) rfl rfl rfl ?_
  refine V_y (Y_not rfl) rfl rfl rfl ?_
  refine V_to (fun _ _ => rfl) ?_
  refine C_true rfl ?_
  refine C_seq ?_
  refine C_region_qt (Dw := Dw) 8 Tryz_mixed (by kernel_rfl) ?_
  refine VQ_y (fun w' hw' => Y_move rfl) rfl rfl rfl ?_
  refine VQ_y (fun w' hw' => Y_move rfl) rfl rfl rfl ?_
  refine VQ_y (fun w' hw' => Y_move rfl) rfl rfl rfl ?_
  refine VQ_y (fun w' hw' => Y_addI rfl rfl) rfl rfl rfl ?_
  rw [e3]
  refine VQ_y (fun w' hw' => Y_slLo (sz := 3) (g := g) (o := 0) (len := l.length + vs.length) (cap := cap) (lo := i0 + vs.length) (k := .i64) (by omega) (by omega) hroom Tryz.underlying22 Tryz.sizeOf36 rfl rfl) rfl rfl rfl ?_
  refine VQ_y (fun w' hw' => Y_move rfl) rfl rfl rfl ?_
  refine VQ_y (fun w' hw' => Y_move rfl) rfl rfl rfl ?_
  refine VQ_y (fun w' hw' => Y_slLo (sz := 3) (g := g) (o := 0) (len := l.length + vs.length) (cap := cap) (lo := i0) (k := .i64) (by omega) (by omega) hroom Tryz.underlying22 Tryz.sizeOf36 rfl rfl) rfl rfl rfl ?_
  refine VQ_tail (fun w1 hk1 => ?_)
  have ht1 := Kp.tr (Dw := Dw) hk1 hA hB
  replace hH1 := Hp.kp (Dw := Dw) hH1 hk1
  have hB1 := Nat.le_trans hB ht1.ex.size
  have hA1 := ht1.new
  refine V_copyO (Dw := Dw) (g := g) (o := 0 + (i0 + vs.length) * 3) (N := l.length - i0) (size := 3) (a := ⟨g, 0 + i0 * 3, none⟩) (ii := Tryz.t36) (cs := (cur.toList.drop (i0 * 3)).take (l.length * 3 - i0 * 3)) hH1 (i := i + 1) (hgx _) Tryz.underlying22 Tryz_info36 rfl rfl rfl (by rw [show l.length + vs.length - (i0 + vs.length) = l.length - i0 by omega]; exact Nat.min_eq_right (by omega)) htail (fun j u hj => by
    rw [List.getElem?_take] at hj
    split at hj
    case isFalse => cases hj
    rw [List.getElem?_drop] at hj
    rw [add_none, Nat.zero_add]
    exact row_cell (Hp.objAt hH1 (hgx _)) hj) (by rw [htail, ← Array.length_toList, hcurl, Nat.add_mul, Nat.sub_mul]; omega) hone hB1 hA1 rfl ?_
  intro w2 hH2 ht2
  rw [Nat.zero_add, Nat.add_mul, List.set_cons_succ, List.set_set] at hH2
  generalize cur.toList.take (i0 * 3 + vs.length * 3) ++ (cur.toList.drop (i0 * 3)).take (l.length * 3 - i0 * 3) ++ cur.toList.drop (i0 * 3 + vs.length * 3 + ((cur.toList.drop (i0 * 3)).take (l.length * 3 - i0 * 3)).length) = X1 at hH2 hx1
  have hB2 := Nat.le_trans hB1 ht2.ex.size
  have hA2 := ht2.new
  refine V_to (fun _ _ => rfl) ?_
  refine C_seq ?_
  refine C_region ?_
  refine V_y (Y_move rfl) rfl rfl rfl ?_
  refine V_y (Y_move rfl) rfl rfl rfl ?_
  refine V_y (Y_slLo (sz := 3) (g := g) (o := 0) (len := l.length + vs.length) (cap := cap) (lo := i0) (k := .i64) (by omega) (by omega) hroom Tryz.underlying22 Tryz.sizeOf36 rfl rfl) rfl rfl rfl ?_
  refine V_y (Y_move rfl) rfl rfl rfl ?_
  obtain ⟨curw, hgw, hcw, hrw, _⟩ := Hp.rowAt hH2 (j := 0) rfl
  have hlsw := hrw.len
  rw [show (GoT.cells know_ArticleV) = 3 from rfl] at hrw hlsw
  replace hx1 := hx1 _ hlsw
  refine V_copyO (Dw := Dw) (g := g) (o := 0 + i0 * 3) (N := vs.length) (size := 3) (a := ⟨b, 0, none⟩) (ii := Tryz.t36) (cs := curw.toList.take (vs.length * 3)) hH2 (i := i + 1) (hgx _) Tryz.underlying22 Tryz_info36 rfl rfl rfl (Nat.min_eq_left (by omega)) hlsw (fun j u hj => by
    rw [List.getElem?_take] at hj
    split at hj
    case isFalse => cases hj
    rw [add_none, Nat.zero_add]
    exact row_cell hgw hj) (by rw [hlsw, ← Array.length_toList, List.toList_toArray, hx1.2, hcurl]; omega) hrw.one hB2 hA2 rfl ?_
  intro w3 hH3 ht3
  rw [hlsw, Nat.zero_add, List.toList_toArray, List.set_cons_succ, List.set_set] at hH3
  have hA3 := ht3.new
  have htAll := (ht1.trans ht2).trans ht3
  have hrep := rows_insert (i0 := i0) (h8.keep htAll.ex) (hrw.keep ht3.ex)
  rw [show (GoT.cells know_ArticleV) = 3 from rfl, ← hx1.1] at hrep
  have hlr : (l.take i0 ++ vs ++ l.drop i0).length = l.length + vs.length := by simp only [List.length_append, List.length_take, List.length_drop]; omega
  have hH5 := Hp.closeS (α := know_ArticleV) (e := 36) (l := l.take i0 ++ vs ++ l.drop i0) (cap := cap) hH3 (i := i + 1) (hgx _) hA3 (by rw [hlr]; exact hroom) h6 (by
    rw [← Array.length_toList, List.toList_toArray, List.length_append, List.length_append, List.length_take, List.length_drop, hlsw, hx1.2, hcurl, show (GoT.cells know_ArticleV) = 3 from rfl]
    omega) (by rw [hlr, List.toList_toArray, show (GoT.cells know_ArticleV) = 3 from rfl, Nat.add_mul]; exact hrep)
  rw [hlr, List.set_cons_succ, List.set_set] at hH5
  have hH6 := Hp.drop hH5 (i := 0) rfl
  refine V_to (fun _ _ => rfl) ?_
  refine C_seq ?_
  refine C_region ?_
  refine V_y (Y_move rfl) rfl rfl rfl ?_
  refine V_y (Y_assign rfl) rfl rfl rfl ?_
  refine V_to (fun _ _ => rfl) ?_
  refine C_ret ?_
  try simp only [↓inBlock_ret, ↓then_ret]
  exact retQ rfl (Res.one Tryz.results14 rfl) ⟨_, A, rfl, hH6, htAll⟩

set_option maxRecDepth 4000 in
set_option maxHeartbeats 4000000 in
theorem know_Publish_c (w : World) {A : Nat → Prop} (hA : ∀ b, w.heap.size ≤ b → A b) (hT : Mx Tryz.prog 0 A w) (l : (List know_Article)) (v_l : Value) (h_l : Sl A w v_l l) (id_ : Int) (v : know_Version) {r : ((List know_Article) × Int)} (hm : know_Publish l id_ v = some r) : Ret Tryz.prog 4 #[v_l, .int .i64 id_, .agg #[.int .i64 v.at_, .string v.title, .string v.body]] w fun v w' => ∃ s0, v = .tuple #[s0, .int .i64 r.2] ∧ Sl A w' s0 r.1 ∧ Kp Dw w w' := by
  unfold know_Publish at hm
  refine enter Tryz.func4 rfl Tryz.ntmps4 rfl ?_
  have hA0 := hA
  have hB := Nat.le_refl w.heap.size
  have hK : Tr Dw w.heap.size A w A w := Tr.refl (Dw := Dw) hA
  have hH : Hp w.heap.size A w [] := Hp.nil
  refine C_seq ?_
  refine C_region ?_
  refine V_box rfl rfl ?_
  intro b3 w4 h5
  have hk7 := h5.kp (Dw := Dw)
  have h6 : El (α := know_Version) A w4 b3 0 v := h5.el hA ⟨[.int .i64 v.at_], _, rfl, rfl, ⟨[.string v.title], _, rfl, rfl, rfl⟩⟩
  have ht8 := Kp.tr (Dw := Dw) hk7 hA hB
  replace hH := Hp.kp (Dw := Dw) hH hk7
  replace h_l := Sl.tr (Dw := Dw) h_l ht8
  replace hK := Tr.trans (Dw := Dw) hK ht8
  replace hB := Nat.le_trans hB ht8.ex.size
  replace hA := ht8.new
  refine V_y (Y_assign rfl) rfl rfl rfl ?_
  refine V_y (Y_assign rfl) rfl rfl rfl ?_
  refine V_to (fun _ _ => rfl) ?_
  refine C_seq ?_
  refine C_seq ?_
  refine C_region ?_
  refine V_y (Y_move rfl) rfl rfl rfl ?_
  obtain ⟨x9, hx9, hm⟩ := Option.bind_eq_some_iff.1 hm
  refine V_call Tryz.call9 rfl rfl rfl rfl (know_CheckArticles_c (Dw := Dw) w4 hA (Mx.tr (Dw := Dw) hT hK) l v_l h_l hx9) ?_
  rintro _ w10 ⟨rfl, hk11⟩
  have ht12 := Kp.tr (Dw := Dw) hk11 hA hB
  replace hH := Hp.kp (Dw := Dw) hH hk11
  replace h_l := Sl.tr (Dw := Dw) h_l ht12
  replace h6 := El.tr (Dw := Dw) h6 ht12
  replace hK := Tr.trans (Dw := Dw) hK ht12
  replace hB := Nat.le_trans hB ht12.ex.size
  replace hA := ht12.new
  refine V_y (Y_assign rfl) rfl rfl rfl ?_
  refine V_to (fun _ _ => rfl) ?_
  refine C_seq ?_
  refine C_region ?_
  refine V_y (Y_move rfl) rfl rfl rfl ?_
  refine V_y (Y_neq rfl rfl) rfl rfl rfl ?_
  refine V_to (fun _ _ => rfl) ?_
  refine C_cond rfl (fun hc13 => ?_) (fun hc13 => ?_)
  · rw [if_pos hc13] at hm
    refine C_seq ?_
    refine C_region ?_
    refine V_y (Y_move rfl) rfl rfl rfl ?_
    refine V_y (Y_assign rfl) rfl rfl rfl ?_
    refine V_y (Y_assign rfl) rfl rfl rfl ?_
    refine V_to (fun _ _ => rfl) ?_
    obtain rfl := Option.some.inj hm
    refine C_ret ?_
    try simp only [↓inBlock_ret, ↓then_ret]
    exact retQ rfl (Res.two Tryz.results4 rfl rfl) ⟨.slice none 0 0, rfl, Sl.nil, hK.kp⟩
  · rw [if_neg (nt hc13)] at hm
    refine C_skip_to (fun _ _ => rfl) ?_
    refine C_seq ?_
    refine C_seq ?_
    refine C_region ?_
    refine V_y (Y_move rfl) rfl rfl rfl ?_
    refine V_call Tryz.call10 rfl rfl rfl rfl (know_within_c w10 id_ 1 3000000) ?_
    rintro _ _ ⟨rfl, rfl⟩
    refine V_y (Y_not rfl) rfl rfl rfl ?_
    refine V_to (fun _ _ => rfl) ?_
    refine C_cond rfl (fun hc14 => ?_) (fun hc14 => ?_)
    · rw [if_pos hc14] at hm
      refine C_seq ?_
      refine C_region ?_
      refine V_y (Y_assign rfl) rfl rfl rfl ?_
      refine V_y (Y_assign rfl) rfl rfl rfl ?_
      refine V_to (fun _ _ => rfl) ?_
      obtain rfl := Option.some.inj hm
      refine C_ret ?_
      try simp only [↓inBlock_ret, ↓then_ret]
      exact retQ rfl (Res.two Tryz.results4 rfl rfl) ⟨.slice none 0 0, rfl, Sl.nil, hK.kp⟩
    · rw [if_neg (nt hc14)] at hm
      refine C_skip_to (fun _ _ => rfl) ?_
      refine C_seq ?_
      refine C_region ?_
      refine V_y (Y_move rfl) rfl rfl rfl ?_
      obtain ⟨x15, hx15, hm⟩ := Option.bind_eq_some_iff.1 hm
      refine V_call Tryz.call11 rfl rfl rfl rfl (slices_Clone_Lknow_Article_know_Article_c (Dw := Dw) w10 hB hA l v_l h_l hH hx15) ?_
      rintro v16 w18 ⟨_, A19, rfl, hH20, ht21⟩
      replace h_l := Sl.tr (Dw := Dw) h_l ht21
      replace h6 := El.tr (Dw := Dw) h6 ht21
      replace hK := Tr.trans (Dw := Dw) hK ht21
      replace hB := Nat.le_trans hB ht21.ex.size
      replace hA := ht21.new
      replace hH : Hp w.heap.size A19 w18 (obS (α := know_Article) 36 v16 x15 :: []) := hH20
      refine V_y (Y_assign rfl) rfl rfl rfl ?_
      refine V_to (fun _ _ => rfl) ?_
      refine C_seq ?_
      refine C_seq ?_
      refine C_region ?_
      refine V_y (Y_move rfl) rfl rfl rfl ?_
      refine V_y (Y_lenSl (Hp.any (α := know_Article) (e := 36) (v := v16) (l := x15) hH (i := 0) rfl) rfl Tryz.underlying22 rfl) rfl rfl rfl ?_
      refine V_y (Y_move rfl) rfl rfl rfl ?_
      refine V_to (fun _ _ => rfl) ?_
      replace hH : Hp w.heap.size A19 w18 (obGU gf_know_Article gr_know_Article 36 v16 x15 0 x15.length :: []) := Hp.toGU (f := gf_know_Article) (fr := gr_know_Article) hH (i := 0) rfl
      have hn46 := Sl.le (Hp.anyGU (f := gf_know_Article) (fr := gr_know_Article) (e := 36) (v := v16) (l := x15) (k := 0) (N := x15.length) hH (i := 0) rfl)
      obtain ⟨o22, ho22, hm⟩ := Option.bind_eq_some_iff.1 hm
      refine C_cutG (ι := ((List know_Article) × Value × (Nat → Prop))) (fun ⟨s23, v29, A31⟩ => [(1, .int .i64 id_), (5, .pointer (some ⟨b3, 0, none⟩)), (9, v29)]) (fun ⟨s23, v29, A31⟩ => fun w' => o22 = .fin s23 ∧ Hp w.heap.size A31 w' (obGS gf_know_Article 36 v29 s23 :: []) ∧ Tr Dw w.heap.size A19 w18 A31 w') ?_ ?_
      · refine C_block ?_
        refine C_range ho22 (fun k25 s33 a w' => ∃ i : (Value × (Nat → Prop)), Has ⟨72, [], none⟩ a ([(1, .int .i64 id_), (5, .pointer (some ⟨b3, 0, none⟩)), (9, i.1), (25, .int .i64 (x15.length : Int)), (26, .int .i64 (k25 : Int))]) ∧ Hp w.heap.size i.2 w' (obGU gf_know_Article gr_know_Article 36 i.1 s33 k25 x15.length :: []) ∧ Tr Dw w.heap.size A19 w18 i.2 w') (fun a ha => ⟨(v16, A19), ha.sub ⟨rfl, rfl, rfl, rfl, rfl, trivial⟩, ⟨hH, Tr.refl (Dw := Dw) hA⟩⟩) ?_
        rintro K k25 s33 a w34 ⟨⟨v35, A37⟩, ha76, hH38, hr24⟩ hle42 K45 h44
        refine C_of ?_ ha76
        replace h6 := El.tr (Dw := Dw) h6 hr24
        replace hK := Tr.trans (Dw := Dw) hK hr24
        replace hB := Nat.le_trans hB hr24.ex.size
        replace hA := hr24.new
        replace hH : Hp w.heap.size A37 w34 (obGU gf_know_Article gr_know_Article 36 v35 s33 k25 x15.length :: []) := hH38
        refine C_seq (C_region (V_y (Y_lss rfl rfl) rfl rfl rfl (V_to (fun _ _ => rfl) ?_)))
        refine C_seq ?_
        refine C_cond rfl (fun hc47 => ?_) (fun hc47 => ?_)
        · have hlt43 := lt_of_dec hc47
          obtain ⟨x39, h40, h41⟩ := K45 hlt43
          refine C_skip_to (fun _ _ => rfl) ?_
          refine C_seq ?_
          refine C_block ?_
          refine C_seq ?_
          refine C_region ?_
          refine V_y (Y_move rfl) rfl rfl rfl ?_
          refine V_y (Y_assign rfl) rfl rfl rfl ?_
          refine V_to (fun _ _ => rfl) ?_
          refine C_region ?_
          refine V_y (Y_move rfl) rfl rfl rfl ?_
          refine V_y (Y_move rfl) rfl rfl rfl ?_
          refine V_y (Y_move rfl) rfl rfl rfl ?_
          refine V_y (Y_move rfl) rfl rfl rfl ?_
          obtain ⟨x48, hx48, h40⟩ := Option.bind_eq_some_iff.1 h40
          refine V_indexAddrGU (f := gf_know_Article) (fr := gr_know_Article) (k := k25) (N := x15.length) (e := 36) (v := v35) (l := s33) hH (i := 0) rfl hx48 Tryz.underlying22 Tryz.sizeOf36 rfl rfl rfl ?_
          intro b49 o50 h51 hl52
          have h53 := El_know_Article_2 h51
          refine V_y (Y_fieldAddr Tryz.underlying36 rfl Tryz.sizeOf34 (by decide) rfl) rfl rfl rfl ?_
          obtain ⟨v54, h55, h56⟩ := El.list h53
          refine V_y (Y_load h55 Tryz.isAgg34 rfl) rfl rfl rfl ?_
          obtain ⟨x57, hx57, h40⟩ := Option.bind_eq_some_iff.1 h40
          refine V_call Tryz.call12 rfl rfl rfl rfl (slices_Clone_Lknow_Version_know_Version_c (Dw := Dw) w34 (A := fun _ => True) (fun _ _ => trivial) x48.versions v54 (Sl.any h56) hx57) ?_
          rintro v58 w60 ⟨_, rfl, h59, hk61⟩
          obtain ⟨A62, ht63, hH64⟩ := Hp.addOwnd (Dw := Dw) hH hB hA hk61 h59
          replace h6 := El.tr (Dw := Dw) h6 ht63
          replace hK := Tr.trans (Dw := Dw) hK ht63
          replace hr24 := Tr.trans (Dw := Dw) hr24 ht63
          replace hB := Nat.le_trans hB ht63.ex.size
          replace hA := ht63.new
          replace hH : Hp w.heap.size A62 w60 (obS (α := know_Version) 24 v58 x57 :: obGU gf_know_Article gr_know_Article 36 v35 s33 k25 x15.length :: []) := hH64
          refine V_indexAddrGU (f := gf_know_Article) (fr := gr_know_Article) (k := k25) (N := x15.length) (e := 36) (v := v35) (l := s33) hH (i := 1) rfl hx48 Tryz.underlying22 Tryz.sizeOf36 rfl rfl rfl ?_
          intro b65 o66 h67 hl68
          have h69 := El_know_Article_2 h67
          refine V_y (Y_fieldAddr Tryz.underlying36 rfl Tryz.sizeOf34 (by decide) rfl) rfl rfl rfl ?_
          replace hH : Hp w.heap.size A62 w60 (obGU gf_know_Article gr_know_Article 36 v35 s33 k25 x15.length :: obS (α := know_Version) 24 v58 x57 :: []) := Hp.front hH (i := 1) rfl
          obtain ⟨x70, hx70, h40⟩ := Option.bind_eq_some_iff.1 h40
          refine V_storeGU (Dw := Dw) (f := gf_know_Article) (fr := gr_know_Article) (e := 36) (e2 := 24) (v := v35) (l := s33) (k := k25) (N := x15.length) (xv := x48) (nv := v58) (c' := x57) (foff := 2) hH hl68 rfl hx48 hx70 (fun h s hs => gr_know_Article_up2 h s hs) Tryz.sizeOf34 (by decide) hB hA (congrArg (fun z => some (Value.pointer (some ⟨_, z, none⟩))) (by simp [Nat.add_assoc])) rfl ?_
          intro w71 hH72 ht73
          replace h6 := El.tr (Dw := Dw) h6 ht73
          replace hK := Tr.trans (Dw := Dw) hK ht73
          replace hr24 := Tr.trans (Dw := Dw) hr24 ht73
          replace hB := Nat.le_trans hB ht73.ex.size
          replace hA := ht73.new
          replace hH : Hp w.heap.size A62 w71 (obGU gf_know_Article gr_know_Article 36 v35 x70 (k25 + 1) x15.length :: []) := hH72
          refine V_to (fun _ _ => rfl) ?_
          refine C_region ?_
          refine V_y (Y_addI rfl rfl) rfl rfl rfl ?_
          refine V_y (Y_move rfl) rfl rfl rfl ?_
          obtain rfl := Option.some.inj h40
          refine V_end (fun a ha74 => ?_)
          exact ⟨x70, hlt43, h41, ⟨(v35, A62), ha74.sub ⟨rfl, rfl, rfl, rfl, (congrArg (fun z => some (Value.int .i64 z)) (w64_succ hlt43 hn46)), trivial⟩, ⟨hH, hr24⟩⟩⟩
        · refine C_exit (fun a ha75 => ?_)
          replace hH : Hp w.heap.size A37 w34 (obGS gf_know_Article 36 v35 s33 :: []) := Hp.ofGU hH (eq_of_dec hle42 hc47)
          exact ⟨(s33, v35, A37), ha75.sub ⟨rfl, rfl, rfl, trivial⟩, ⟨(h44 (eq_of_dec hle42 hc47)).symm, hH, hr24⟩⟩
      rintro ⟨s23, v29, A31⟩ w26 ⟨rfl, hH32, hk27⟩ a ha28
      rw [Lp.andThen_fin] at hm
      replace h6 := El.tr (Dw := Dw) h6 hk27
      replace hK := Tr.trans (Dw := Dw) hK hk27
      replace hB := Nat.le_trans hB hk27.ex.size
      replace hA := hk27.new
      replace hH : Hp w.heap.size A31 w26 (obGS gf_know_Article 36 v29 s23 :: []) := hH32
      refine C_at (n := ⟨72, [], none⟩) (fun _ _ => rfl) ?_ ha28
      refine C_seq ?_
      refine C_region ?_
      refine V_y (Y_move rfl) rfl rfl rfl ?_
      refine V_y (Y_move rfl) rfl rfl rfl ?_
      obtain ⟨x77, hx77, hm⟩ := Option.bind_eq_some_iff.1 hm
      refine V_call Tryz.call13 rfl rfl rfl rfl (know_find_c (Dw := Dw) w26 (A := fun _ => True) (fun _ _ => trivial) s23 v29 (Hp.anyGS (f := gf_know_Article) (e := 36) (v := v29) (l := s23) hH (i := 0) rfl) id_ hx77) ?_
      rintro _ w78 ⟨rfl, hk79⟩
      have ht80 := Kp.tr (Dw := Dw) hk79 hA hB
      replace hH := Hp.kp (Dw := Dw) hH hk79
      replace h6 := El.tr (Dw := Dw) h6 ht80
      replace hK := Tr.trans (Dw := Dw) hK ht80
      replace hB := Nat.le_trans hB ht80.ex.size
      replace hA := ht80.new
      refine V_y (Y_move rfl) rfl rfl rfl ?_
      refine V_y (Y_extract rfl rfl) rfl rfl rfl ?_
      refine V_y (Y_extract rfl rfl) rfl rfl rfl ?_
      refine V_y (Y_assign rfl) rfl rfl rfl ?_
      refine V_y (Y_assign rfl) rfl rfl rfl ?_
      refine V_to (fun _ _ => rfl) ?_
      refine C_seq ?_
      refine C_seq ?_
      refine C_region ?_
      refine V_y (Y_move rfl) rfl rfl rfl ?_
      refine V_y (Y_not rfl) rfl rfl rfl ?_
      refine V_to (fun _ _ => rfl) ?_
      obtain ⟨s82, ho81, hm⟩ := Option.bind_eq_some_iff.1 hm
      refine C_cutG (ι := (Value × (Nat → Prop))) (fun ⟨v84, A89⟩ => [(5, .pointer (some ⟨b3, 0, none⟩)), (9, v84), (11, .int .i64 x77.1)]) (fun ⟨v84, A89⟩ => fun w' => Hp w.heap.size A89 w' (obGS gf_know_Article 36 v84 s82 :: []) ∧ Tr Dw w.heap.size A31 w78 A89 w') ?_ ?_
      · have hr83 : Tr Dw w.heap.size A31 w78 A31 w78 := Tr.refl (Dw := Dw) hA
        refine C_cond rfl (fun hc91 => ?_) (fun hc91 => ?_)
        · rw [if_pos hc91] at ho81
          refine C_region ?_
          refine V_y (Y_move rfl) rfl rfl rfl ?_
          refine V_y (Y_move rfl) rfl rfl rfl ?_
          refine V_y (Y_move rfl) rfl rfl rfl ?_
          refine V_y (Y_build Tryz.underlying36 Tryz.zeroValue36 (Tryz_places36 _ Tryz.underlying36) rfl (by with_unfolding_all rfl)) rfl rfl rfl ?_
          refine V_buildOwnH (Dw := Dw) (cells := #[.int .i64 id_, .int .i64 0, .slice none 0 0]) (l := [(⟨id_, 0, ⟨.slice none 0 0, rfl⟩⟩ : know_ArticleV)]) (len := 1) hH Tryz.underlying22 Tryz.sizeOf36 Tryz.zeroValue36 rfl (by kernel_rfl) (show (1 * 3 : Nat) ≠ 0 by decide) (show (1 * 3 : Nat) ≤ 2 ^ 24 by decide) hB hA ⟨[.int .i64 id_, .int .i64 0, .slice none 0 0], _, rfl, ⟨[.int .i64 id_], _, rfl, rfl, ⟨[.int .i64 0], _, rfl, rfl, rfl⟩⟩, rfl⟩ rfl rfl ?_
          intro v92 w93 A96 hH98 ht97
          replace h6 := El.tr (Dw := Dw) h6 ht97
          replace hK := Tr.trans (Dw := Dw) hK ht97
          replace hr83 := Tr.trans (Dw := Dw) hr83 ht97
          replace hB := Nat.le_trans hB ht97.ex.size
          replace hA := ht97.new
          replace hH : Hp w.heap.size A96 w93 (obS (α := know_ArticleV) 36 v92 ([(⟨id_, 0, ⟨.slice none 0 0, rfl⟩⟩ : know_ArticleV)]) :: obGS gf_know_Article 36 v29 s23 :: []) := hH98
          obtain ⟨x99, hx99, ho81⟩ := Option.bind_eq_some_iff.1 ho81
          obtain ⟨ys100, hl101, hH⟩ := Hp.gsOpen (f := gf_know_Article) (e := 36) (v := v29) (l := s23) hH (i := 1) rfl
          replace hH : Hp w.heap.size A96 w93 (obS (α := know_ArticleV) 36 v29 ys100 :: obY gf_know_Article ys100 s23 :: obS (α := know_ArticleV) 36 v92 ([(⟨id_, 0, ⟨.slice none 0 0, rfl⟩⟩ : know_ArticleV)]) :: []) := hH
          replace hH : Hp w.heap.size A96 w93 (obY gf_know_Article ys100 s23 :: obS (α := know_ArticleV) 36 v29 ys100 :: obS (α := know_ArticleV) 36 v92 ([(⟨id_, 0, ⟨.slice none 0 0, rfl⟩⟩ : know_ArticleV)]) :: []) := Hp.front hH (i := 1) rfl
          replace hH : Hp w.heap.size A96 w93 (obS (α := know_ArticleV) 36 v29 ys100 :: obY gf_know_Article ys100 s23 :: obS (α := know_ArticleV) 36 v92 ([(⟨id_, 0, ⟨.slice none 0 0, rfl⟩⟩ : know_ArticleV)]) :: []) := Hp.front hH (i := 1) rfl
          replace hH : Hp w.heap.size A96 w93 (obS (α := know_ArticleV) 36 v92 ([(⟨id_, 0, ⟨.slice none 0 0, rfl⟩⟩ : know_ArticleV)]) :: obS (α := know_ArticleV) 36 v29 ys100 :: obY gf_know_Article ys100 s23 :: []) := Hp.front hH (i := 2) rfl
          obtain ⟨h102, h103⟩ := slices_Insert_Lknow_Article_know_Article_raw (ys := ys100) (zs := [(⟨id_, 0, ⟨.slice none 0 0, rfl⟩⟩ : know_ArticleV)]) hx99 hl101 rfl
          refine V_call Tryz.call14 rfl rfl rfl rfl (slices_Insert_Lknow_Article_know_Article_c (Dw := Dw) w93 x77.1 hH (i := 0) rfl hB hA h102) ?_
          rintro v104 w105 ⟨_, A106, rfl, hH107, ht108⟩
          replace hH107 := Hp.gsIns (f := gf_know_Article) (kk := Int.toNat x77.1) hH107 hl101 (gf_know_Article_bare (y := (⟨id_, 0, ⟨.slice none 0 0, rfl⟩⟩ : know_ArticleV)) (x := (⟨id_, 0, ([] : (List know_Version))⟩ : know_Article)) ⟨rfl, rfl⟩ rfl rfl)
          rw [← h103] at hH107
          replace h6 := El.tr (Dw := Dw) h6 ht108
          replace hK := Tr.trans (Dw := Dw) hK ht108
          replace hr83 := Tr.trans (Dw := Dw) hr83 ht108
          replace hB := Nat.le_trans hB ht108.ex.size
          replace hA := ht108.new
          replace hH : Hp w.heap.size A106 w105 (obGS gf_know_Article 36 v104 x99 :: []) := hH107
          refine V_y (Y_assign rfl) rfl rfl rfl ?_
          obtain rfl := Option.some.inj ho81
          refine V_end (fun a ha109 => ?_)
          exact ⟨(v104, A106), ha109.sub ⟨rfl, rfl, rfl, trivial⟩, ⟨hH, hr83⟩⟩
        · rw [if_neg (nt hc91)] at ho81
          obtain rfl := Option.some.inj ho81
          refine C_skip (fun a ha110 => ?_)
          exact ⟨(v29, A31), ha110.sub ⟨rfl, rfl, rfl, trivial⟩, ⟨hH, hr83⟩⟩
      rintro ⟨v84, A89⟩ w86 ⟨hH90, hk87⟩ a ha88
      replace h6 := El.tr (Dw := Dw) h6 hk87
      replace hK := Tr.trans (Dw := Dw) hK hk87
      replace hB := Nat.le_trans hB hk87.ex.size
      replace hA := hk87.new
      replace hH : Hp w.heap.size A89 w86 (obGS gf_know_Article 36 v84 s82 :: []) := hH90
      refine C_at (n := ⟨72, [], none⟩) (fun _ _ => rfl) ?_ ha88
      refine C_seq ?_
      refine C_region_ch (Dw := Dw) A89 13 [(1, 0), (1, 1), (1, 2), (1, 3), (0, 4), (1, 5), (0, 6), (1, 7), (2, 8), (4, 9), (0, 10), (1, 11), (4, 12)] Tryz_mixed (by kernel_rfl) (fun w111 hk112 => ?_)
      have ht113 := Kp.tr (Dw := Dw) hk112 hA hB
      replace hH := Hp.kp (Dw := Dw) hH hk112
      replace h6 := El.tr (Dw := Dw) h6 ht113
      replace hK := Tr.trans (Dw := Dw) hK ht113
      replace hB := Nat.le_trans hB ht113.ex.size
      replace hA := ht113.new
      refine CH_q2 (Dw := Dw) rfl ?_
      refine VQ_y (fun w' hw' => Y_move rfl) rfl rfl rfl ?_
      refine VQ_CH (Dw := Dw) ?_
      refine CH_q2 (Dw := Dw) rfl ?_
      refine VQ_y (fun w' hw' => Y_move rfl) rfl rfl rfl ?_
      refine VQ_CH (Dw := Dw) ?_
      refine CH_q2 (Dw := Dw) rfl ?_
      refine VQ_y (fun w' hw' => Y_move rfl) rfl rfl rfl ?_
      refine VQ_CH (Dw := Dw) ?_
      refine CH_q2 (Dw := Dw) rfl ?_
      refine VQ_y (fun w' hw' => Y_move rfl) rfl rfl rfl ?_
      refine VQ_CH (Dw := Dw) ?_
      refine CH_q1 (Dw := Dw) rfl ?_
      obtain ⟨x114, hx114, hm⟩ := Option.bind_eq_some_iff.1 hm
      refine VQ_indexAddrGS (f := gf_know_Article) (e := 36) (v := v84) (l := s82) hH (i := 0) rfl hx114 Tryz.underlying22 Tryz.sizeOf36 rfl rfl rfl ?_
      intro b115 o116 h117 hl118
      refine VQ_CH (Dw := Dw) ?_
      refine CH_q2 (Dw := Dw) rfl ?_
      have h119 := El_know_Article_2 h117
      refine VQ_y (fun w' hw' => Y_fieldAddr Tryz.underlying36 rfl Tryz.sizeOf34 (by decide) rfl) rfl rfl rfl ?_
      refine VQ_CH (Dw := Dw) ?_
      refine CH_q1 (Dw := Dw) rfl ?_
      obtain ⟨v120, h121, h122⟩ := El.list h119
      refine VQ_y (fun w' hw' => Y_load ((World.cell?_of_block (hw'.block _ (World.block_lt_of_cell? _ _ h121))).trans h121) Tryz.isAgg34 rfl) rfl rfl rfl ?_
      refine VQ_CH (Dw := Dw) ?_
      refine CH_q2 (Dw := Dw) rfl ?_
      obtain ⟨h123, _⟩ := El_know_Version h6
      refine VQ_y (fun w' hw' => Y_loadA (At.same h123 (hw'.2 _ h6.2.1 h6.1)) Tryz.isAgg24 Tryz.sizeOf24 rfl) rfl rfl rfl ?_
      refine VQ_CH (Dw := Dw) ?_
      refine CH_l1 (Dw := Dw) (k := 0) rfl ?_
      refine V_buildSlice (Dw := Dw) (cells := #[.int .i64 v.at_, .string v.title, .string v.body]) (l := ([v] : List know_Version)) (len := 1) Tryz.underlying34 Tryz.sizeOf24 Tryz.zeroValue24 rfl (by kernel_rfl) (show (1 * 3 : Nat) ≠ 0 by decide) (show (1 * 3 : Nat) ≤ 2 ^ 24 by decide) hA ⟨[.int .i64 v.at_, .string v.title, .string v.body], _, rfl, ⟨[.int .i64 v.at_], _, rfl, rfl, ⟨[.string v.title], _, rfl, rfl, rfl⟩⟩, rfl⟩ rfl rfl ?_
      intro v124 w125 hk127 h126
      have ht128 := Kp.tr (Dw := Dw) hk127 hA hB
      replace hH := Hp.kp (Dw := Dw) hH hk127
      replace h6 := El.tr (Dw := Dw) h6 ht128
      replace h117 := El.kp (Dw := Dw) h117 hk127
      replace h119 := El.kp (Dw := Dw) h119 hk127
      replace h122 := Sl.kp (Dw := Dw) h122 hk127
      replace h121 := cell_kp (Dw := Dw) h121 hk127
      replace hK := Tr.trans (Dw := Dw) hK ht128
      replace hB := Nat.le_trans hB ht128.ex.size
      replace hA := ht128.new
      refine V_CH (Dw := Dw) (hk127) ?_
      refine CH_l1 (Dw := Dw) (k := 2) rfl ?_
      obtain ⟨ys129, y130, hl131, hy132, hv133, hH⟩ := Hp.gsAt (f := gf_know_Article) (e := 36) (v := v84) (l := s82) (p := fun z => z.versions) hH (i := 0) rfl hx114 hl118 (fun h => El_know_ArticleV_2 h) h121
      obtain ⟨hq134, hH⟩ := gf_know_Article_open (hH.front (i := 1) rfl)
      replace hv133 : y130.versions.v = v120 := hv133
      rw [hv133] at hH
      replace hH : Hp w.heap.size A89 w125 (obS (α := know_Version) 24 v120 x114.versions :: obS (α := know_ArticleV) 36 v84 ys129 :: obYX gf_know_Article ys129 s82 (Int.toNat x77.1) :: []) := hH
      obtain ⟨x135, hx135, hm⟩ := Option.bind_eq_some_iff.1 hm
      refine V_appendH (Dw := Dw) (e := 24) (v := v120) (l := x114.versions) (ti := Tryz.t24) (bytes := 40) (lim := 3518437208883) hH (i := 0) rfl h126 hx135 Tryz.underlying34 Tryz_info24 rfl rfl rfl rfl (by decide) (by decide) (by decide) hB hA rfl rfl rfl ?_
      intro v136 w137 A138 hH139 ht140
      replace h6 := El.tr (Dw := Dw) h6 ht140
      replace h126 := Sl.tr (Dw := Dw) h126 ht140
      replace hK := Tr.trans (Dw := Dw) hK ht140
      replace hB := Nat.le_trans hB ht140.ex.size
      replace hA := ht140.new
      replace hH : Hp w.heap.size A138 w137 (obS (α := know_Version) 24 v136 x135 :: obS (α := know_ArticleV) 36 v84 ys129 :: obYX gf_know_Article ys129 s82 (Int.toNat x77.1) :: []) := hH139
      refine V_CHw (Dw := Dw) ?_
      refine CH_q1 (Dw := Dw) rfl ?_
      refine VQ_indexAddrH (α := know_ArticleV) (e := 36) (v := v84) (l := ys129) hH (i := 1) rfl hy132 Tryz.underlying22 Tryz.sizeOf36 rfl rfl rfl ?_
      intro b141 o142 h143 hl144
      refine VQ_CH (Dw := Dw) ?_
      refine CH_q2 (Dw := Dw) rfl ?_
      refine VQ_y (fun w' hw' => Y_fieldAddr Tryz.underlying36 rfl Tryz.sizeOf34 (by decide) rfl) rfl rfl rfl ?_
      refine VQ_CH (Dw := Dw) ?_
      refine CH_l1 (Dw := Dw) (k := 2) rfl ?_
      replace hH : Hp w.heap.size A138 w137 (obYX gf_know_Article ys129 s82 (Int.toNat x77.1) :: obS (α := know_Version) 24 v136 x135 :: obS (α := know_ArticleV) 36 v84 ys129 :: []) := Hp.front hH (i := 2) rfl
      replace hH : Hp w.heap.size A138 w137 (obS (α := know_Version) 24 v136 x135 :: obYX gf_know_Article ys129 s82 (Int.toNat x77.1) :: obS (α := know_ArticleV) 36 v84 ys129 :: []) := Hp.front hH (i := 1) rfl
      replace hH : Hp w.heap.size A138 w137 (obS (α := know_ArticleV) 36 v84 ys129 :: obS (α := know_Version) 24 v136 x135 :: obYX gf_know_Article ys129 s82 (Int.toNat x77.1) :: []) := Hp.front hH (i := 2) rfl
      have h147 : (v136).oneCell' = true := by obtain ⟨_, _, e, _⟩ := Sl.form (Hp.any (α := know_Version) (e := 24) (v := v136) (l := x135) hH (i := 1) rfl); rw [e]; rfl
      obtain ⟨x148, hx148, hm⟩ := Option.bind_eq_some_iff.1 hm
      refine V_storeGS (Dw := Dw) (f := gf_know_Article) (e := 36) (v := v84) (l := s82) (ys := ys129) (yv := y130) (xv := x114) (yv' := { (y130 : know_ArticleV) with versions := ⟨v136, h147⟩ }) (F := [obS (α := know_Version) 24 v136 x135]) (foff := 2) hH hl131 hl144 hx114 hy132 hx148 (fun _ h => by obtain ⟨_, _, rfl, rfl, ⟨_, _, rfl, rfl, rfl⟩⟩ := h; rw [Value.cells_one h147]; exact ⟨[_], _, rfl, rfl, ⟨[_], _, rfl, rfl, rfl⟩⟩) Tryz.sizeOf34 (by rw [← Array.length_toList, Value.cells_one h147]; rfl) (by intro u hu; rw [Value.cells_one h147] at hu; simp at hu; subst hu; exact h147) (by decide) hB hA (fun h => gf_know_Article_pack ⟨hq134.1, hq134.2⟩ h) (congrArg (fun z => some (Value.pointer (some ⟨_, z, none⟩))) (by simp [Nat.add_assoc])) rfl ?_
      intro w149 hH150 ht151
      replace h6 := El.tr (Dw := Dw) h6 ht151
      replace h126 := Sl.tr (Dw := Dw) h126 ht151
      replace hK := Tr.trans (Dw := Dw) hK ht151
      replace hB := Nat.le_trans hB ht151.ex.size
      replace hA := ht151.new
      replace hH : Hp w.heap.size A138 w149 (obGS gf_know_Article 36 v84 x148 :: []) := hH150
      refine V_CHw (Dw := Dw) ?_
      refine CH_tail (Dw := Dw) ?_
      show V _ _ _ _ [] _ _
      refine V_to (fun _ _ => rfl) ?_
      refine C_seq ?_
      refine C_seq ?_
      refine C_region ?_
      refine V_y (Y_move rfl) rfl rfl rfl ?_
      obtain ⟨x152, hx152, hm⟩ := Option.bind_eq_some_iff.1 hm
      refine V_call Tryz.call9 rfl rfl rfl rfl (know_CheckArticles_c (Dw := Dw) w149 (A := fun _ => True) (fun _ _ => trivial) (Mx.top (Mx.tr (Dw := Dw) hT hK)) x148 v84 (Hp.anyGS (f := gf_know_Article) (e := 36) (v := v84) (l := x148) hH (i := 0) rfl) hx152) ?_
      rintro _ w153 ⟨rfl, hk154⟩
      have ht155 := Kp.tr (Dw := Dw) hk154 hA hB
      replace hH := Hp.kp (Dw := Dw) hH hk154
      replace hK := Tr.trans (Dw := Dw) hK ht155
      replace hB := Nat.le_trans hB ht155.ex.size
      replace hA := ht155.new
      refine V_y (Y_assign rfl) rfl rfl rfl ?_
      refine V_to (fun _ _ => rfl) ?_
      refine C_seq ?_
      refine C_region ?_
      refine V_y (Y_move rfl) rfl rfl rfl ?_
      refine V_y (Y_neq rfl rfl) rfl rfl rfl ?_
      refine V_to (fun _ _ => rfl) ?_
      refine C_cond rfl (fun hc156 => ?_) (fun hc156 => ?_)
      · rw [if_pos hc156] at hm
        refine C_seq ?_
        refine C_region ?_
        refine V_y (Y_move rfl) rfl rfl rfl ?_
        refine V_y (Y_assign rfl) rfl rfl rfl ?_
        refine V_y (Y_assign rfl) rfl rfl rfl ?_
        refine V_to (fun _ _ => rfl) ?_
        obtain rfl := Option.some.inj hm
        refine C_ret ?_
        try simp only [↓inBlock_ret, ↓then_ret]
        exact retQ rfl (Res.two Tryz.results4 rfl rfl) ⟨.slice none 0 0, rfl, Sl.nil, hK.kp⟩
      · rw [if_neg (nt hc156)] at hm
        refine C_skip_to (fun _ _ => rfl) ?_
        refine C_seq ?_
        refine C_region ?_
        refine V_y (Y_move rfl) rfl rfl rfl ?_
        refine V_y (Y_assign rfl) rfl rfl rfl ?_
        refine V_y (Y_assign rfl) rfl rfl rfl ?_
        refine V_to (fun _ _ => rfl) ?_
        obtain rfl := Option.some.inj hm
        obtain ⟨A157, ht158, h159, hH160⟩ := Hp.freezeGS (Dw := Dw) (f := gf_know_Article) (e := 36) (v := v84) (l := x148) hH (i := 0) rfl hA
        replace hK := Tr.trans (Dw := Dw) hK ht158
        replace hB := Nat.le_trans hB ht158.ex.size
        replace hA := ht158.new
        replace hH : Hp w.heap.size A157 w153 ([]) := hH160
        refine C_ret ?_
        try simp only [↓inBlock_ret, ↓then_ret]
        exact retQ rfl (Res.two Tryz.results4 rfl rfl) ⟨v84, rfl, (Sl.out (Dw := Dw) h159 hA0 hK), hK.kp⟩

set_option maxRecDepth 4000 in
set_option maxHeartbeats 4000000 in
theorem portref2_IsMoment_c (w : World) (m : Int) : Ret Tryz.prog 56 #[.int .i64 m] w fun v w' => v = .bool (portref2_IsMoment m) ∧ w = w' := by
  generalize hm : portref2_IsMoment m = r
  unfold portref2_IsMoment at hm
  refine enter Tryz.func56 rfl Tryz.ntmps56 rfl ?_
  refine C_seq ?_
  refine C_region ?_
  refine V_y (Y_assign rfl) rfl rfl rfl ?_
  refine V_to (fun _ _ => rfl) ?_
  refine C_seq ?_
  refine C_region ?_
  refine V_y (Y_move rfl) rfl rfl rfl ?_
  refine V_y (Y_geq rfl rfl) rfl rfl rfl ?_
  refine V_y (Y_move rfl) rfl rfl rfl ?_
  refine V_cut 3 (fun _ : Unit => [(8, .bool ((decide ((0 : Int) ≤ m)) && (decide (m ≤ 3000000))))]) (fun _ w' => w = w') ?_ ?_
  · simp only [List.take, List.drop]
    rcases Bool.eq_false_or_eq_true (decide ((0 : Int) ≤ m)) with hc1 | hc1
    · refine V_ge rfl rfl rfl hc1 ?_
      refine V_y (Y_move rfl) rfl rfl rfl ?_
      refine V_ge rfl rfl rfl hc1 ?_
      refine V_y (Y_leq rfl rfl) rfl rfl rfl ?_
      refine V_y (Y_pick_te rfl hc1 rfl) rfl rfl rfl ?_
      exact V_end fun a ha => ⟨(), ha.sub ⟨(by rw [hc1]; rfl), trivial⟩, rfl⟩
    · refine V_gn rfl rfl rfl hc1 rfl rfl rfl ?_
      refine V_gn rfl rfl rfl hc1 rfl rfl rfl ?_
      refine V_y (Y_pick_fe rfl hc1 rfl) rfl rfl rfl ?_
      exact V_end fun a ha => ⟨(), ha.sub ⟨(by rw [hc1]; rfl), trivial⟩, rfl⟩
  simp only [List.take, List.drop]
  rintro _ _ rfl
  refine V_y (Y_assign rfl) rfl rfl rfl ?_
  refine V_to (fun _ _ => rfl) ?_
  obtain rfl := hm
  refine C_ret ?_
  try simp only [↓inBlock_ret, ↓then_ret]
  exact retQ rfl (Res.one Tryz.results56 rfl) ⟨rfl, rfl⟩

set_option maxRecDepth 4000 in
set_option maxHeartbeats 4000000 in
theorem portref2_bodyLines_c (w : World) {A : Nat → Prop} (hA : ∀ b, w.heap.size ≤ b → A b) (hT : Mx Tryz.prog 0 A w) (s : ByteArray) {r : (List ByteArray)} (hm : portref2_bodyLines s = some r) : Ret Tryz.prog 67 #[.string s] w fun v w' => ∃ s0, v = s0 ∧ Sl A w' s0 r ∧ Kp Dw w w' := by
  unfold portref2_bodyLines at hm
  refine enter Tryz.func67 rfl Tryz.ntmps67 rfl ?_
  have hA0 := hA
  have hB := Nat.le_refl w.heap.size
  have hK : Tr Dw w.heap.size A w A w := Tr.refl (Dw := Dw) hA
  have hH : Hp w.heap.size A w [] := Hp.nil
  refine C_seq ?_
  refine C_region ?_
  refine V_y (Y_assign rfl) rfl rfl rfl ?_
  refine V_to (fun _ _ => rfl) ?_
  refine C_seq ?_
  refine C_region ?_
  refine V_y (Y_move rfl) rfl rfl rfl ?_
  obtain ⟨x1, hx1, hm⟩ := Option.bind_eq_some_iff.1 hm
  refine V_call Tryz.call80 rfl rfl rfl rfl (strings_SplitAfter_c (Dw := Dw) w hA (Mx.tr (Dw := Dw) hT hK) s (⟨#[10]⟩ : ByteArray) hx1) ?_
  rintro v2 w4 ⟨_, rfl, h3, hk5⟩
  have ht6 := Kp.tr (Dw := Dw) hk5 hA hB
  replace hH := Hp.kp (Dw := Dw) hH hk5
  replace hK := Tr.trans (Dw := Dw) hK ht6
  replace hB := Nat.le_trans hB ht6.ex.size
  replace hA := ht6.new
  refine V_y (Y_assign rfl) rfl rfl rfl ?_
  refine V_to (fun _ _ => rfl) ?_
  refine C_seq ?_
  refine C_seq ?_
  refine C_region ?_
  refine V_y (Y_move rfl) rfl rfl rfl ?_
  refine V_y (Y_move rfl) rfl rfl rfl ?_
  refine V_y (Y_lenSl h3 rfl Tryz.underlying70 rfl) rfl rfl rfl ?_
  refine V_y (Y_subI rfl rfl) rfl rfl rfl ?_
  obtain ⟨x7, hx7, hm⟩ := Option.bind_eq_some_iff.1 hm
  refine V_indexAddr h3 hx7 Tryz.underlying70 Tryz.sizeOf9 rfl rfl rfl ?_
  intro b8 o9 h10
  refine V_y (Y_load (El.str h10) Tryz.isAgg9 rfl) rfl rfl rfl ?_
  refine V_y (Y_seql rfl rfl) rfl rfl rfl ?_
  refine V_to (fun _ _ => rfl) ?_
  obtain ⟨s12, ho11, hm⟩ := Option.bind_eq_some_iff.1 hm
  refine C_cutG (ι := Value) (fun (v14 : Value) => [(3, v14)]) (fun (v14 : Value) => fun w' => Sl A w' v14 s12 ∧ w4 = w') ?_ ?_
  · refine C_cond rfl (fun hc20 => ?_) (fun hc20 => ?_)
    · rw [if_pos hc20] at ho11
      refine C_region ?_
      refine V_y (Y_move rfl) rfl rfl rfl ?_
      refine V_y (Y_move rfl) rfl rfl rfl ?_
      refine V_y (Y_lenSl h3 rfl Tryz.underlying70 rfl) rfl rfl rfl ?_
      refine V_y (Y_subI rfl rfl) rfl rfl rfl ?_
      obtain ⟨x21, hx21, ho11⟩ := Option.bind_eq_some_iff.1 ho11
      obtain ⟨v22, h23, h23y⟩ := sliceL_val hx21 h3
      refine V_y (Y_sliceLH h23y Tryz.underlying70 Tryz.sizeOf9 rfl rfl) rfl rfl rfl ?_
      refine V_y (Y_assign rfl) rfl rfl rfl ?_
      obtain rfl := Option.some.inj ho11
      refine V_end (fun a ha24 => ?_)
      exact ⟨v22, ha24.sub ⟨rfl, trivial⟩, ⟨h23, rfl⟩⟩
    · rw [if_neg (nt hc20)] at ho11
      obtain rfl := Option.some.inj ho11
      refine C_skip (fun a ha25 => ?_)
      exact ⟨v2, ha25.sub ⟨rfl, trivial⟩, ⟨h3, rfl⟩⟩
  rintro v14 _ ⟨h15, rfl⟩ a ha19
  refine C_at (n := ⟨19, [], none⟩) (fun _ _ => rfl) ?_ ha19
  refine C_seq ?_
  refine C_region ?_
  refine V_y (Y_move rfl) rfl rfl rfl ?_
  refine V_y (Y_assign rfl) rfl rfl rfl ?_
  refine V_to (fun _ _ => rfl) ?_
  obtain rfl := Option.some.inj hm
  refine C_ret ?_
  try simp only [↓inBlock_ret, ↓then_ret]
  exact retQ rfl (Res.one Tryz.results67 rfl) ⟨v14, rfl, (Sl.out (Dw := Dw) h15 hA0 hK), hK.kp⟩

end Go.Proofs.YtcfmgjmpodpfiaaGreatDoor.W
