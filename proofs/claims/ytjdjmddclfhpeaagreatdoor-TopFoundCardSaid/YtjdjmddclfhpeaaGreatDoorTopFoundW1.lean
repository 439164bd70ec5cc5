import Derived.Test.YtjdjmddclfhpeaaGreatDoorTopFoundW0
namespace Go.Proofs.YtjdjmddclfhpeaaGreatDoor.W
open Go Go.RowKit Go.Pu Go.Gw Go.Proofs Go.Proofs.YtjdjmddclfhpeaaGreatDoor.M
set_option linter.unusedVariables false
set_option linter.unusedSimpArgs false
variable {Dw : Prop}
set_option maxHeartbeats 4000000
set_option maxRecDepth 4000
open Tryz
theorem know_Stem_c (w : World) (word : ByteArray) {r : ByteArray} (hm : know_Stem word = some r) : Ret prog 61 #[.string word] w fun v w' => v = .string r ∧ w = w' := by
 unfold know_Stem at hm
 refine enter func61 rfl ntmps61 rfl ?_
 refine Sr (As (To ?_))
 refine C_seq (Sr (Mm (Vy (Y_lenStr rfl underlying9 rfl) (Mm (To ?_)))))
 obtain ⟨o1, ho1, hm⟩ := Bs hm
 refine C_cutG (ι := Int) (fun (s2 : Int) => [(0, .string word)]) (fun (s2 : Int) => fun w' => o1 = .fin s2 ∧ w = w') ?_ ?_
 ·refine C_block ?_
  refine C_while ho1 (fun s8 a w' => ∃ i : Unit, Has ⟨77, [], none⟩ a ([(0, .string word), (6, Ii (word.size : Int)), (7, Ii s8)]) ∧ w = w') (fun a ha => ⟨(), ha.sb, rfl⟩) ?_
  rintro K s8 a _ ⟨_, ha24, rfl⟩ K16
  refine C_of ?_ ha24
  obtain ⟨x10, h11, h12⟩ := K16
  refine Sr (Vy (Y_lss rfl rfl) (To ?_))
  refine C_seq ?_
  refine Cc (fun hc17 => ?_) fun hc17 => ?_
  ·rw [if_pos hc17] at h11
   refine Sk ?_
   refine C_seq (C_block (Sr (Mm (As (To ?_)))))
   refine Sr (Mm (Mm ?_))
   obtain ⟨x18, hx18, h11⟩ := Bs h11
   refine Vy (Y_indexS hx18 underlying9 rfl rfl) (Vy (Y_lss rfl rfl) (Mm ?_))
   obtain ⟨s20, hs20, h11⟩ := Bs h11
   refine V_cut 5 (fun _ : Unit => [(0, .string word), (6, Ii (word.size : Int)), (7, Ii s8), (19, .bool s20)]) (fun _ w' => w = w') ?_ ?_
   ·simp only [List.take, List.drop]
    rcases Be (decide ((x18.toNat : Int) < 97)) with hc19 | hc19
    ·rw [if_pos hc19] at hs20
     refine Gm hc19 (Gm hc19 (Gm hc19 (Gm hc19 (Vy (Y_pick_te rfl hc19 rfl) ?_))))
     obtain rfl := Oi hs20
     exact V_end fun a ha => ⟨(), ha.sb, rfl⟩
    rw [if_neg (nt hc19)] at hs20
    refine Gf hc19 (Mm (Gf hc19 (Mm (Gf hc19 (Vy (Y_indexS hx18 underlying9 rfl rfl) (Gf hc19 (Vy (Y_gtr rfl rfl) (Vy (Y_pick_fe rfl hc19 rfl) ?_))))))))
    obtain rfl := Oi hs20
    exact V_end fun a ha => ⟨(), ha.sb, rfl⟩
   simp only [List.take, List.drop]
   rintro _ _ rfl
   refine To ?_
   refine Cc (fun hc21 => ?_) fun hc21 => ?_
   ·rw [if_pos hc21] at h11
    refine Sr (Mm (As (To ?_)))
    obtain rfl := Oi h11
    obtain rfl := (h12 : Lp.rt _ = _)
    rw [Lp.andThen_rt] at hm
    obtain rfl := Oi hm
    refine Rt (Res.one results61 rfl) ?_
    exact ⟨rfl, rfl⟩
   rw [if_neg (nt hc21)] at h11
   refine Sk ?_
   refine C_region (Vy (Y_addI rfl rfl) (Mm ?_))
   obtain rfl := Oi h11
   refine V_end (fun a ha22 => ?_)
   exact ⟨w64 (s8 + 1), h12, ⟨(), ha22.sb, rfl⟩⟩
  rw [if_neg (nt hc17)] at h11
  obtain rfl := Oi h11
  refine C_exit (fun a ha23 => ?_)
  exact ⟨s8, ha23.sb, ⟨h12.symm, rfl⟩⟩
 rintro s2 _ ⟨rfl, rfl⟩ a ha7
 rw [Lp.andThen_fin] at hm
 refine C_at (n := ⟨77, [], none⟩) (fun _ _ => rfl) ?_ ha7
 refine Sr (Mm (Vy (Y_lenStr rfl underlying9 rfl) (As (To ?_))))
 refine C_seq (C_block (Sr (Mm (Vy (Y_lss rfl rfl) (As (To ?_))))))
 refine Cc (fun hc25 => ?_) fun hc25 => ?_
 ·rw [if_pos hc25] at hm
  refine Sr (Mm (As (To ?_)))
  obtain rfl := Oi hm
  refine Rt (Res.one results61 rfl) ?_
  exact ⟨rfl, rfl⟩
 rw [if_neg (nt hc25)] at hm
 refine Sr (Mm ?_)
 obtain ⟨x26, hx26, hm⟩ := Bs hm
 refine Vc call94 (strings_HasSuffix_c w word (⟨#[105, 101, 115]⟩ : ByteArray) hx26) ?_
 rintro _ _ ⟨rfl, rfl⟩
 refine As (To ?_)
 refine Cc (fun hc27 => ?_) fun hc27 => ?_
 ·rw [if_pos hc27] at hm
  refine Sr (Mm (Mm (Vy (Y_subI rfl rfl) ?_)))
  obtain ⟨x28, hx28, hm⟩ := Bs hm
  refine Vy (Y_sliceSH hx28 underlying9 rfl rfl) ?_
  obtain ⟨x29, hx29, hm⟩ := Bs hm
  refine Vy (Y_sadd hx29 rfl rfl) (As (To ?_))
  obtain rfl := Oi hm
  refine Rt (Res.one results61 rfl) ?_
  exact ⟨rfl, rfl⟩
 rw [if_neg (nt hc27)] at hm
 refine Sr (Mm ?_)
 obtain ⟨x30, hx30, hm⟩ := Bs hm
 refine Vc call94 (strings_HasSuffix_c w word (⟨#[115, 115, 101, 115]⟩ : ByteArray) hx30) ?_
 rintro _ _ ⟨rfl, rfl⟩
 refine As (To ?_)
 refine Cc (fun hc31 => ?_) fun hc31 => ?_
 ·rw [if_pos hc31] at hm
  refine Sr (Mm (Mm (Vy (Y_subI rfl rfl) ?_)))
  obtain ⟨x32, hx32, hm⟩ := Bs hm
  refine Vy (Y_sliceSH hx32 underlying9 rfl rfl) (As (To ?_))
  obtain rfl := Oi hm
  refine Rt (Res.one results61 rfl) ?_
  exact ⟨rfl, rfl⟩
 rw [if_neg (nt hc31)] at hm
 refine Sr (Mm ?_)
 obtain ⟨x33, hx33, hm⟩ := Bs hm
 refine Vc call94 (strings_HasSuffix_c w word (⟨#[115, 115]⟩ : ByteArray) hx33) ?_
 rintro _ _ ⟨rfl, rfl⟩
 refine As (To ?_)
 refine Cc (fun hc34 => ?_) fun hc34 => ?_
 ·rw [if_pos hc34] at hm
  refine Sr (Mm (As (To ?_)))
  obtain rfl := Oi hm
  refine Rt (Res.one results61 rfl) ?_
  exact ⟨rfl, rfl⟩
 rw [if_neg (nt hc34)] at hm
 refine Sr (Mm ?_)
 obtain ⟨x35, hx35, hm⟩ := Bs hm
 refine Vc call94 (strings_HasSuffix_c w word (⟨#[115]⟩ : ByteArray) hx35) ?_
 rintro _ _ ⟨rfl, rfl⟩
 refine As (To ?_)
 refine Cc (fun hc36 => ?_) fun hc36 => ?_
 ·rw [if_pos hc36] at hm
  refine Sr (Mm (Mm (Vy (Y_subI rfl rfl) ?_)))
  obtain ⟨x37, hx37, hm⟩ := Bs hm
  refine Vy (Y_sliceSH hx37 underlying9 rfl rfl) (As (To ?_))
  obtain rfl := Oi hm
  refine Rt (Res.one results61 rfl) ?_
  exact ⟨rfl, rfl⟩
 rw [if_neg (nt hc36)] at hm
 refine Sr (Mm ?_)
 obtain ⟨x38, hx38, hm⟩ := Bs hm
 refine Vc call94 (strings_HasSuffix_c w word (⟨#[105, 110, 103]⟩ : ByteArray) hx38) ?_
 rintro _ _ ⟨rfl, rfl⟩
 refine Mm ?_
 refine V_cut 3 (fun _ : Unit => [(0, .string word), (4, Ii (word.size : Int)), (60, .bool (x38 && (decide ((6 : Int) ≤ (word.size : Int)))))]) (fun _ w' => w = w') ?_ ?_
 ·simp only [List.take, List.drop]
  rcases Be (x38) with hc39 | hc39
  ·refine Gf hc39 (Mm (Gf hc39 (Vy (Y_geq rfl rfl) (Vy (Y_pick_te rfl hc39 rfl) ?_))))
   exact V_end fun a ha => ⟨(), ha.sub ⟨rfl, rfl, (by rw [hc39]; rfl), trivial⟩, rfl⟩
  refine Gm hc39 (Gm hc39 (Vy (Y_pick_fe rfl hc39 rfl) ?_))
  exact V_end fun a ha => ⟨(), ha.sub ⟨rfl, rfl, (by rw [hc39]; rfl), trivial⟩, rfl⟩
 simp only [List.take, List.drop]
 rintro _ _ rfl
 refine As (To ?_)
 refine Cc (fun hc41 => ?_) fun hc41 => ?_
 ·rw [if_pos hc41] at hm
  refine Sr (Mm (Mm (Vy (Y_subI rfl rfl) ?_)))
  obtain ⟨x42, hx42, hm⟩ := Bs hm
  refine Vy (Y_sliceSH hx42 underlying9 rfl rfl) (As (To ?_))
  obtain rfl := Oi hm
  refine Rt (Res.one results61 rfl) ?_
  exact ⟨rfl, rfl⟩
 rw [if_neg (nt hc41)] at hm
 refine Sr (Mm ?_)
 obtain ⟨x43, hx43, hm⟩ := Bs hm
 refine Vc call94 (strings_HasSuffix_c w word (⟨#[101, 100]⟩ : ByteArray) hx43) ?_
 rintro _ _ ⟨rfl, rfl⟩
 refine Mm ?_
 refine V_cut 3 (fun _ : Unit => [(0, .string word), (4, Ii (word.size : Int)), (71, .bool (x43 && (decide ((5 : Int) ≤ (word.size : Int)))))]) (fun _ w' => w = w') ?_ ?_
 ·simp only [List.take, List.drop]
  rcases Be (x43) with hc44 | hc44
  ·refine Gf hc44 (Mm (Gf hc44 (Vy (Y_geq rfl rfl) (Vy (Y_pick_te rfl hc44 rfl) ?_))))
   exact V_end fun a ha => ⟨(), ha.sub ⟨rfl, rfl, (by rw [hc44]; rfl), trivial⟩, rfl⟩
  refine Gm hc44 (Gm hc44 (Vy (Y_pick_fe rfl hc44 rfl) ?_))
  exact V_end fun a ha => ⟨(), ha.sub ⟨rfl, rfl, (by rw [hc44]; rfl), trivial⟩, rfl⟩
 simp only [List.take, List.drop]
 rintro _ _ rfl
 refine As (To ?_)
 refine Cc (fun hc46 => ?_) fun hc46 => ?_
 ·rw [if_pos hc46] at hm
  refine Sr (Mm (Mm (Vy (Y_subI rfl rfl) ?_)))
  obtain ⟨x47, hx47, hm⟩ := Bs hm
  refine Vy (Y_sliceSH hx47 underlying9 rfl rfl) (As (To ?_))
  obtain rfl := Oi hm
  refine Rt (Res.one results61 rfl) ?_
  exact ⟨rfl, rfl⟩
 rw [if_neg (nt hc46)] at hm
 refine Sk ?_
 refine Sr (Mm (As (To ?_)))
 obtain rfl := Oi hm
 refine Rt (Res.one results61 rfl) ?_
 exact ⟨rfl, rfl⟩
def Tryz_cp83_ren : Go.Shelf.Ren := ⟨fun | 125 => 66 | 128 => 101 | 129 => 102 | 190 => 83 | 258 => 115 | 302 => 138 | 303 => 139 | 304 => 140 | 305 => 141 | 306 => 142 | 307 => 143 | 308 => 144 | 309 => 145 | 310 => 146 | 329 => 130 | 330 => 131 | 333 => 158 | 334 => 159 | 335 => 160 | 336 => 161 | 344 => 167 | n => n, fun | 0 => 0 | 1 => 1 | 2 => 2 | 3 => 3 | 4 => 4 | 5 => 5 | 6 => 6 | 7 => 7 | 8 => 8 | 9 => 9 | 10 => 10 | 11 => 11 | 12 => 12 | 13 => 13 | 14 => 14 | 15 => 15 | 16 => 16 | 17 => 17 | 18 => 18 | 19 => 19 | 20 => 20 | 21 => 21 | 22 => 119 | 27 => 132 | 28 => 23 | 29 => 36 | 30 => 74 | 31 => 62 | 34 => 145 | 35 => 198 | 37 => 135 | 41 => 71 | 43 => 95 | 46 => 127 | 47 => 126 | 51 => 165 | 52 => 164 | 53 => 167 | 54 => 166 | 55 => 104 | 61 => 136 | 67 => 117 | 68 => 63 | 69 => 103 | 70 => 149 | 71 => 150 | 72 => 151 | 73 => 152 | 74 => 153 | 75 => 154 | 76 => 155 | 77 => 156 | 80 => 157 | 81 => 227 | 100 => 143 | 103 => 207 | 104 => 212 | 105 => 208 | 106 => 209 | 111 => 77 | 112 => 144 | 113 => 176 | 114 => 214 | 119 => 216 | 127 => 179 | 131 => 108 | 135 => 177 | 137 => 217 | 138 => 218 | 139 => 219 | 146 => 220 | 150 => 192 | 151 => 221 | 164 => 199 | 165 => 200 | 166 => 201 | 182 => 170 | 183 => 171 | 188 => 193 | 189 => 194 | 190 => 195 | 191 => 196 | 192 => 197 | 218 => 186 | 219 => 187 | 220 => 188 | 222 => 190 | 224 => 210 | 225 => 211 | 228 => 204 | 229 => 205 | 231 => 215 | 238 => 222 | 239 => 223 | 240 => 224 | 241 => 225 | 242 => 226 | 243 => 228 | 244 => 229 | 245 => 230 | 246 => 231 | 247 => 232 | 248 => 233 | 249 => 234 | n => n, fun | 1 => 0 | 3 => 1 | 4 => 2 | n => n⟩
theorem Tryz_cp83_lay : Go.Proofs.Lays.n190 Tryz.prog Tryz_cp83_ren := {
  mixed := by kernel_rfl,
  f125 := Tryz.func66.trans (congrArg some (by kernel_rfl)),
  f128 := Tryz.func101.trans (congrArg some (by kernel_rfl)),
  f129 := Tryz.func102.trans (congrArg some (by kernel_rfl)),
  f190 := Tryz.func83.trans (congrArg some (by kernel_rfl)),
  f258 := Tryz.func115.trans (congrArg some (by kernel_rfl)),
  f302 := Tryz.func138.trans (congrArg some (by kernel_rfl)),
  f303 := Tryz.func139.trans (congrArg some (by kernel_rfl)),
  f304 := Tryz.func140.trans (congrArg some (by kernel_rfl)),
  f305 := Tryz.func141.trans (congrArg some (by kernel_rfl)),
  f306 := Tryz.func142.trans (congrArg some (by kernel_rfl)),
  f307 := Tryz.func143.trans (congrArg some (by kernel_rfl)),
  f308 := Tryz.func144.trans (congrArg some (by kernel_rfl)),
  f309 := Tryz.func145.trans (congrArg some (by kernel_rfl)),
  f310 := Tryz.func146.trans (congrArg some (by kernel_rfl)),
  f329 := Tryz.func130.trans (congrArg some (by kernel_rfl)),
  f330 := Tryz.func131.trans (congrArg some (by kernel_rfl)),
  f333 := Tryz.func158.trans (congrArg some (by kernel_rfl)),
  f334 := Tryz.func159.trans (congrArg some (by kernel_rfl)),
  f335 := Tryz.func160.trans (congrArg some (by kernel_rfl)),
  f336 := Tryz.func161.trans (congrArg some (by kernel_rfl)),
  f344 := Tryz.func167.trans (congrArg some (by kernel_rfl)),
  t0 := Tryz.underlying0,
  a0 := Tryz.isAgg0,
  z0 := Tryz.sizeOf0,
  v0 := Tryz.zeroValue0,
  t3 := Tryz.underlying3,
  a3 := Tryz.isAgg3,
  z3 := Tryz.sizeOf3,
  v3 := Tryz.zeroValue3,
  t4 := Tryz.underlying4,
  a4 := Tryz.isAgg4,
  z4 := Tryz.sizeOf4,
  v4 := Tryz.zeroValue4,
  t5 := Tryz.underlying5,
  a5 := Tryz.isAgg5,
  z5 := Tryz.sizeOf5,
  v5 := Tryz.zeroValue5,
  t9 := Tryz.underlying9,
  a9 := Tryz.isAgg9,
  z9 := Tryz.sizeOf9,
  v9 := Tryz.zeroValue9,
  t31 := Tryz.underlying62,
  a31 := Tryz.isAgg62,
  z31 := Tryz.sizeOf62,
  v31 := Tryz.zeroValue62,
  t46 := Tryz.underlying127,
  a46 := Tryz.isAgg127,
  z46 := Tryz.sizeOf127,
  v46 := Tryz.zeroValue127,
  t51 := Tryz.underlying165,
  a51 := Tryz.isAgg165,
  z51 := Tryz.sizeOf165,
  v51 := Tryz.zeroValue165,
  t53 := Tryz.underlying167,
  a53 := Tryz.isAgg167,
  z53 := Tryz.sizeOf167,
  v53 := Tryz.zeroValue167,
  t131 := Tryz.underlying108,
  a131 := Tryz.isAgg108,
  z131 := Tryz.sizeOf108,
  v131 := Tryz.zeroValue108,
  t182 := Tryz.underlying170,
  a182 := Tryz.isAgg170,
  z182 := Tryz.sizeOf170,
  v182 := Tryz.zeroValue170,
  t183 := Tryz.underlying171,
  a183 := Tryz.isAgg171,
  z183 := Tryz.sizeOf171,
  v183 := Tryz.zeroValue171,
  t218 := Tryz.underlying186,
  a218 := Tryz.isAgg186,
  z218 := Tryz.sizeOf186,
  v218 := Tryz.zeroValue186,
  t222 := Tryz.underlying190,
  a222 := Tryz.isAgg190,
  z222 := Tryz.sizeOf190,
  v222 := Tryz.zeroValue190,
  t228 := Tryz.underlying204,
  a228 := Tryz.isAgg204,
  z228 := Tryz.sizeOf204,
  v228 := Tryz.zeroValue204,
  t229 := Tryz.underlying205,
  a229 := Tryz.isAgg205,
  z229 := Tryz.sizeOf205,
  v229 := Tryz.zeroValue205 }
theorem Tryz_cp83 {l r : List ByteArray} {B : Nat} {A : Nat → Prop} {w : World} {L : List Ob} {i : Nat} {v : Value} (hH : Hp B A w L) (hi : L[i]? = some (o_9 v l)) (hB : B ≤ w.heap.size) (hA : ∀ b, w.heap.size ≤ b → A b) (hr : sortStrsL l = some r) : Ret Tryz.prog 83 #[v] w fun u w' => u = .tuple #[] ∧ Hp B A w' (L.set i (o_9 v r)) ∧ Tr Dw B A w A w' :=
  Hp.sortStrs (Dw := Dw) (fun _ => rfl) (fun a c w => Go.Proofs.Any.slices_Sort_string_none Tryz_cp83_lay a c w) (fun blk off cap zs w h1 h2 h3 => Go.Proofs.Any.slices_Sort_string Tryz_cp83_lay blk off cap zs w h1 h2 h3) hH hi hB hA hr
def idxPoL (b : Nat) (x : know_Posting) (u : Value × Value) : List Ob := [obC b [Ii x.id_, u.1, u.2] 98, o_3 u.1 x.title, o_3 u.2 x.body]
def idxPo (b : Nat) (x : know_Posting) : Ob := obE (idxPoL b x)
theorem idxPo_new {B : Nat} {A : Nat → Prop} {w : World} {L : List Ob} {b : Nat} {id : Int} (h : Hp B A w (obC b [Ii id, .slice none 0 0, .slice none 0 0] 98 :: L)) : Hp B A w (idxPo b ⟨id, [], []⟩ :: L) := by
 have h1 := (h.addNil (α := Int) (e := 3)).addNil (α := Int) (e := 3)
 refine Hp.pack (F := idxPoL b ⟨id, [], []⟩) (.slice none 0 0, .slice none 0 0) (h1.perm ?_)
 exact (List.Perm.cons _ (List.Perm.swap _ _ _)).trans (List.Perm.swap _ _ _)
theorem idxTo_c (title : Bool) (w : World) (b : Nat) : Ret prog (if title = true then 81 else 82) #[Pt b] w fun v w' => v = .pointer (some ⟨b, if title = true then 1 else 2, none⟩) ∧ w = w' := by
 cases title
 ·refine enter func82 rfl ntmps82 rfl ?_
  refine Sr (As (To ?_))
  refine Sr (Mm (Nc (Vy (Y_fieldAddrC (off2 := 2) underlying98 rfl sizeOf23 (by decide) rfl rfl) (As (To ?_)))))
  refine Rt (Res.one results82 rfl) ?_
  exact ⟨rfl, rfl⟩
 refine enter func81 rfl ntmps81 rfl ?_
 refine Sr (As (To ?_))
 refine Sr (Mm (Nc (Vy (Y_fieldAddrC (off2 := 1) underlying98 rfl sizeOf23 (by decide) rfl rfl) (As (To ?_)))))
 refine Rt (Res.one results81 rfl) ?_
 exact ⟨rfl, rfl⟩
theorem idxToCall (title : Bool) : ∀ (args : Array Value) (w : World), (callFunc (if title = true then 81 else 82) args).run prog w = .ok (.enter (if title = true then 81 else 82) args) w := by
 cases title
 ·exact call82
 exact call81
theorem know_postings_note_c (w : World) {A : Nat → Prop} {B : Nat} (hB : B ≤ w.heap.size) (hA : ∀ b, w.heap.size ≤ b → A b) (e : know_Entry) (b_v : Nat) (h_v : El A w b_v 0 e) (text : ByteArray) (title : Bool) (b_f b_s mb : Nat) (v_s : Value) (found : List (ByteArray × know_Posting)) (stems : List ByteArray) {L : List Ob} (hH : Hp B A w (obC b_f [.map (some mb)] 138 :: obMO Ptr idxPo mb found :: obC b_s [v_s] 62 :: o_9 v_s stems :: L)) {r : Int × List (ByteArray × know_Posting) × List ByteArray} (hm : know_postings_note e.id_ text title (found, stems) = some r) :
  Ret prog 80 #[.string text, .func (.func (if title = true then 81 else 82)) #[] #[], Pt b_f, Pt b_v, Pt b_s] w fun u w' => ∃ v', ∃ A1 : Nat → Prop, u = Ii r.1 ∧ Hp B A1 w' (obC b_f [.map (some mb)] 138 :: obMO Ptr idxPo mb r.2.1 :: obC b_s [v'] 62 :: o_9 v' r.2.2 :: L) ∧ Tr Dw B A w A1 w' := by
 unfold know_postings_note at hm
 refine enter func80 rfl ntmps80 rfl ?_
 have hK : Tr Dw B A w A w := Tr.refl (Dw := Dw) hA
 refine Sr (As (To ?_))
 refine Sr (Mm ?_)
 obtain ⟨l, hl, hm⟩ := Bs hm
 refine Vc call17 (know_Words_c (Dw := Dw) w hA text hl) ?_
 rintro v1 w1 ⟨_, rfl, h1, hk1⟩
 obtain ⟨A1, ht1, hH1⟩ := Hp.addOwnd (Dw := Dw) hH hB hA hk1 h1
 replace h_v := El.tr h_v ht1; replace hK := Tt hK ht1; replace hB := Bx hB ht1; replace hA := ht1.new
 obtain ⟨A2, ht2, h_l, hH2⟩ := Hp.freeze (Dw := Dw) hH1 (i := 0) rfl hA
 replace h_v := El.tr h_v ht2; replace hK := Tt hK ht2; replace hA := ht2.new
 replace hH : Hp _ _ _ (obC b_f [.map (some mb)] 138 :: obMO Ptr idxPo mb found :: obC b_s [v_s] 62 :: o_9 v_s stems :: L) := hH2
 refine As (To ?_)
 refine C_seq (Sr (Mm (Vy (Y_lenSl h_l rfl underlying62 rfl) (Mm (To ?_)))))
 have hnl := Sl.le h_l
 obtain ⟨o, ho, hm⟩ := Bs hm
 refine C_cutG (ι := ((List (ByteArray × know_Posting) × List ByteArray) × Value × (Nat → Prop))) (fun ⟨s, v, A'⟩ => [(8, v1)]) (fun ⟨s, v, A'⟩ => fun w' => o = .fin s ∧ Hp B A' w' (obC b_f [.map (some mb)] 138 :: obMO Ptr idxPo mb s.1 :: obC b_s [v] 62 :: o_9 v s.2 :: L) ∧ Tr Dw B A2 w1 A' w') ?_ ?_
 ·refine C_block ?_
  refine C_range ho (fun k s a w' => ∃ i : (Value × (Nat → Prop)), Has ⟨54, [], none⟩ a ([(1, .func (.func (if title = true then 81 else 82)) #[] #[]), (2, Pt b_f), (3, Pt b_v), (4, Pt b_s), (8, v1), (15, v1), (16, Ii (l.length : Int)), (17, Ii (k : Int))]) ∧ Hp B i.2 w' (obC b_f [.map (some mb)] 138 :: obMO Ptr idxPo mb s.1 :: obC b_s [i.1] 62 :: o_9 i.1 s.2 :: L) ∧ Tr Dw B A2 w1 i.2 w') (fun a ha => ⟨(v_s, A2), ha.sb, hH, Tr.refl (Dw := Dw) hA⟩) ?_
  rintro K k s a w3 ⟨⟨v3, A3⟩, ha3, hH3, hr⟩ hle K3 hfin
  obtain ⟨fnd, stm⟩ := s
  refine C_of ?_ ha3
  replace h_v := El.tr h_v hr; replace h_l := Sl.tr h_l hr; replace hB := Nat.le_trans hB hr.ex.size; replace hA := hr.new
  replace hH : Hp _ _ _ (obC b_f [.map (some mb)] 138 :: obMO Ptr idxPo mb fnd :: obC b_s [v3] 62 :: o_9 v3 stm :: L) := hH3
  refine Sr (Vy (Y_lss rfl rfl) (To ?_))
  refine C_seq ?_
  refine Cc (fun hc => ?_) fun hc => ?_
  ·have hlt := lt_of_dec hc
   obtain ⟨x, hx, hnx⟩ := K3 hlt
   unfold idxNote at hx
   refine Sk ?_
   refine C_seq (C_block (Sr (Mm ?_)))
   obtain ⟨wd, hwd, hx⟩ := Bs hx
   refine V_indexAddr h_l hwd underlying62 sizeOf9 rfl rfl rfl ?_
   intro b4 o4 h4
   refine Ld (El.str h4) isAgg9 (As (As (To ?_)))
   refine Sr (Mm ?_)
   obtain ⟨t, hst, hx⟩ := Bs hx
   refine Vc call61 (know_Stem_c w3 wd hst) ?_
   rintro _ _ ⟨rfl, rfl⟩
   refine As (To ?_)
   obtain ⟨q, hq, hx⟩ := Bs hx
   obtain ⟨m, hpm, hx⟩ := Bs hx
   refine C_seq (Sr (Ld (Hp.cell (j := 0) hH (i := 0) rfl rfl) isAgg138 (Mm ?_)))
   refine V_lookupMO1 hH (i := 1) rfl underlying138 underlying9 zeroValue140 rfl rfl rfl rfl ?_
   intro oo hoo
   refine Vy (Y_eqlPN underlying140 rfl rfl) (To ?_)
   refine C_cutG (ι := (Value × (Nat → Prop))) (fun ⟨v, A'⟩ => [(1, .func (.func (if title = true then 81 else 82)) #[] #[]), (2, Pt b_f), (3, Pt b_v), (4, Pt b_s), (8, v1), (9, Ii (k : Int)), (11, .string t), (15, v1), (16, Ii (l.length : Int)), (17, Ii (k : Int))]) (fun ⟨v, A'⟩ => fun w' => Hp B A' w' (obC b_f [.map (some mb)] 138 :: obMO Ptr idxPo mb (mapHave fnd t ⟨e.id_, [], []⟩) :: obC b_s [v] 62 :: o_9 v q :: L) ∧ Tr Dw B A3 w3 A' w') ?_ ?_
   ·refine Cc (fun hn => ?_) fun hn => ?_
    ·have hnone : mapGet fnd t = none := by
      cases hg : mapGet fnd t with
      | none => rfl
      | some p => rw [hg] at hoo; rw [hoo] at hn; cases hn
     have hhave : mapHave fnd t (⟨e.id_, [], []⟩ : know_Posting) = fnd ++ [(t, ⟨e.id_, [], []⟩)] := mapHave_none hnone
     rw [hnone] at hq
     rw [if_neg (by simp)] at hq
     refine Sr (Ld (Hp.cell (j := 0) hH (i := 0) rfl rfl) isAgg138 (Mm ?_))
     have h_id := El_know_Entry_0 h_v
     refine Fa underlying58 rfl sizeOf3 (Li h_id isAgg3 ?_)
     refine Vy (Y_build underlying98 zeroValue98 (Tryz_places98 _ underlying98) rfl (by with_unfolding_all rfl)) ?_
     refine V_boxH (Dw := Dw) (B := B) hH rfl hB hA rfl ?_
     intro b5 w5 A5 hH5 ht5
     replace hB := Bx hB ht5; replace hA := ht5.new
     replace hH : Hp B A5 w5 (idxPo (Ref.b (⟨b5⟩ : Ptr)) ⟨e.id_, [], []⟩ :: obC b_f [.map (some mb)] 138 :: obMO Ptr idxPo mb fnd :: obC b_s [v3] 62 :: o_9 v3 stm :: L) := idxPo_new hH5
     refine V_mapNewMO (Dw := Dw) (r := (⟨b5⟩ : Ptr)) (f := idxPo) (c := ⟨e.id_, [], []⟩) hH (i := 1) rfl hnone underlying138 underlying9 rfl rfl rfl hB hA ?_
     intro w6 hH6 ht6
     replace hB := Bx hB ht6; replace hA := ht6.new
     replace hH : Hp _ _ _ (obC b_f [.map (some mb)] 138 :: obMO Ptr idxPo mb (fnd ++ [(t, ⟨e.id_, [], []⟩)]) :: obC b_s [v3] 62 :: o_9 v3 stm :: L) := hH6
     refine To ?_
     refine C_region (Ld (Hp.cell (j := 0) hH (i := 2) rfl rfl) isAgg62 (Mm ?_))
     refine V_buildSlice (Dw := Dw) (l := ([t] : List ByteArray)) (len := 1) underlying62 sizeOf9 zeroValue9 rfl (by with_unfolding_all rfl) (show (1 * 1 : Nat) ≠ 0 by decide) (show (1 * 1 : Nat) ≤ 2 ^ 24 by decide) hA ⟨[.string t], _, rfl, rfl, rfl⟩ rfl rfl ?_
     intro v7 w7 hk7 h7
     have ht7 := Kp.tr hk7 hA hB; replace hH := Hp.kp hH hk7; replace hB := Bx hB ht7; replace hA := ht7.new
     refine V_appendH (Dw := Dw) (e := 9) (v := v3) (l := stm) (ti := t9) (bytes := 16) (lim := 8796093022208) hH (i := 3) rfl h7 hq underlying62 Tryz_info9 rfl rfl rfl rfl (by decide) (by decide) (by decide) hB hA rfl rfl rfl ?_
     intro v8 w8 A8 hH8 ht8
     replace hB := Bx hB ht8; replace hA := ht8.new
     replace hH : Hp _ _ _ (obC b_f [.map (some mb)] 138 :: obMO Ptr idxPo mb (fnd ++ [(t, ⟨e.id_, [], []⟩)]) :: obC b_s [v3] 62 :: o_9 v8 q :: L) := hH8
     have one8 : v8.oneCell' = true := by obtain ⟨_, _, e, _⟩ := Hp.form hH (i := 3) rfl; rw [e]; rfl
     refine V_storeC (Dw := Dw) (off := 0) (ds := [v8]) hH (i := 2) rfl sizeOf62 (cells_of_one one8) (Nat.le_of_ble_eq_true rfl) (cells_all_one one8) (by rw [Value.cells_one one8]; rfl) hB hA rfl rfl ?_
     intro w9 hH9 ht9
     replace hH : Hp _ _ _ (obC b_f [.map (some mb)] 138 :: obMO Ptr idxPo mb (fnd ++ [(t, ⟨e.id_, [], []⟩)]) :: obC b_s [v8] 62 :: o_9 v8 q :: L) := hH9
     refine V_end (fun a ha => ?_)
     refine ⟨(v8, A8), ha.sb, ?_, Tr.trans ht5 (Tr.trans ht6 (Tr.trans ht7 (Tr.trans ht8 ht9)))⟩
     rw [hhave]
     exact hH
    have hsome : (mapGet fnd t).isSome = true := by
     rw [← hoo]
     simpa using hn
    have hhave : mapHave fnd t (⟨e.id_, [], []⟩ : know_Posting) = fnd := by unfold mapHave; exact if_pos hsome
    rw [if_pos hsome] at hq
    obtain rfl := Oi hq
    refine C_skip (fun a ha => ?_)
    refine ⟨(v3, A3), ha.sb, ?_, Tr.refl (Dw := Dw) hA⟩
    rw [hhave]
    exact hH
   rintro ⟨v5, A5⟩ w5 ⟨hH5, ht5⟩ a ha5
   replace hB := Bx hB ht5; replace hA := ht5.new; replace hr := Tt hr ht5
   replace hH : Hp _ _ _ (obC b_f [.map (some mb)] 138 :: obMO Ptr idxPo mb (mapHave fnd t ⟨e.id_, [], []⟩) :: obC b_s [v5] 62 :: o_9 v5 q :: L) := hH5
   have hnd := Hp.moNodup hH (i := 1) rfl
   refine C_at (n := ⟨54, [], none⟩) (fun _ _ => rfl) ?_ ha5
   refine Sr (Mm (Ld (Hp.cell (j := 0) hH (i := 0) rfl rfl) isAgg138 (Mm ?_)))
   refine V_lookupMO hH (i := 1) rfl (mapHave_get fnd t ⟨e.id_, [], []⟩) underlying138 underlying9 zeroValue140 rfl rfl rfl rfl ?_
   rintro j ⟨bp⟩ hj hHo
   refine V_call (idxToCall title) rfl rfl rfl rfl (idxTo_c title w5 bp) ?_
   rintro _ _ ⟨rfl, rfl⟩
   refine As (To ?_)
   refine C_region (Mm (Mm (Nc ?_)))
   unfold idxPut at hpm
   generalize (mapGet fnd t).getD ⟨e.id_, [], []⟩ = p at hpm hj hHo
   obtain ⟨⟨vt, vb⟩, hHp⟩ := Hp.open hHo
   cases title
   ·rw [if_neg (by decide)] at hpm
    obtain ⟨l1, hl1, hpm⟩ := Bs hpm
    obtain rfl := Oi hpm
    replace hH : Hp B A5 w5 (obC bp [Ii p.id_, vt, vb] 98 :: o_3 vt p.title :: o_3 vb p.body :: obC b_f [.map (some mb)] 138 :: obMX Ptr idxPo mb (mapHave fnd t ⟨e.id_, [], []⟩) j ⟨bp⟩ :: obC b_s [v5] 62 :: o_9 v5 q :: L) := hHp
    refine Ld (Hp.cell (j := 2) hH (i := 0) rfl rfl) isAgg23 (Mm ?_)
    refine V_buildSlice (Dw := Dw) (cells := #[Ii (k : Int)]) (l := ([(k : Int)] : List Int)) (len := 1) underlying23 sizeOf3 zeroValue3 rfl (by generalize ((k : Int)) = z; kernel_rfl) (show (1 * 1 : Nat) ≠ 0 by decide) (show (1 * 1 : Nat) ≤ 2 ^ 24 by decide) hA ⟨[Ii (k : Int)], _, rfl, rfl, rfl⟩ rfl rfl ?_
    intro v7 w7 hk7 h7
    have ht7 := Kp.tr hk7 hA hB; replace hH := Hp.kp hH hk7; replace hB := Bx hB ht7; replace hA := ht7.new
    refine V_appendH (Dw := Dw) (e := 3) (v := vb) (l := p.body) (ti := t3) (bytes := 8) (lim := 17592186044416) hH (i := 2) rfl h7 hl1 underlying23 Tryz_info3 rfl rfl rfl rfl (by decide) (by decide) (by decide) hB hA rfl rfl rfl ?_
    intro v8 w8 A8 hH8 ht8
    replace hB := Bx hB ht8; replace hA := ht8.new
    replace hH : Hp _ _ _ (obC bp [Ii p.id_, vt, vb] 98 :: o_3 vt p.title :: o_3 v8 l1 :: obC b_f [.map (some mb)] 138 :: obMX Ptr idxPo mb (mapHave fnd t ⟨e.id_, [], []⟩) j ⟨bp⟩ :: obC b_s [v5] 62 :: o_9 v5 q :: L) := hH8
    have one8 : v8.oneCell' = true := by obtain ⟨_, _, e, _⟩ := Hp.form hH (i := 2) rfl; rw [e]; rfl
    refine Nc ?_
    refine V_storeC (Dw := Dw) (off := 2) (ds := [Ii p.id_, vt, v8]) hH (i := 0) rfl sizeOf23 (cells_of_one one8) (Nat.le_of_ble_eq_true rfl) (cells_all_one one8) (by rw [Value.cells_one one8]; rfl) hB hA rfl rfl ?_
    intro w9 hH9 ht9
    have hHq : Hp B A8 w9 (idxPo (Ref.b (⟨bp⟩ : Ptr)) ⟨p.id_, p.title, l1⟩ :: obC b_f [.map (some mb)] 138 :: obMX Ptr idxPo mb (mapHave fnd t ⟨e.id_, [], []⟩) j ⟨bp⟩ :: obC b_s [v5] 62 :: o_9 v5 q :: L) := Hp.pack (F := idxPoL bp ⟨p.id_, p.title, l1⟩) (vt, v8) hH9
    have hHr := Hp.moBack (i := 1) hHq rfl hj
    rw [mapHave_put hnd hj] at hHr
    replace hr := Tr.trans hr (Tr.trans ht7 (Tr.trans ht8 ht9))
    refine To ?_
    refine C_region (Vy (Y_addI rfl rfl) (Mm ?_))
    obtain rfl := Oi hx
    refine V_end (fun a ha => ?_)
    exact ⟨(_, q), hlt, hnx, ⟨(v5, A8), ha.sub ⟨rfl, rfl, rfl, rfl, rfl, rfl, rfl, Ws hlt hnl, trivial⟩, hHr, hr⟩⟩
   rw [if_pos rfl] at hpm
   obtain ⟨l1, hl1, hpm⟩ := Bs hpm
   obtain rfl := Oi hpm
   replace hH : Hp B A5 w5 (obC bp [Ii p.id_, vt, vb] 98 :: o_3 vt p.title :: o_3 vb p.body :: obC b_f [.map (some mb)] 138 :: obMX Ptr idxPo mb (mapHave fnd t ⟨e.id_, [], []⟩) j ⟨bp⟩ :: obC b_s [v5] 62 :: o_9 v5 q :: L) := hHp
   refine Ld (Hp.cell (j := 1) hH (i := 0) rfl rfl) isAgg23 (Mm ?_)
   refine V_buildSlice (Dw := Dw) (cells := #[Ii (k : Int)]) (l := ([(k : Int)] : List Int)) (len := 1) underlying23 sizeOf3 zeroValue3 rfl (by generalize ((k : Int)) = z; kernel_rfl) (show (1 * 1 : Nat) ≠ 0 by decide) (show (1 * 1 : Nat) ≤ 2 ^ 24 by decide) hA ⟨[Ii (k : Int)], _, rfl, rfl, rfl⟩ rfl rfl ?_
   intro v7 w7 hk7 h7
   have ht7 := Kp.tr hk7 hA hB; replace hH := Hp.kp hH hk7; replace hB := Bx hB ht7; replace hA := ht7.new
   refine V_appendH (Dw := Dw) (e := 3) (v := vt) (l := p.title) (ti := t3) (bytes := 8) (lim := 17592186044416) hH (i := 1) rfl h7 hl1 underlying23 Tryz_info3 rfl rfl rfl rfl (by decide) (by decide) (by decide) hB hA rfl rfl rfl ?_
   intro v8 w8 A8 hH8 ht8
   replace hB := Bx hB ht8; replace hA := ht8.new
   replace hH : Hp _ _ _ (obC bp [Ii p.id_, vt, vb] 98 :: o_3 v8 l1 :: o_3 vb p.body :: obC b_f [.map (some mb)] 138 :: obMX Ptr idxPo mb (mapHave fnd t ⟨e.id_, [], []⟩) j ⟨bp⟩ :: obC b_s [v5] 62 :: o_9 v5 q :: L) := hH8
   have one8 : v8.oneCell' = true := by obtain ⟨_, _, e, _⟩ := Hp.form hH (i := 1) rfl; rw [e]; rfl
   refine Nc ?_
   refine V_storeC (Dw := Dw) (off := 1) (ds := [Ii p.id_, v8, vb]) hH (i := 0) rfl sizeOf23 (cells_of_one one8) (Nat.le_of_ble_eq_true rfl) (cells_all_one one8) (by rw [Value.cells_one one8]; rfl) hB hA rfl rfl ?_
   intro w9 hH9 ht9
   have hHq : Hp B A8 w9 (idxPo (Ref.b (⟨bp⟩ : Ptr)) ⟨p.id_, l1, p.body⟩ :: obC b_f [.map (some mb)] 138 :: obMX Ptr idxPo mb (mapHave fnd t ⟨e.id_, [], []⟩) j ⟨bp⟩ :: obC b_s [v5] 62 :: o_9 v5 q :: L) := Hp.pack (F := idxPoL bp ⟨p.id_, l1, p.body⟩) (v8, vb) hH9
   have hHr := Hp.moBack (i := 1) hHq rfl hj
   rw [mapHave_put hnd hj] at hHr
   replace hr := Tr.trans hr (Tr.trans ht7 (Tr.trans ht8 ht9))
   refine To ?_
   refine C_region (Vy (Y_addI rfl rfl) (Mm ?_))
   obtain rfl := Oi hx
   refine V_end (fun a ha => ?_)
   exact ⟨(_, q), hlt, hnx, ⟨(v5, A8), ha.sub ⟨rfl, rfl, rfl, rfl, rfl, rfl, rfl, Ws hlt hnl, trivial⟩, hHr, hr⟩⟩
  refine C_exit (fun a ha => ?_)
  exact ⟨((fnd, stm), v3, A3), ha.sb, ⟨(hfin (eq_of_dec hle hc)).symm, hH, hr⟩⟩
 rintro ⟨s, v3, A3⟩ w3 ⟨rfl, hH3, hr⟩ a ha3
 rw [Lp.andThen_fin] at hm
 obtain rfl := Oi hm
 replace h_l := Sl.tr h_l hr; replace hK := Tr.trans hK hr
 refine C_at (n := ⟨54, [], none⟩) (fun _ _ => rfl) ?_ ha3
 refine Sr (Mm (Vy (Y_lenSl h_l rfl underlying62 rfl) (As (To ?_))))
 refine Rt (Res.one results80 rfl) ?_
 exact ⟨v3, A3, rfl, hH3, hK⟩
theorem idxPo_el {A A1 : Nat → Prop} {w : World} {b : Nat} {x : know_Posting} {fb : List Nat} (h : (idxPo b x).P fb A w) (hf : ∀ k ∈ fb, A1 k ∧ k < w.heap.size) : El (α := know_Posting) A1 w b 0 x := by
 obtain ⟨⟨vt, vb⟩, hs⟩ := h
 obtain ⟨f1, ⟨rfl, h1⟩, s1, _⟩ := Sp.at hs (i := 0) rfl
 obtain ⟨f2, h2, s2, _⟩ := Sp.at hs (i := 1) rfl
 obtain ⟨f3, h3, s3, _⟩ := Sp.at hs (i := 2) rfl
 have hb := hf b (s1 b (by simp))
 have h_t : Sl A1 w vt x.title := OwP.slI h2 fun k hk => (hf k (s2 k hk)).1
 have h_b : Sl A1 w vb x.body := OwP.slI h3 fun k hk => (hf k (s3 k hk)).1
 refine ⟨hb.1, hb.2, [Ii x.id_, vt, vb], ⟨[Ii x.id_], _, rfl, rfl, ⟨[vt], _, rfl, ⟨_, rfl, h_t⟩, ⟨_, rfl, h_b⟩⟩⟩, fun j u hj => ?_⟩
 simp only [World.cell?, h1, Nat.zero_add]
 simpa using hj
theorem know_postings_c (w : World) {A : Nat → Prop} {B : Nat} (hB : B ≤ w.heap.size) (hA : ∀ b, w.heap.size ≤ b → A b) (v : know_Entry) {L : List Ob} (hH : Hp B A w (L)) {r : List know_Term × Int} (hm : know_postings v = some r) : Ret prog 49 #[.agg #[Ii v.id_, .string v.title, .string v.body]] w fun u w' => ∃ s0, ∃ A1 : Nat → Prop, u = .tuple #[s0, Ii r.2] ∧ Hp B A1 w' (o_90 s0 r.1 :: L) ∧ Tr Dw B A w A1 w' := by
 unfold know_postings at hm
 refine enter func49 rfl ntmps49 rfl ?_
 have hK : Tr Dw B A w A w := Tr.refl (Dw := Dw) hA
 refine Sr ?_
 refine V_box rfl rfl ?_
 intro b1 w1 n1
 have h_v : El (α := know_Entry) A w1 b1 0 v := n1.el hA ⟨[Ii v.id_], _, rfl, rfl, ⟨[.string v.title], _, rfl, rfl, rfl⟩⟩
 have ht1 := Kp.tr (Dw := Dw) n1.kp hA hB
 replace hH := Hp.kp (Dw := Dw) hH n1.kp
 replace hK := Tt hK ht1; replace hB := Bx hB ht1; replace hA := ht1.new
 refine As (As (To ?_))
 refine Sr ?_
 refine V_makeMapB (Dw := Dw) ByteArray (Option Ptr) hH hB hA rfl ?_
 intro mb w2 A2 hH2 ht2
 replace h_v := El.tr h_v ht2; replace hK := Tt hK ht2; replace hB := Bx hB ht2; replace hA := ht2.new
 replace hH : Hp B A2 w2 (obMO (κ := ByteArray) Ptr idxPo mb [] :: L) := Hp.moNew Ptr idxPo hH2 (i := 0) rfl
 refine V_allocH (Dw := Dw) (B := B) hH zeroValue138 hB hA rfl ?_
 intro b_f w3 A3 hH3 ht3
 replace h_v := El.tr h_v ht3; replace hK := Tt hK ht3; replace hB := Bx hB ht3; replace hA := ht3.new
 refine V_storeC (Dw := Dw) (off := 0) (ds := [.map (some mb)]) hH3 (i := 0) rfl sizeOf138 rfl (Nat.le_of_ble_eq_true rfl) (by exact (List.forall_mem_cons.2 ⟨rfl, (fun _ h => nomatch h)⟩)) rfl hB hA rfl rfl ?_
 intro w4 hH4 ht4
 replace h_v := El.tr h_v ht4; replace hK := Tt hK ht4; replace hB := Bx hB ht4; replace hA := ht4.new
 refine To ?_
 refine Sr ?_
 refine V_allocH (Dw := Dw) (B := B) hH4 zeroValue62 hB hA rfl ?_
 intro b_s w5 A5 hH5 ht5
 replace h_v := El.tr h_v ht5; replace hK := Tt hK ht5; replace hB := Bx hB ht5; replace hA := ht5.new
 have hH6 : Hp B A5 w5 (o_9 (.slice none 0 0) [] :: obC b_s [.slice none 0 0] 62 :: obC b_f [.map (some mb)] 138 :: obMO (κ := ByteArray) Ptr idxPo mb [] :: L) := Hp.addNil (α := ByteArray) (e := 9) hH5
 replace hH : Hp B A5 w5 (obC b_f [.map (some mb)] 138 :: obMO Ptr idxPo mb ([] : List (ByteArray × know_Posting)) :: obC b_s [.slice none 0 0] 62 :: o_9 (.slice none 0 0) [] :: L) := Hp.front (Hp.front (Hp.front hH6 (i := 1) rfl) (i := 3) rfl) (i := 3) rfl
 refine To ?_
 refine Sr (Vy (Y_makeFunc rfl rfl) (As (To ?_)))
 refine Sr (Mm ?_)
 have h_ti := El_know_Entry_1 h_v
 refine Fa underlying58 rfl sizeOf9 (Ld (El.str h_ti) isAgg9 ?_)
 obtain ⟨a, ha, hm⟩ := Bs hm
 refine Vc call80 (know_postings_note_c (Dw := Dw) w5 hB hA v b1 h_v v.title true b_f b_s mb (.slice none 0 0) [] [] hH ha) ?_
 rintro _ w6 ⟨v6, A6, rfl, hH6', ht6⟩
 replace h_v := El.tr h_v ht6; replace hK := Tt hK ht6; replace hB := Bx hB ht6; replace hA := ht6.new
 obtain ⟨n1_, f1, s1⟩ := a
 replace hH : Hp B A6 w6 (obC b_f [.map (some mb)] 138 :: obMO Ptr idxPo mb f1 :: obC b_s [v6] 62 :: o_9 v6 s1 :: L) := hH6'
 refine As (To ?_)
 refine Sr (Mm (Mm ?_))
 have h_bo := El_know_Entry_2 h_v
 refine Fa underlying58 rfl sizeOf9 (Ld (El.str h_bo) isAgg9 ?_)
 obtain ⟨b, hb, hm⟩ := Bs hm
 refine Vc call80 (know_postings_note_c (Dw := Dw) w6 hB hA v b1 h_v v.body false b_f b_s mb v6 f1 s1 hH hb) ?_
 rintro _ w7 ⟨v7, A7, rfl, hH7, ht7⟩
 replace hK := Tt hK ht7; replace hB := Bx hB ht7; replace hA := ht7.new
 obtain ⟨n2_, f2, s2⟩ := b
 replace hH : Hp _ _ _ (obC b_f [.map (some mb)] 138 :: obMO Ptr idxPo mb f2 :: obC b_s [v7] 62 :: o_9 v7 s2 :: L) := hH7
 refine Vy (Y_addI rfl rfl) (As (To ?_))
 refine Sr (Ld (Hp.cell (j := 0) hH (i := 2) rfl rfl) isAgg62 ?_)
 obtain ⟨q, hq, hm⟩ := Bs hm
 refine Vc call83 (Tryz_cp83 (Dw := Dw) hH (i := 3) rfl hB hA hq) ?_
 rintro _ w8 ⟨rfl, hH8, ht8⟩
 replace hK := Tt hK ht8; replace hB := Bx hB ht8; replace hA := ht8.new
 replace hH : Hp _ _ _ (obC b_f [.map (some mb)] 138 :: obMO Ptr idxPo mb f2 :: obC b_s [v7] 62 :: o_9 v7 q :: L) := hH8
 refine To ?_
 obtain ⟨A9, ht9, h_q, hH9⟩ := Hp.freeze (Dw := Dw) hH (i := 3) rfl hA
 replace hK := Tt hK ht9; replace hA := ht9.new
 obtain ⟨A10, f0, hP, hf0, hsub, ht10, hH10⟩ := Hp.frz (Dw := Dw) hH9 (i := 1) rfl hA
 obtain ⟨rs, hrl, hF, hPo⟩ := moPersist hP hf0
 replace hK := Tt hK ht10; replace hA := ht10.new; replace h_q := Sl.tr h_q ht10
 have hEl : ∀ (j : Nat) (r : Ptr) (p : ByteArray × know_Posting), rs[j]? = some r → f2[j]? = some p → El (α := know_Posting) A10 w8 r.b 0 p.2 := fun j r p h1 h2 => by
  obtain ⟨fb, h3, h4⟩ := hPo j r p h1 h2
  exact idxPo_el h3 h4
 clear hP hf0 hPo
 replace hH : Hp _ _ _ (obC b_f [.map (some mb)] 138 :: obC b_s [v7] 62 :: L) := hH10
 refine Sr (As (To ?_))
 replace hH : Hp B A10 w8 (o_90 (.slice none 0 0) [] :: obC b_f [.map (some mb)] 138 :: obC b_s [v7] 62 :: L) := Hp.addNil (α := know_Term) (e := 90) hH
 refine C_seq (Sr (Ld (Hp.cell (j := 0) hH (i := 2) rfl rfl) isAgg62 (Vy (Y_lenSl h_q rfl underlying62 rfl) (Mm (To ?_)))))
 have hnl := Sl.le h_q
 obtain ⟨o, ho, hm⟩ := Bs hm
 refine C_cutG (ι := (List know_Term × Value × (Nat → Prop))) (fun ⟨s, v9, A'⟩ => [(7, Ii (w64 (n1_ + n2_))), (8, v9)]) (fun ⟨s, v9, A'⟩ => fun w' => o = .fin s ∧ Hp B A' w' (o_90 v9 s :: obC b_f [.map (some mb)] 138 :: obC b_s [v7] 62 :: L) ∧ Tr Dw B A10 w8 A' w') ?_ ?_
 ·refine C_block ?_
  refine C_range ho (fun k s a w' => ∃ i : (Value × (Nat → Prop)), Has ⟨45, [], none⟩ a ([(4, Pt b_f), (7, Ii (w64 (n1_ + n2_))), (8, i.1), (25, v7), (26, Ii (q.length : Int)), (27, Ii (k : Int))]) ∧ Hp B i.2 w' (o_90 i.1 s :: obC b_f [.map (some mb)] 138 :: obC b_s [v7] 62 :: L) ∧ Tr Dw B A10 w8 i.2 w') (fun a ha => ⟨(.slice none 0 0, A10), ha.sb, hH, Tr.refl (Dw := Dw) hA⟩) ?_
  rintro K k s a w9 ⟨⟨v9, A11⟩, ha9, hH11, hr⟩ hle K9 hfin
  refine C_of ?_ ha9
  replace h_q := Sl.tr h_q hr
  replace hF := FMb.tr (Dw := Dw) hF hr
  replace hB := Nat.le_trans hB hr.ex.size; replace hA := hr.new
  replace hH : Hp _ _ _ (o_90 v9 s :: obC b_f [.map (some mb)] 138 :: obC b_s [v7] 62 :: L) := hH11
  refine Sr (Vy (Y_lss rfl rfl) (To ?_))
  refine C_seq ?_
  refine Cc (fun hc => ?_) fun hc => ?_
  ·have hlt := lt_of_dec hc
   obtain ⟨x, hx, hnx⟩ := K9 hlt
   refine Sk ?_
   refine C_seq (C_block (Sr ?_))
   obtain ⟨t, ht, hx⟩ := Bs hx
   refine V_indexAddr h_q ht underlying62 sizeOf9 rfl rfl rfl ?_
   intro b4 o4 h4
   refine Ld (El.str h4) isAgg9 (As (To ?_))
   obtain ⟨p, hp, hx⟩ := Bs hx
   obtain ⟨j, rf, hj, hrj, hg, _⟩ := moE_some (rs := rs) hrl hp
   have hpo := El.tr (hEl j rf (t, p) hrj hj) hr
   refine C_region (Mm (Mm (Ld (Hp.cell (j := 0) hH (i := 1) rfl rfl) isAgg138 (Mm (Vy (Y_lookupF (zz := (none : Option Ptr)) hF underlying138 underlying9 zeroValue140 rfl rfl rfl) ?_)))))
   rw [hg]
   refine Vy (Y_nilCheck (a := ⟨rf.b, 0, none⟩) rfl) ?_
   obtain ⟨vt, vb, hat, h_t, h_b⟩ := El_know_Posting hpo
   refine Vy (Y_loadA hat isAgg98 sizeOf98 rfl) ?_
   refine V_buildSlice (Dw := Dw) (cells := #[Ii p.id_, vt, vb]) (l := ([p] : List know_Posting)) (len := 1) underlying88 sizeOf98 zeroValue98 rfl (by obtain ⟨a89, c90, e91, _⟩ := Sl.form h_t; subst e91; obtain ⟨a92, c93, e94, _⟩ := Sl.form h_b; subst e94; kernel_rfl) (show (1 * 3 : Nat) ≠ 0 by decide) (show (1 * 3 : Nat) ≤ 2 ^ 24 by decide) hA ⟨[Ii p.id_, vt, vb], _, rfl, ⟨[Ii p.id_], _, rfl, rfl, ⟨[vt], _, rfl, ⟨_, rfl, h_t⟩, ⟨_, rfl, h_b⟩⟩⟩, rfl⟩ rfl rfl ?_
   intro v12 w12 hk12 h12
   have ht12 := Kp.tr hk12 hA hB; replace hH := Hp.kp hH hk12; replace hr := Tt hr ht12; replace hB := Bx hB ht12; replace hA := ht12.new
   refine Vy (Y_build (cells := #[.string t, v12]) underlying90 zeroValue90 (Tryz_places90 _ underlying90) rfl (by obtain ⟨a89, c90, e91, _⟩ := Sl.form h12; subst e91; kernel_rfl)) ?_
   refine V_buildSlice (Dw := Dw) (cells := #[.string t, v12]) (l := ([(⟨t, [p]⟩ : know_Term)] : List know_Term)) (len := 1) underlying45 sizeOf90 zeroValue90 rfl (by obtain ⟨a89, c90, e91, _⟩ := Sl.form h12; subst e91; kernel_rfl) (show (1 * 2 : Nat) ≠ 0 by decide) (show (1 * 2 : Nat) ≤ 2 ^ 24 by decide) hA ⟨[.string t, v12], _, rfl, ⟨[.string t], _, rfl, rfl, ⟨_, rfl, h12⟩⟩, rfl⟩ rfl rfl ?_
   intro v13 w13 hk13 h13
   have ht13 := Kp.tr hk13 hA hB; replace hH := Hp.kp hH hk13; replace hr := Tt hr ht13; replace hB := Bx hB ht13; replace hA := ht13.new
   obtain ⟨s', hs', hx⟩ := Bs hx
   refine V_appendH (Dw := Dw) (e := 90) (v := v9) (l := s) (ti := t90) (bytes := 40) (lim := 3518437208883) hH (i := 0) rfl h13 hs' underlying45 Tryz_info90 rfl rfl rfl rfl (by decide) (by decide) (by decide) hB hA rfl rfl rfl ?_
   intro v14 w14 A14 hH14 ht14
   replace hr := Tt hr ht14
   replace hH : Hp _ _ _ (o_90 v14 s' :: obC b_f [.map (some mb)] 138 :: obC b_s [v7] 62 :: L) := hH14
   refine As (To ?_)
   refine C_region (Vy (Y_addI rfl rfl) (Mm ?_))
   obtain rfl := Oi hx
   refine V_end (fun a ha => ?_)
   exact ⟨s', hlt, hnx, ⟨(v14, A14), ha.sub ⟨rfl, rfl, rfl, rfl, rfl, Ws hlt hnl, trivial⟩, hH, hr⟩⟩
  refine C_exit (fun a ha => ?_)
  exact ⟨(s, v9, A11), ha.sb, ⟨(hfin (eq_of_dec hle hc)).symm, hH, hr⟩⟩
 rintro ⟨s, v9, A9'⟩ w9 ⟨rfl, hH9', hr⟩ a ha9
 rw [Lp.andThen_fin] at hm
 obtain rfl := Oi hm
 replace hK := Tr.trans hK hr
 refine C_at (n := ⟨45, [], none⟩) (fun _ _ => rfl) ?_ ha9
 refine Sr (Mm (Mm (As (As (To ?_)))))
 refine Rt (Res.two results49 rfl rfl) ?_
 exact ⟨v9, A9', rfl, Hp.drop (i := 1) (Hp.drop (i := 1) hH9' rfl) rfl, hK⟩
theorem slices_BinarySearchFunc_Lknow_Term_know_Term_know_Term_c (w : World) {A : Nat → Prop} (hA : ∀ b, w.heap.size ≤ b → A b) (x : (List know_Term)) (v_x : Value) (h_x : Sl A w v_x x) (target : know_Term) (v_target : Value) (h_target : Sl A w v_target target.list_) (cmp : know_Term → know_Term → Option Int) (cmp_f : FuncId) (cmp_a cmp_c : Array Value) (cmp_call : ∀ (args : Array Value) (w : World), (callFunc cmp_f args).run prog w = .ok (.enter cmp_f args) w) (cmp_spec : ∀ (w1 : World) (A1 : Nat → Prop), Tr Dw w.heap.size A w A1 w1 → (∀ b, w1.heap.size ≤ b → A1 b) → ∀ (y0 : know_Term) (v1 : Value) (h2 : Sl A1 w1 v1 y0.list_) (y1 : know_Term) (v3 : Value) (h4 : Sl A1 w1 v3 y1.list_) (r : Int), cmp y0 y1 = some r → Ret prog cmp_f (cmp_a ++ #[.agg #[.string y0.word, v1], .agg #[.string y1.word, v3]] ++ cmp_c) w1 fun v w' => v = Ii r ∧ Kp Dw w1 w') {r : (Int × Bool)} (hm : slices_BinarySearchFunc_Lknow_Term_know_Term_know_Term x target cmp = some r) : Ret prog 50 #[v_x, .agg #[.string target.word, v_target], .func (.func cmp_f) cmp_a cmp_c] w fun v w' => v = .tuple #[Ii r.1, .bool r.2] ∧ Kp Dw w w' := by
 unfold slices_BinarySearchFunc_Lknow_Term_know_Term_know_Term at hm
 refine enter func50 rfl ntmps50 rfl ?_
 have hA0 := hA
 obtain ⟨hB, hK, hH⟩ := St (Dw := Dw) hA
 refine Sr ?_
 refine V_box rfl rfl ?_
 intro b5 w6 h7
 have hk9 := h7.kp (Dw := Dw)
 have h8 : El (α := know_Term) A w6 b5 0 target := h7.el hA ⟨[.string target.word], _, rfl, rfl, ⟨_, rfl, h_target⟩⟩
 have ht10 := Kp.tr hk9 hA hB; replace hH := Hp.kp hH hk9; replace h_x := Sl.tr h_x ht10; replace hK := Tt hK ht10; replace hB := Bx hB ht10; replace hA := ht10.new
 refine As (As (To ?_))
 refine Sr (Mm (Vy (Y_lenSl h_x rfl underlying45 rfl) (As (To ?_))))
 refine Sr (Mm (As (As (To ?_))))
 refine C_seq ?_
 obtain ⟨o11, ho11, hm⟩ := Bs hm
 refine C_cutG (ι := ((Int × Int) × (Nat → Prop))) (fun ⟨s12, A18⟩ => [(0, v_x), (2, .func (.func cmp_f) cmp_a cmp_c), (4, Pt b5), (8, Ii (x.length : Int)), (9, Ii s12.1)]) (fun ⟨s12, A18⟩ => fun w' => o11 = .fin s12 ∧ Hp w.heap.size A18 w' ([]) ∧ Tr Dw w.heap.size A w6 A18 w') ?_ ?_
 ·refine C_block ?_
  refine C_while ho11 (fun s20 a w' => ∃ i : (Nat → Prop), Has ⟨49, [], none⟩ a ([(0, v_x), (2, .func (.func cmp_f) cmp_a cmp_c), (4, Pt b5), (8, Ii (x.length : Int)), (9, Ii s20.1), (10, Ii s20.2)]) ∧ Hp w.heap.size i w' ([]) ∧ Tr Dw w.heap.size A w6 i w') (fun a ha => ⟨A, ha.sb, ⟨hH, Tr.refl (Dw := Dw) hA⟩⟩) ?_
  rintro K s20 a w21 ⟨A22, ha67, hH23, hr13⟩ K30
  refine C_of ?_ ha67
  replace h_x := Sl.tr h_x hr13; replace h8 := El.tr h8 hr13; replace hK := Tt hK hr13; replace hB := Bx hB hr13; replace hA := hr13.new; replace hH := hH23
  obtain ⟨x24, h25, h26⟩ := K30
  refine C_seq (Sr (Mm (Mm (Vy (Y_lss rfl rfl) (To ?_)))))
  refine Cc (fun hc31 => ?_) fun hc31 => ?_
  ·rw [if_pos hc31] at h25
   refine Sk ?_
   obtain ⟨s33, ho32, h25⟩ := Bs h25
   refine C_cutG (ι := (Nat → Prop)) (fun (A38 : (Nat → Prop)) => [(0, v_x), (2, .func (.func cmp_f) cmp_a cmp_c), (4, Pt b5), (8, Ii (x.length : Int)), (9, Ii s33.1), (10, Ii s33.2)]) (fun (A38 : (Nat → Prop)) => fun w' => Hp w.heap.size A38 w' ([]) ∧ Tr Dw w.heap.size A22 w21 A38 w') ?_ ?_
   ·have hr34 : Tr Dw w.heap.size A22 w21 A22 w21 := Tr.refl (Dw := Dw) hA
    refine C_block (Sr (Mm (Mm (Vy (Y_addI rfl rfl) (Vy (Y_convI underlying3 underlying127 rfl) ?_)))))
    obtain ⟨x40, hx40, ho32⟩ := Bs ho32
    refine Vy (Y_shr hx40 rfl rfl) (Vy (Y_convI underlying127 underlying3 rfl) (As (To ?_)))
    refine C_seq ?_
    refine C_region_q (Dw := Dw) Tryz_mixed (by kernel_rfl) ?_
    refine Qm (Qm (Qm ?_))
    obtain ⟨x41, hx41, ho32⟩ := Bs ho32
    refine VQ_indexAddr h_x hx41 underlying45 sizeOf90 rfl rfl rfl ?_
    intro b42 o43 h44
    obtain ⟨v45, h47, h46⟩ := El_know_Term h44
    refine Qv (fun w' hw' => Y_loadA (At.kp h47 hw' h44.2.1) isAgg90 sizeOf90 rfl) ?_
    obtain ⟨v48, h50, h49⟩ := El_know_Term h8
    refine Qv (fun w' hw' => Y_loadA (At.kp h50 hw' h8.2.1) isAgg90 sizeOf90 rfl) ?_
    obtain ⟨x51, hx51, ho32⟩ := Bs ho32
    refine VQ_call (Ii x51) cmp_call rfl rfl rfl rfl (fun w' hw' => (cmp_spec w' _ (Tr.trans hK (Kp.tr (Dw := Dw) hw' hA hB)) (fun b hb => hA b (Nat.le_trans hw'.size hb)) x41 v45 (Sl.kp h46 hw') target v48 (Sl.kp h49 hw') _ hx51).mono fun _ _ h => ⟨h.1, Kp.trans (Dw := Dw) hw' h.2⟩) ?_
    refine Qv (fun w' hw' => Y_lss rfl rfl) ?_
    refine VQ_to (fun _ _ => rfl) (fun w52 hk53 => ?_)
    have ht54 := Kp.tr hk53 hA hB; replace hH := Hp.kp hH hk53; replace hr34 := Tt hr34 ht54
    obtain ⟨s56, ho55, ho32⟩ := Bs ho32
    refine C_cutG (ι := Unit) (fun (_ : Unit) => [(0, v_x), (2, .func (.func cmp_f) cmp_a cmp_c), (4, Pt b5), (8, Ii (x.length : Int)), (9, Ii s56.1), (10, Ii s56.2)]) (fun (_ : Unit) => fun w' => w52 = w') ?_ ?_
    ·refine Cc (fun hc61 => ?_) fun hc61 => ?_
     ·rw [if_pos hc61] at ho55
      refine C_region (Mm (Vy (Y_addI rfl rfl) (As ?_)))
      obtain rfl := Oi ho55
      refine V_end (fun a ha62 => ?_)
      exact ⟨(), ha62.sb, rfl⟩
     rw [if_neg (nt hc61)] at ho55
     refine C_region (Mm (As ?_))
     obtain rfl := Oi ho55
     refine V_end (fun a ha63 => ?_)
     exact ⟨(), ha63.sb, rfl⟩
    rintro _ _ rfl a ha60
    obtain rfl := Oi ho32
    exact ⟨A22, ha60.sb, ⟨hH, hr34⟩⟩
   rintro A38 w35 ⟨hH39, hk36⟩ a ha37
   replace hr13 := Tr.trans hr13 hk36; replace hA := hk36.new; replace hH := hH39
   obtain rfl := Oi h25
   exact ⟨(s33.1, s33.2), h26, ⟨A38, ha37.sb, ⟨hH, hr13⟩⟩⟩
  rw [if_neg (nt hc31)] at h25
  obtain rfl := Oi h25
  refine C_exit (fun a ha66 => ?_)
  exact ⟨((s20.1, s20.2), A22), ha66.sb, ⟨h26.symm, hH, hr13⟩⟩
 rintro ⟨s12, A18⟩ w15 ⟨rfl, hH19, hk16⟩ a ha17
 rw [Lp.andThen_fin] at hm
 replace h_x := Sl.tr h_x hk16; replace h8 := El.tr h8 hk16; replace hK := Tr.trans hK hk16; replace hB := Nat.le_trans hB hk16.ex.size; replace hA := hk16.new; replace hH := hH19
 refine C_at (n := ⟨49, [], none⟩) (fun _ _ => rfl) ?_ ha17
 refine C_seq ?_
 refine C_region_q (Dw := Dw) Tryz_mixed (by kernel_rfl) ?_
 refine Qm (Qm (Qm (Qv (fun w' hw' => Y_lss rfl rfl) (Qm ?_))))
 obtain ⟨s69, hs69, hm⟩ := Bs hm
 refine VQ_cut 9 (fun _ : Unit => [(35, Ii s12.1), (48, .bool s69)]) (fun _ => True) ?_ ?_
 ·simp only [List.take, List.drop]
  rcases Be (decide (s12.1 < (x.length : Int))) with hc68 | hc68
  ·rw [if_pos hc68] at hs69
   refine Qh hc68 (Qm (Qh hc68 (Qm (Qh hc68 (Qm (Qh hc68 ?_))))))
   obtain ⟨x70, hx70, hs69⟩ := Bs hs69
   refine VQ_indexAddr h_x hx70 underlying45 sizeOf90 rfl rfl rfl ?_
   intro b71 o72 h73
   refine Qh hc68 ?_
   obtain ⟨v74, h76, h75⟩ := El_know_Term h73
   refine Qv (fun w' hw' => Y_loadA (At.kp h76 hw' h73.2.1) isAgg90 sizeOf90 rfl) (Qh hc68 ?_)
   obtain ⟨v77, h79, h78⟩ := El_know_Term h8
   refine Qv (fun w' hw' => Y_loadA (At.kp h79 hw' h8.2.1) isAgg90 sizeOf90 rfl) (Qh hc68 ?_)
   obtain ⟨x80, hx80, hs69⟩ := Bs hs69
   refine VQ_call (Ii x80) cmp_call rfl rfl rfl rfl (fun w' hw' => (cmp_spec w' _ (Tr.trans hK (Kp.tr (Dw := Dw) hw' hA hB)) (fun b hb => hA b (Nat.le_trans hw'.size hb)) x70 v74 (Sl.kp h75 hw') target v77 (Sl.kp h78 hw') _ hx80).mono fun _ _ h => ⟨h.1, Kp.trans (Dw := Dw) hw' h.2⟩) ?_
   refine Qh hc68 (Qv (fun w' hw' => Y_eql rfl rfl) ?_)
   refine VQ_y (fun _ _ => Y_pick_te rfl hc68 rfl) rfl rfl rfl ?_
   obtain rfl := Oi hs69
   exact VQ_end fun a ha => ⟨(), ha.sb, trivial⟩
  rw [if_neg (nt hc68)] at hs69
  refine Qg hc68 (Qg hc68 (Qg hc68 (Qg hc68 (Qg hc68 (Qg hc68 (Qg hc68 (Qg hc68 ?_)))))))
  refine VQ_y (fun _ _ => Y_pick_fe rfl hc68 rfl) rfl rfl rfl ?_
  obtain rfl := Oi hs69
  exact VQ_end fun a ha => ⟨(), ha.sb, trivial⟩
 simp only [List.take, List.drop]
 rintro _ _
 refine Qa (Qa ?_)
 refine VQ_to (fun _ _ => rfl) (fun w81 hk82 => ?_)
 have ht83 := Kp.tr hk82 hA hB; replace hK := Tt hK ht83
 obtain rfl := Oi hm
 refine Rt (Res.two results50 rfl rfl) ?_
 exact ⟨rfl, hK.kp⟩
def Tryz_strings_Compare_lay_ren : Go.Shelf.Ren := ⟨fun | 106 => 72 | 213 => 112 | 265 => 134 | n => n, fun | 0 => 0 | 1 => 1 | 2 => 2 | 3 => 3 | 4 => 4 | 5 => 5 | 6 => 6 | 7 => 7 | 8 => 8 | 9 => 9 | 10 => 10 | 11 => 11 | 12 => 12 | 13 => 13 | 14 => 14 | 15 => 15 | 16 => 16 | 17 => 17 | 18 => 18 | 19 => 19 | 20 => 20 | 21 => 21 | 22 => 119 | 27 => 132 | 28 => 23 | 29 => 36 | 30 => 74 | 31 => 62 | 34 => 145 | 35 => 198 | 37 => 135 | 41 => 71 | 43 => 95 | 46 => 127 | 47 => 126 | 51 => 165 | 52 => 164 | 53 => 167 | 54 => 166 | 55 => 104 | 61 => 136 | 67 => 117 | 68 => 63 | 69 => 103 | 70 => 149 | 71 => 150 | 72 => 151 | 73 => 152 | 74 => 153 | 75 => 154 | 76 => 155 | 77 => 156 | 80 => 157 | 81 => 227 | 100 => 143 | 103 => 207 | 104 => 212 | 105 => 208 | 106 => 209 | 111 => 77 | 112 => 144 | 113 => 176 | 114 => 214 | 119 => 216 | 127 => 179 | 131 => 108 | 135 => 177 | 137 => 217 | 138 => 218 | 139 => 219 | 146 => 220 | 150 => 192 | 151 => 221 | 164 => 199 | 165 => 200 | 166 => 201 | 182 => 170 | 183 => 171 | 188 => 193 | 189 => 194 | 190 => 195 | 191 => 196 | 192 => 197 | 218 => 186 | 219 => 187 | 220 => 188 | 222 => 190 | 224 => 210 | 225 => 211 | 228 => 204 | 229 => 205 | 231 => 215 | 238 => 222 | 239 => 223 | 240 => 224 | 241 => 225 | 242 => 226 | 243 => 228 | 244 => 229 | 245 => 230 | 246 => 231 | 247 => 232 | 248 => 233 | 249 => 234 | n => n, fun | 1 => 0 | 3 => 1 | 4 => 2 | n => n⟩
theorem Tryz_strings_Compare_lay : Go.Proofs.Lays.n106 Tryz.prog Tryz_strings_Compare_lay_ren := {
  mixed := by kernel_rfl,
  f106 := Tryz.func72.trans (congrArg some (by kernel_rfl)),
  f213 := Tryz.func112.trans (congrArg some (by kernel_rfl)),
  f265 := Tryz.func134.trans (congrArg some (by kernel_rfl)),
  t3 := Tryz.underlying3,
  a3 := Tryz.isAgg3,
  z3 := Tryz.sizeOf3,
  v3 := Tryz.zeroValue3,
  t9 := Tryz.underlying9,
  a9 := Tryz.isAgg9,
  z9 := Tryz.sizeOf9,
  v9 := Tryz.zeroValue9 }
theorem strings_Compare_c (w : World) {A : Nat → Prop} (hA : ∀ b, w.heap.size ≤ b → A b) (a : ByteArray) (b : ByteArray) {r : Int} (hm : strings_Compare a b = some r) : Ret Tryz.prog 72 #[.string a, .string b] w fun v w' => v = .int .i64 r ∧ Kp Dw w w' := by
  unfold strings_Compare at hm
  obtain rfl := Option.some.inj hm
  refine Calls.mono (Go.Proofs.Any.strings_Compare Tryz_strings_Compare_lay a b w) ?_
  rintro _ w' ⟨rfl, rfl⟩
  exact ⟨_, rfl, rfl, Kp.refl (Dw := Dw) _⟩
theorem know_byWord_c (w : World) {A : Nat → Prop} (hA : ∀ b, w.heap.size ≤ b → A b) (a_ : know_Term) (v_a_ : Value) (h_a_ : Sl A w v_a_ a_.list_) (b : know_Term) (v_b : Value) (h_b : Sl A w v_b b.list_) {r : Int} (hm : know_byWord a_ b = some r) : Ret prog 40 #[.agg #[.string a_.word, v_a_], .agg #[.string b.word, v_b]] w fun v w' => v = Ii r ∧ Kp Dw w w' := by
 unfold know_byWord at hm
 refine enter func40 rfl ntmps40 rfl ?_
 have hA0 := hA
 obtain ⟨hB, hK, hH⟩ := St (Dw := Dw) hA
 refine Sr ?_
 refine V_box rfl rfl ?_
 intro b5 w6 h7
 have hk9 := h7.kp (Dw := Dw)
 have h8 : El (α := know_Term) A w6 b5 0 a_ := h7.el hA ⟨[.string a_.word], _, rfl, rfl, ⟨_, rfl, h_a_⟩⟩
 have ht10 := Kp.tr hk9 hA hB; replace h_b := Sl.tr h_b ht10; replace hK := Tt hK ht10; replace hB := Bx hB ht10; replace hA := ht10.new
 refine V_box rfl rfl ?_
 intro b11 w12 h13
 have hk15 := h13.kp (Dw := Dw)
 have h14 : El (α := know_Term) A w12 b11 0 b := h13.el hA ⟨[.string b.word], _, rfl, rfl, ⟨_, rfl, h_b⟩⟩
 have ht16 := Kp.tr hk15 hA hB; replace h8 := El.tr h8 ht16; replace hK := Tt hK ht16; replace hB := Bx hB ht16; replace hA := ht16.new
 refine As (To ?_)
 refine Sr ?_
 have h17 := El_know_Term_0 h8
 refine Fa underlying90 rfl sizeOf9 (Ld (El.str h17) isAgg9 ?_)
 have h18 := El_know_Term_0 h14
 refine Fa underlying90 rfl sizeOf9 (Ld (El.str h18) isAgg9 ?_)
 obtain ⟨x19, hx19, hm⟩ := Bs hm
 refine Vc call72 (strings_Compare_c (Dw := Dw) w12 hA a_.word b.word hx19) ?_
 rintro _ w20 ⟨rfl, hk21⟩
 have ht22 := Kp.tr hk21 hA hB; replace hK := Tt hK ht22
 refine As (To ?_)
 obtain rfl := Oi hm
 refine Rt (Res.one results40 rfl) ?_
 exact ⟨rfl, hK.kp⟩
theorem know_merged_know_Posting_c (w : World) {A : Nat → Prop} {B : Nat} (hB : B ≤ w.heap.size) (hA : ∀ b, w.heap.size ≤ b → A b) (a_ : (List know_Posting)) (v_a_ : Value) (h_a_ : Sl A w v_a_ a_) (b : (List know_Posting)) (v_b : Value) (h_b : Sl A w v_b b) (compare : know_Posting → know_Posting → Option Int) (compare_f : FuncId) (compare_a compare_c : Array Value) (compare_call : ∀ (args : Array Value) (w : World), (callFunc compare_f args).run prog w = .ok (.enter compare_f args) w) (compare_spec : ∀ (w1 : World) (A1 : Nat → Prop), Tr Dw B A w A1 w1 → (∀ b, w1.heap.size ≤ b → A1 b) → ∀ (y0 : know_Posting) (v1 : Value) (h2 : Sl A1 w1 v1 y0.title) (v3 : Value) (h4 : Sl A1 w1 v3 y0.body) (y1 : know_Posting) (v5 : Value) (h6 : Sl A1 w1 v5 y1.title) (v7 : Value) (h8 : Sl A1 w1 v7 y1.body) (r : Int), compare y0 y1 = some r → Ret prog compare_f (compare_a ++ #[.agg #[Ii y0.id_, v1, v3], .agg #[Ii y1.id_, v5, v7]] ++ compare_c) w1 fun v w' => v = Ii r ∧ Kp Dw w1 w') {L : List Ob} (hH : Hp B A w (L)) {r : (List know_Posting)} (hm : know_merged_know_Posting a_ b compare = some r) : Ret prog 51 #[v_a_, v_b, .func (.func compare_f) compare_a compare_c] w fun v w' => ∃ s0, ∃ A1 : Nat → Prop, v = s0 ∧ Hp B A1 w' (o_98 s0 r :: L) ∧ Tr Dw B A w A1 w' := by
 unfold know_merged_know_Posting at hm
 refine enter func51 rfl ntmps51 rfl ?_
 have hK : Tr Dw B A w A w := Tr.refl (Dw := Dw) hA
 refine Sr (As (To ?_))
 refine Sr (As (To ?_))
 refine C_seq ?_
 replace hH : Hp B A w (o_98 (.slice none 0 0) ([] : (List know_Posting)) :: L) := Hp.addNil (α := know_Posting) (e := 98) hH
 obtain ⟨o5, ho5, hm⟩ := Bs hm
 refine C_cutG (ι := (((List know_Posting) × (List know_Posting) × (List know_Posting)) × Value × Value × Value × (Nat → Prop))) (fun ⟨s6, v12, v14, v16, A18⟩ => [(0, v12), (1, v14), (7, v16)]) (fun ⟨s6, v12, v14, v16, A18⟩ => fun w' => o5 = .fin s6 ∧ Sl A18 w' v12 s6.1 ∧ Sl A18 w' v14 s6.2.1 ∧ Hp B A18 w' (o_98 v16 s6.2.2 :: L) ∧ Tr Dw B A w A18 w') ?_ ?_
 ·refine C_block ?_
  refine C_while ho5 (fun s20 a w' => ∃ i : (Value × Value × Value × (Nat → Prop)), Has ⟨52, [], none⟩ a ([(0, i.1), (1, i.2.1), (2, .func (.func compare_f) compare_a compare_c), (7, i.2.2.1)]) ∧ Sl i.2.2.2 w' i.1 s20.1 ∧ Sl i.2.2.2 w' i.2.1 s20.2.1 ∧ Hp B i.2.2.2 w' (o_98 i.2.2.1 s20.2.2 :: L) ∧ Tr Dw B A w i.2.2.2 w') (fun a ha => ⟨(v_a_, v_b, .slice none 0 0, A), ha.sb, ⟨h_a_, h_b, hH, Tr.refl (Dw := Dw) hA⟩⟩) ?_
  rintro K s20 a w21 ⟨⟨v22, v24, v26, A28⟩, ha151, h23, h25, hH29, hr7⟩ K36
  refine C_of ?_ ha151
  replace hK := Tt hK hr7; replace hB := Bx hB hr7; replace hA := hr7.new
  replace hH : Hp _ _ _ (o_98 v26 s20.2.2 :: L) := hH29
  obtain ⟨x30, h31, h32⟩ := K36
  refine C_seq (Sr (Mm (Vy (Y_lenSl h23 rfl underlying88 rfl) (Vy (Y_gtr rfl rfl) (Mm ?_)))))
  refine V_cut 4 (fun _ : Unit => [(0, v22), (1, v24), (2, .func (.func compare_f) compare_a compare_c), (7, v26), (16, .bool ((decide ((0 : Int) < (s20.1.length : Int))) && (decide ((0 : Int) < (s20.2.1.length : Int)))))]) (fun _ w' => w21 = w') ?_ ?_
  ·simp only [List.take, List.drop]
   rcases Be (decide ((0 : Int) < (s20.1.length : Int))) with hc37 | hc37
   ·refine Gf hc37 (Mm (Gf hc37 (Vy (Y_lenSl h25 rfl underlying88 rfl) (Gf hc37 (Vy (Y_gtr rfl rfl) (Vy (Y_pick_te rfl hc37 rfl) ?_))))))
    exact V_end fun a ha => ⟨(), ha.sub ⟨rfl, rfl, rfl, rfl, (by rw [hc37]; rfl), trivial⟩, rfl⟩
   refine Gm hc37 (Gm hc37 (Gm hc37 (Vy (Y_pick_fe rfl hc37 rfl) ?_)))
   exact V_end fun a ha => ⟨(), ha.sub ⟨rfl, rfl, rfl, rfl, (by rw [hc37]; rfl), trivial⟩, rfl⟩
  simp only [List.take, List.drop]
  rintro _ _ rfl
  refine To ?_
  refine Cc (fun hc39 => ?_) fun hc39 => ?_
  ·rw [if_pos hc39] at h31
   refine Sk ?_
   obtain ⟨s41, ho40, h31⟩ := Bs h31
   refine C_cutG (ι := (Value × Value × Value × (Nat → Prop))) (fun ⟨v43, v45, v47, A52⟩ => [(0, v43), (1, v45), (2, .func (.func compare_f) compare_a compare_c), (7, v47)]) (fun ⟨v43, v45, v47, A52⟩ => fun w' => Sl A52 w' v43 s41.1 ∧ Sl A52 w' v45 s41.2.1 ∧ Hp B A52 w' (o_98 v47 s41.2.2 :: L) ∧ Tr Dw B A28 w21 A52 w') ?_ ?_
   ·have hr42 : Tr Dw B A28 w21 A28 w21 := Tr.refl (Dw := Dw) hA
    refine C_block (C_seq ?_)
    refine C_region_q (Dw := Dw) Tryz_mixed (by kernel_rfl) ?_
    refine Qm (Qm ?_)
    obtain ⟨x54, hx54, ho40⟩ := Bs ho40
    refine VQ_indexAddr h23 hx54 underlying88 sizeOf98 rfl rfl rfl ?_
    intro b55 o56 h57
    obtain ⟨v58, v60, h62, h59, h61⟩ := El_know_Posting h57
    refine Qv (fun w' hw' => Y_loadA (At.kp h62 hw' h57.2.1) isAgg98 sizeOf98 rfl) (Qm ?_)
    obtain ⟨x63, hx63, ho40⟩ := Bs ho40
    refine VQ_indexAddr h25 hx63 underlying88 sizeOf98 rfl rfl rfl ?_
    intro b64 o65 h66
    obtain ⟨v67, v69, h71, h68, h70⟩ := El_know_Posting h66
    refine Qv (fun w' hw' => Y_loadA (At.kp h71 hw' h66.2.1) isAgg98 sizeOf98 rfl) ?_
    obtain ⟨x72, hx72, ho40⟩ := Bs ho40
    refine VQ_call (Ii x72) compare_call rfl rfl rfl rfl (fun w' hw' => (compare_spec w' _ (Tr.trans hK (Kp.tr (Dw := Dw) hw' hA hB)) (fun b hb => hA b (Nat.le_trans hw'.size hb)) x54 v58 (Sl.kp h59 hw') v60 (Sl.kp h61 hw') x63 v67 (Sl.kp h68 hw') v69 (Sl.kp h70 hw') _ hx72).mono fun _ _ h => ⟨h.1, Kp.trans (Dw := Dw) hw' h.2⟩) ?_
    refine Qa ?_
    refine VQ_to (fun _ _ => rfl) (fun w73 hk74 => ?_)
    have ht75 := Kp.tr hk74 hA hB; replace hH := Hp.kp hH hk74; replace h23 := Sl.tr h23 ht75; replace h25 := Sl.tr h25 ht75; replace hr42 := Tt hr42 ht75; replace hB := Bx hB ht75; replace hA := ht75.new
    refine C_seq (Sr (Mm (Vy (Y_lss rfl rfl) (To ?_))))
    refine Cc (fun hc76 => ?_) fun hc76 => ?_
    ·rw [if_pos hc76] at ho40
     refine Sr (Mm (Mm ?_))
     refine V_indexAddr h23 hx54 underlying88 sizeOf98 rfl rfl rfl ?_
     intro b77 o78 h79
     obtain ⟨v80, v82, h84, h81, h83⟩ := El_know_Posting h79
     refine Vy (Y_loadA h84 isAgg98 sizeOf98 rfl) ?_
     refine V_buildSlice (Dw := Dw) (cells := #[Ii x54.id_, v80, v82]) (l := ([x54] : List know_Posting)) (len := 1) underlying88 sizeOf98 zeroValue98 rfl (by obtain ⟨a89, c90, e91, _⟩ := Sl.form h81; subst e91; obtain ⟨a92, c93, e94, _⟩ := Sl.form h83; subst e94; kernel_rfl) (show (1 * 3 : Nat) ≠ 0 by decide) (show (1 * 3 : Nat) ≤ 2 ^ 24 by decide) hA ⟨[Ii x54.id_, v80, v82], _, rfl, ⟨[Ii x54.id_], _, rfl, rfl, ⟨[v80], _, rfl, ⟨_, rfl, h81⟩, ⟨_, rfl, h83⟩⟩⟩, rfl⟩ rfl rfl ?_
     intro v85 w86 hk88 h87
     have ht95 := Kp.tr hk88 hA hB; replace hH := Hp.kp hH hk88; replace h23 := Sl.tr h23 ht95; replace h25 := Sl.tr h25 ht95; replace hr42 := Tt hr42 ht95; replace hB := Bx hB ht95; replace hA := ht95.new
     obtain ⟨x96, hx96, ho40⟩ := Bs ho40
     refine V_appendH (Dw := Dw) (e := 98) (v := v26) (l := s20.2.2) (ti := t98) (bytes := 56) (lim := 2513169434916) hH (i := 0) rfl h87 hx96 underlying88 Tryz_info98 rfl rfl rfl rfl (by decide) (by decide) (by decide) hB hA rfl rfl rfl ?_
     intro v97 w98 A99 hH100 ht101
     replace h23 := Sl.tr h23 ht101; replace h25 := Sl.tr h25 ht101; replace hr42 := Tt hr42 ht101
     replace hH : Hp _ _ _ (o_98 v97 x96 :: L) := hH100
     refine As (To ?_)
     refine Sr (Mm ?_)
     obtain ⟨x102, hx102, ho40⟩ := Bs ho40
     obtain ⟨v103, h104, h104y⟩ := sliceL_val hx102 h23
     refine Vy (Y_sliceLL h104y underlying88 sizeOf98 rfl rfl) (As (To ?_))
     obtain rfl := Oi ho40
     refine C_exit (fun a ha105 => ?_)
     exact ⟨(v103, v24, v97, A99), ha105.sb, ⟨h104, h25, hH, hr42⟩⟩
    rw [if_neg (nt hc76)] at ho40
    refine Sk ?_
    refine C_seq (Sr (Mm (Vy (Y_eql rfl rfl) (To ?_))))
    obtain ⟨s107, ho106, ho40⟩ := Bs ho40
    refine C_cutG (ι := Value) (fun (v109 : Value) => [(0, v109), (1, v24), (2, .func (.func compare_f) compare_a compare_c), (7, v26)]) (fun (v109 : Value) => fun w' => Sl A28 w' v109 s107 ∧ w73 = w') ?_ ?_
    ·refine Cc (fun hc114 => ?_) fun hc114 => ?_
     ·rw [if_pos hc114] at ho106
      refine C_region (Mm ?_)
      obtain ⟨x115, hx115, ho106⟩ := Bs ho106
      obtain ⟨v116, h117, h117y⟩ := sliceL_val hx115 h23
      refine Vy (Y_sliceLL h117y underlying88 sizeOf98 rfl rfl) (As ?_)
      obtain rfl := Oi ho106
      refine V_end (fun a ha118 => ?_)
      exact ⟨v116, ha118.sb, ⟨h117, rfl⟩⟩
     rw [if_neg (nt hc114)] at ho106
     obtain rfl := Oi ho106
     refine C_skip (fun a ha119 => ?_)
     exact ⟨v22, ha119.sb, ⟨h23, rfl⟩⟩
    rintro v109 _ ⟨h110, rfl⟩ a ha113
    refine C_at (n := ⟨52, [], none⟩) (fun _ _ => rfl) ?_ ha113
    refine Sr (Mm (Mm ?_))
    refine V_indexAddr h25 hx63 underlying88 sizeOf98 rfl rfl rfl ?_
    intro b120 o121 h122
    obtain ⟨v123, v125, h127, h124, h126⟩ := El_know_Posting h122
    refine Vy (Y_loadA h127 isAgg98 sizeOf98 rfl) ?_
    refine V_buildSlice (Dw := Dw) (cells := #[Ii x63.id_, v123, v125]) (l := ([x63] : List know_Posting)) (len := 1) underlying88 sizeOf98 zeroValue98 rfl (by obtain ⟨a132, c133, e134, _⟩ := Sl.form h124; subst e134; obtain ⟨a135, c136, e137, _⟩ := Sl.form h126; subst e137; kernel_rfl) (show (1 * 3 : Nat) ≠ 0 by decide) (show (1 * 3 : Nat) ≤ 2 ^ 24 by decide) hA ⟨[Ii x63.id_, v123, v125], _, rfl, ⟨[Ii x63.id_], _, rfl, rfl, ⟨[v123], _, rfl, ⟨_, rfl, h124⟩, ⟨_, rfl, h126⟩⟩⟩, rfl⟩ rfl rfl ?_
    intro v128 w129 hk131 h130
    have ht138 := Kp.tr hk131 hA hB; replace hH := Hp.kp hH hk131; replace h25 := Sl.tr h25 ht138; replace h110 := Sl.tr h110 ht138; replace hr42 := Tt hr42 ht138; replace hB := Bx hB ht138; replace hA := ht138.new
    obtain ⟨x139, hx139, ho40⟩ := Bs ho40
    refine V_appendH (Dw := Dw) (e := 98) (v := v26) (l := s20.2.2) (ti := t98) (bytes := 56) (lim := 2513169434916) hH (i := 0) rfl h130 hx139 underlying88 Tryz_info98 rfl rfl rfl rfl (by decide) (by decide) (by decide) hB hA rfl rfl rfl ?_
    intro v140 w141 A142 hH143 ht144
    replace h25 := Sl.tr h25 ht144; replace h110 := Sl.tr h110 ht144; replace hr42 := Tt hr42 ht144
    replace hH : Hp _ _ _ (o_98 v140 x139 :: L) := hH143
    refine As (To ?_)
    refine C_region (Mm ?_)
    obtain ⟨x145, hx145, ho40⟩ := Bs ho40
    obtain ⟨v146, h147, h147y⟩ := sliceL_val hx145 h25
    refine Vy (Y_sliceLL h147y underlying88 sizeOf98 rfl rfl) (As ?_)
    obtain rfl := Oi ho40
    refine V_end (fun a ha148 => ?_)
    exact ⟨(v109, v146, v140, A142), ha148.sb, ⟨h110, h147, hH, hr42⟩⟩
   rintro ⟨v43, v45, v47, A52⟩ w49 ⟨h44, h46, hH53, hk50⟩ a ha51
   replace hr7 := Tr.trans hr7 hk50; replace hA := hk50.new
   replace hH : Hp _ _ _ (o_98 v47 s41.2.2 :: L) := hH53
   obtain rfl := Oi h31
   exact ⟨(s41.1, s41.2.1, s41.2.2), h32, ⟨(v43, v45, v47, A52), ha51.sb, ⟨h44, h46, hH, hr7⟩⟩⟩
  rw [if_neg (nt hc39)] at h31
  obtain rfl := Oi h31
  refine C_exit (fun a ha150 => ?_)
  exact ⟨((s20.1, s20.2.1, s20.2.2), v22, v24, v26, A28), ha150.sb, ⟨h32.symm, h23, h25, hH, hr7⟩⟩
 rintro ⟨s6, v12, v14, v16, A18⟩ w9 ⟨rfl, h13, h15, hH19, hk10⟩ a ha11
 rw [Lp.andThen_fin] at hm
 replace hK := Tr.trans hK hk10; replace hB := Nat.le_trans hB hk10.ex.size; replace hA := hk10.new
 replace hH : Hp _ _ _ (o_98 v16 s6.2.2 :: L) := hH19
 refine C_at (n := ⟨52, [], none⟩) (fun _ _ => rfl) ?_ ha11
 refine Sr (Mm (Mm ?_))
 obtain ⟨x152, hx152, hm⟩ := Bs hm
 refine V_appendH (Dw := Dw) (e := 98) (v := v16) (l := s6.2.2) (ti := t98) (bytes := 56) (lim := 2513169434916) hH (i := 0) rfl h13 hx152 underlying88 Tryz_info98 rfl rfl rfl rfl (by decide) (by decide) (by decide) hB hA rfl rfl rfl ?_
 intro v153 w154 A155 hH156 ht157
 replace h15 := Sl.tr h15 ht157; replace hK := Tt hK ht157; replace hB := Bx hB ht157; replace hA := ht157.new
 replace hH : Hp _ _ _ (o_98 v153 x152 :: L) := hH156
 refine Mm ?_
 obtain ⟨x158, hx158, hm⟩ := Bs hm
 refine V_appendH (Dw := Dw) (e := 98) (v := v153) (l := x152) (ti := t98) (bytes := 56) (lim := 2513169434916) hH (i := 0) rfl h15 hx158 underlying88 Tryz_info98 rfl rfl rfl rfl (by decide) (by decide) (by decide) hB hA rfl rfl rfl ?_
 intro v159 w160 A161 hH162 ht163
 replace hK := Tt hK ht163
 replace hH : Hp _ _ _ (o_98 v159 x158 :: L) := hH162
 refine As (To ?_)
 obtain rfl := Oi hm
 refine Rt (Res.one results51 rfl) ?_
 exact ⟨v159, A161, rfl, hH, hK⟩
theorem cmp_isNaN_int_c (w : World) (x : Int) : Ret prog 71 #[Ii x] w fun v w' => v = .bool (cmp_isNaN_int x) ∧ w = w' := by
 generalize hm : cmp_isNaN_int x = r
 unfold cmp_isNaN_int at hm
 refine enter func71 rfl ntmps71 rfl ?_
 refine Sr (As (To ?_))
 refine Sr (Mm (Mm (Vy (Y_neq rfl rfl) (As (To ?_)))))
 obtain rfl := hm
 refine Rt (Res.one results71 rfl) ?_
 exact ⟨rfl, rfl⟩
theorem cmp_Compare_int_c (w : World) (x : Int) (y : Int) : Ret prog 39 #[Ii x, Ii y] w fun v w' => v = Ii (cmp_Compare_int x y) ∧ w = w' := by
 generalize hm : cmp_Compare_int x y = r
 unfold cmp_Compare_int at hm
 refine enter func39 rfl ntmps39 rfl ?_
 refine Sr (As (To ?_))
 refine Sr (Mm ?_)
 refine Vc call71 (cmp_isNaN_int_c w x) ?_
 rintro _ _ ⟨rfl, rfl⟩
 refine As (To ?_)
 refine Sr (Mm ?_)
 refine Vc call71 (cmp_isNaN_int_c w y) ?_
 rintro _ _ ⟨rfl, rfl⟩
 refine As (To ?_)
 refine C_seq (Sr (Mm (To ?_)))
 refine Cc (fun hc1 => ?_) fun hc1 => ?_
 ·rw [if_pos hc1] at hm
  refine C_seq (Sr (Mm (To ?_)))
  refine Cc (fun hc2 => ?_) fun hc2 => ?_
  ·rw [if_pos hc2] at hm
   refine Sr (As (To ?_))
   obtain rfl := hm
   refine Rt (Res.one results39 rfl) ?_
   exact ⟨rfl, rfl⟩
  rw [if_neg (nt hc2)] at hm
  refine Sk ?_
  refine Sr (As (To ?_))
  obtain rfl := hm
  refine Rt (Res.one results39 rfl) ?_
  exact ⟨rfl, rfl⟩
 rw [if_neg (nt hc1)] at hm
 refine Sk ?_
 refine C_seq (Sr (Mm (To ?_)))
 refine Cc (fun hc3 => ?_) fun hc3 => ?_
 ·rw [if_pos hc3] at hm
  refine Sr (As (To ?_))
  obtain rfl := hm
  refine Rt (Res.one results39 rfl) ?_
  exact ⟨rfl, rfl⟩
 rw [if_neg (nt hc3)] at hm
 refine Sk ?_
 refine C_seq (Sr (Mm (Mm (Vy (Y_lss rfl rfl) (To ?_)))))
 refine Cc (fun hc4 => ?_) fun hc4 => ?_
 ·rw [if_pos hc4] at hm
  refine Sr (As (To ?_))
  obtain rfl := hm
  refine Rt (Res.one results39 rfl) ?_
  exact ⟨rfl, rfl⟩
 rw [if_neg (nt hc4)] at hm
 refine Sk ?_
 refine C_seq (Sr (Mm (Mm (Vy (Y_gtr rfl rfl) (To ?_)))))
 refine Cc (fun hc5 => ?_) fun hc5 => ?_
 ·rw [if_pos hc5] at hm
  refine Sr (As (To ?_))
  obtain rfl := hm
  refine Rt (Res.one results39 rfl) ?_
  exact ⟨rfl, rfl⟩
 rw [if_neg (nt hc5)] at hm
 refine Sk ?_
 refine Sr (As (To ?_))
 obtain rfl := hm
 refine Rt (Res.one results39 rfl) ?_
 exact ⟨rfl, rfl⟩
theorem know_byId_c (w : World) {A : Nat → Prop} (hA : ∀ b, w.heap.size ≤ b → A b) (a_ : know_Posting) (v_a_0 : Value) (h_a_0 : Sl A w v_a_0 a_.title) (v_a_1 : Value) (h_a_1 : Sl A w v_a_1 a_.body) (b : know_Posting) (v_b0 : Value) (h_b0 : Sl A w v_b0 b.title) (v_b1 : Value) (h_b1 : Sl A w v_b1 b.body) {r : Int} (hm : know_byId a_ b = some r) : Ret prog 52 #[.agg #[Ii a_.id_, v_a_0, v_a_1], .agg #[Ii b.id_, v_b0, v_b1]] w fun v w' => v = Ii r ∧ Kp Dw w w' := by
 unfold know_byId at hm
 refine enter func52 rfl ntmps52 rfl ?_
 have hA0 := hA
 obtain ⟨hB, hK, hH⟩ := St (Dw := Dw) hA
 refine Sr ?_
 refine V_box rfl rfl ?_
 intro b9 w10 h11
 have hk13 := h11.kp (Dw := Dw)
 have h12 : El (α := know_Posting) A w10 b9 0 a_ := h11.el hA ⟨[Ii a_.id_], _, rfl, rfl, ⟨[v_a_0], _, rfl, ⟨_, rfl, h_a_0⟩, ⟨_, rfl, h_a_1⟩⟩⟩
 have ht14 := Kp.tr hk13 hA hB; replace h_b0 := Sl.tr h_b0 ht14; replace h_b1 := Sl.tr h_b1 ht14; replace hK := Tt hK ht14; replace hB := Bx hB ht14; replace hA := ht14.new
 refine V_box rfl rfl ?_
 intro b15 w17 h18
 have hk20 := h18.kp (Dw := Dw)
 have h19 : El (α := know_Posting) A w17 b15 0 b := h18.el hA ⟨[Ii b.id_], _, rfl, rfl, ⟨[v_b0], _, rfl, ⟨_, rfl, h_b0⟩, ⟨_, rfl, h_b1⟩⟩⟩
 have ht21 := Kp.tr hk20 hA hB; replace h12 := El.tr h12 ht21; replace hK := Tt hK ht21
 refine As (To ?_)
 refine Sr ?_
 have h22 := El_know_Posting_0 h12
 refine Fa underlying98 rfl sizeOf3 (Li h22 isAgg3 ?_)
 have h23 := El_know_Posting_0 h19
 refine Fa underlying98 rfl sizeOf3 (Li h23 isAgg3 ?_)
 refine Vc call39 (cmp_Compare_int_c w17 a_.id_ b.id_) ?_
 rintro _ _ ⟨rfl, rfl⟩
 refine As (To ?_)
 obtain rfl := Oi hm
 refine Rt (Res.one results52 rfl) ?_
 exact ⟨rfl, hK.kp⟩
theorem cmp_Less_int_c (w : World) (x : Int) (y : Int) : Ret prog 84 #[Ii x, Ii y] w fun v w' => v = .bool (cmp_Less_int x y) ∧ w = w' := by
 generalize hm : cmp_Less_int x y = r
 unfold cmp_Less_int at hm
 refine enter func84 rfl ntmps84 rfl ?_
 refine Sr (As (To ?_))
 refine Sr (Mm ?_)
 refine Vc call71 (cmp_isNaN_int_c w x) ?_
 rintro _ _ ⟨rfl, rfl⟩
 refine Mm ?_
 refine V_cut 4 (fun _ : Unit => [(0, Ii x), (1, Ii y), (11, .bool ((cmp_isNaN_int x) && (!(cmp_isNaN_int y))))]) (fun _ w' => w = w') ?_ ?_
 ·simp only [List.take, List.drop]
  rcases Be ((cmp_isNaN_int x)) with hc1 | hc1
  ·refine Gf hc1 (Mm (Gf hc1 ?_))
   refine Vc call71 (cmp_isNaN_int_c w y) ?_
   rintro _ _ ⟨rfl, rfl⟩
   refine Gf hc1 (Vy (Y_not rfl) (Vy (Y_pick_te rfl hc1 rfl) ?_))
   exact V_end fun a ha => ⟨(), ha.sub ⟨rfl, rfl, (by rw [hc1]; rfl), trivial⟩, rfl⟩
  refine Gm hc1 (Gm hc1 (Gm hc1 (Vy (Y_pick_fe rfl hc1 rfl) ?_)))
  exact V_end fun a ha => ⟨(), ha.sub ⟨rfl, rfl, (by rw [hc1]; rfl), trivial⟩, rfl⟩
 simp only [List.take, List.drop]
 rintro _ _ rfl
 refine Mm ?_
 refine V_cut 4 (fun _ : Unit => [(16, .bool (((cmp_isNaN_int x) && (!(cmp_isNaN_int y))) || (decide (x < y))))]) (fun _ w' => w = w') ?_ ?_
 ·simp only [List.take, List.drop]
  rcases Be (((cmp_isNaN_int x) && (!(cmp_isNaN_int y)))) with hc3 | hc3
  ·refine Gm hc3 (Gm hc3 (Gm hc3 (Vy (Y_pick_te rfl hc3 rfl) ?_)))
   exact V_end fun a ha => ⟨(), ha.sub ⟨(by rw [hc3]; rfl), trivial⟩, rfl⟩
  refine Gf hc3 (Mm (Gf hc3 (Mm (Gf hc3 (Vy (Y_lss rfl rfl) (Vy (Y_pick_fe rfl hc3 rfl) ?_))))))
  exact V_end fun a ha => ⟨(), ha.sub ⟨(by rw [hc3]; rfl), trivial⟩, rfl⟩
 simp only [List.take, List.drop]
 rintro _ _ rfl
 refine As (To ?_)
 obtain rfl := hm
 refine Rt (Res.one results84 rfl) ?_
 exact ⟨rfl, rfl⟩
theorem slices_isNaN_int_c (w : World) (x : Int) : Ret prog 85 #[Ii x] w fun v w' => v = .bool (slices_isNaN_int x) ∧ w = w' := by
 generalize hm : slices_isNaN_int x = r
 unfold slices_isNaN_int at hm
 refine enter func85 rfl ntmps85 rfl ?_
 refine Sr (As (To ?_))
 refine Sr (Mm (Mm (Vy (Y_neq rfl rfl) (As (To ?_)))))
 obtain rfl := hm
 refine Rt (Res.one results85 rfl) ?_
 exact ⟨rfl, rfl⟩
theorem slices_BinarySearch_Lint_int_c (w : World) {A : Nat → Prop} (x : (List Int)) (v_x : Value) (h_x : Sl A w v_x x) (target : Int) {r : (Int × Bool)} (hm : slices_BinarySearch_Lint_int x target = some r) : Ret prog 53 #[v_x, Ii target] w fun v w' => v = .tuple #[Ii r.1, .bool r.2] ∧ w = w' := by
 unfold slices_BinarySearch_Lint_int at hm
 refine enter func53 rfl ntmps53 rfl ?_
 refine Sr (As (As (To ?_)))
 refine Sr (Mm (Vy (Y_lenSl h_x rfl underlying23 rfl) (As (To ?_))))
 refine Sr (Mm (As (As (To ?_))))
 refine C_seq ?_
 obtain ⟨o3, ho3, hm⟩ := Bs hm
 refine C_cutG (ι := (Int × Int)) (fun (s4 : (Int × Int)) => [(0, v_x), (1, Ii target), (6, Ii (x.length : Int)), (7, Ii s4.1)]) (fun (s4 : (Int × Int)) => fun w' => o3 = .fin s4 ∧ w = w') ?_ ?_
 ·refine C_block ?_
  refine C_while ho3 (fun s10 a w' => ∃ i : Unit, Has ⟨54, [], none⟩ a ([(0, v_x), (1, Ii target), (6, Ii (x.length : Int)), (7, Ii s10.1), (8, Ii s10.2)]) ∧ w = w') (fun a ha => ⟨(), ha.sb, rfl⟩) ?_
  rintro K s10 a _ ⟨_, ha43, rfl⟩ K18
  refine C_of ?_ ha43
  obtain ⟨x12, h13, h14⟩ := K18
  refine C_seq (Sr (Mm (Mm (Vy (Y_lss rfl rfl) (To ?_)))))
  refine Cc (fun hc19 => ?_) fun hc19 => ?_
  ·rw [if_pos hc19] at h13
   refine Sk ?_
   obtain ⟨s21, ho20, h13⟩ := Bs h13
   refine C_cutG (ι := Unit) (fun (_ : Unit) => [(0, v_x), (1, Ii target), (6, Ii (x.length : Int)), (7, Ii s21.1), (8, Ii s21.2)]) (fun (_ : Unit) => fun w' => w = w') ?_ ?_
   ·refine C_block (Sr (Mm (Mm (Vy (Y_addI rfl rfl) (Vy (Y_convI underlying3 underlying127 rfl) ?_)))))
    obtain ⟨x26, hx26, ho20⟩ := Bs ho20
    refine Vy (Y_shr hx26 rfl rfl) (Vy (Y_convI underlying127 underlying3 rfl) (As (To ?_)))
    refine Sr (Mm (Mm ?_))
    obtain ⟨x27, hx27, ho20⟩ := Bs ho20
    refine V_indexAddr h_x hx27 underlying23 sizeOf3 rfl rfl rfl ?_
    intro b28 o29 h30
    refine Li h30 isAgg3 (Mm ?_)
    refine Vc call84 (cmp_Less_int_c w x27 target) ?_
    rintro _ _ ⟨rfl, rfl⟩
    refine To ?_
    obtain ⟨s32, ho31, ho20⟩ := Bs ho20
    refine C_cutG (ι := Unit) (fun (_ : Unit) => [(0, v_x), (1, Ii target), (6, Ii (x.length : Int)), (7, Ii s32.1), (8, Ii s32.2)]) (fun (_ : Unit) => fun w' => w = w') ?_ ?_
    ·refine Cc (fun hc37 => ?_) fun hc37 => ?_
     ·rw [if_pos hc37] at ho31
      refine C_region (Mm (Vy (Y_addI rfl rfl) (As ?_)))
      obtain rfl := Oi ho31
      refine V_end (fun a ha38 => ?_)
      exact ⟨(), ha38.sb, rfl⟩
     rw [if_neg (nt hc37)] at ho31
     refine C_region (Mm (As ?_))
     obtain rfl := Oi ho31
     refine V_end (fun a ha39 => ?_)
     exact ⟨(), ha39.sb, rfl⟩
    rintro _ _ rfl a ha36
    obtain rfl := Oi ho20
    exact ⟨(), ha36.sb, rfl⟩
   rintro _ _ rfl a ha25
   obtain rfl := Oi h13
   exact ⟨(s21.1, s21.2), h14, ⟨(), ha25.sb, rfl⟩⟩
  rw [if_neg (nt hc19)] at h13
  obtain rfl := Oi h13
  refine C_exit (fun a ha42 => ?_)
  exact ⟨(s10.1, s10.2), ha42.sb, ⟨h14.symm, rfl⟩⟩
 rintro s4 _ ⟨rfl, rfl⟩ a ha9
 rw [Lp.andThen_fin] at hm
 refine C_at (n := ⟨54, [], none⟩) (fun _ _ => rfl) ?_ ha9
 refine Sr (Mm (Mm (Mm (Vy (Y_lss rfl rfl) (Mm ?_)))))
 obtain ⟨s45, hs45, hm⟩ := Bs hm
 refine V_cut 18 (fun _ : Unit => [(31, Ii s4.1), (53, .bool s45)]) (fun _ w' => w = w') ?_ ?_
 ·simp only [List.take, List.drop]
  rcases Be (decide (s4.1 < (x.length : Int))) with hc44 | hc44
  ·rw [if_pos hc44] at hs45
   refine Gf hc44 (Mm (Gf hc44 (Mm (Gf hc44 ?_))))
   obtain ⟨x46, hx46, hs45⟩ := Bs hs45
   refine V_indexAddr h_x hx46 underlying23 sizeOf3 rfl rfl rfl ?_
   intro b47 o48 h49
   refine Gf hc44 (Li h49 isAgg3 (Gf hc44 (Mm (Gf hc44 (Vy (Y_eql rfl rfl) (Gf hc44 (Mm ?_)))))))
   obtain ⟨s51, hs51, hs45⟩ := Bs hs45
   refine V_cut 10 (fun _ : Unit => [(31, Ii s4.1), (35, .bool (decide (s4.1 < (x.length : Int)))), (52, .bool s51)]) (fun _ w' => w = w') ?_ ?_
   ·simp only [List.take, List.drop]
    rcases Be (x46 == target) with hc50 | hc50
    ·rw [if_pos hc50] at hs51
     refine Gm hc50 (Gm hc50 (Gm hc50 (Gm hc50 (Gm hc50 (Gm hc50 ?_)))))
     refine V_gu rfl rfl rfl rfl rfl ?_
     refine V_gu rfl rfl rfl rfl rfl ?_
     refine Gm hc50 (Gf hc44 (Vy (Y_pick_te rfl hc50 rfl) ?_))
     obtain rfl := Oi hs51
     exact V_end fun a ha => ⟨(), ha.sb, rfl⟩
    rw [if_neg (nt hc50)] at hs51
    refine Gf hc50 (Mm (Gf hc50 (Mm (Gf hc50 ?_))))
    refine V_indexAddr h_x hx46 underlying23 sizeOf3 rfl rfl rfl ?_
    intro b52 o53 h54
    refine Gf hc50 (Li h54 isAgg3 (Gf hc50 ?_))
    refine Vc call85 (slices_isNaN_int_c w x46) ?_
    rintro _ _ ⟨rfl, rfl⟩
    refine Gf hc50 (Mm ?_)
    refine V_cut 3 (fun _ : Unit => [(31, Ii s4.1), (35, .bool (decide (s4.1 < (x.length : Int)))), (42, .bool (x46 == target)), (51, .bool ((slices_isNaN_int x46) && (slices_isNaN_int target)))]) (fun _ w' => w = w') ?_ ?_
    ·simp only [List.take, List.drop]
     rcases Be ((slices_isNaN_int x46)) with hc55 | hc55
     ·refine Gf hc55 (Mm (Gf hc55 ?_))
      refine Vc call85 (slices_isNaN_int_c w target) ?_
      rintro _ _ ⟨rfl, rfl⟩
      refine Gf hc50 (Vy (Y_pick_te rfl hc55 rfl) ?_)
      exact V_end fun a ha => ⟨(), ha.sub ⟨rfl, rfl, rfl, (by rw [hc55]; rfl), trivial⟩, rfl⟩
     refine Gm hc55 (Gm hc55 (Gf hc50 (Vy (Y_pick_fe rfl hc55 rfl) ?_)))
     exact V_end fun a ha => ⟨(), ha.sub ⟨rfl, rfl, rfl, (by rw [hc55]; rfl), trivial⟩, rfl⟩
    simp only [List.take, List.drop]
    rintro _ _ rfl
    refine Gf hc44 (Vy (Y_pick_fe rfl hc50 rfl) ?_)
    obtain rfl := Oi hs51
    exact V_end fun a ha => ⟨(), ha.sb, rfl⟩
   simp only [List.take, List.drop]
   rintro _ _ rfl
   refine Vy (Y_pick_te rfl hc44 rfl) ?_
   obtain rfl := Oi hs45
   exact V_end fun a ha => ⟨(), ha.sb, rfl⟩
  rw [if_neg (nt hc44)] at hs45
  refine Gm hc44 (Gm hc44 (Gm hc44 (Gm hc44 (Gm hc44 (Gm hc44 (Gm hc44 ?_))))))
  refine V_gu rfl rfl rfl rfl rfl ?_
  refine V_gu rfl rfl rfl rfl rfl ?_
  refine V_gu rfl rfl rfl rfl rfl ?_
  refine V_gu rfl rfl rfl rfl rfl ?_
  refine V_gu rfl rfl rfl rfl rfl ?_
  refine V_gu rfl rfl rfl rfl rfl ?_
  refine V_gu rfl rfl rfl rfl rfl ?_
  refine V_gu rfl rfl rfl rfl rfl ?_
  refine V_gu rfl rfl rfl rfl rfl ?_
  refine Gm hc44 (Vy (Y_pick_fe rfl hc44 rfl) ?_)
  obtain rfl := Oi hs45
  exact V_end fun a ha => ⟨(), ha.sb, rfl⟩
 simp only [List.take, List.drop]
 rintro _ _ rfl
 refine As (As (To ?_))
 obtain rfl := Oi hm
 refine Rt (Res.two results53 rfl rfl) ?_
 exact ⟨rfl, rfl⟩
theorem slices_Clone_Lint_int_c (w : World) {A : Nat → Prop} (hA : ∀ b, w.heap.size ≤ b → A b) (s : (List Int)) (v_s : Value) (h_s : Sl A w v_s s) {r : (List Int)} (hm : slices_Clone_Lint_int s = some r) : Ret prog 55 #[v_s] w fun v w' => ∃ s0, v = s0 ∧ Ownd 3 w w' s0 r ∧ Kp Dw w w' := by
 unfold slices_Clone_Lint_int at hm
 refine enter func55 rfl ntmps55 rfl ?_
 have hA0 := hA
 obtain ⟨hB, hK, hH⟩ := St (Dw := Dw) hA
 rcases Sl.split h_s with ⟨rfl, rfl⟩ | ⟨a0, n0, c0, rfl⟩
 ·replace hm : some ([] : (List Int)) = some r := by simpa [appendL] using hm
  refine Sr (As (To ?_))
  refine C_seq (Sr (Mm (Vy (Y_eqlNilT rfl rfl underlying23) (To ?_))))
  refine Cc (fun hc => ?_) fun hc => ?_
  ·refine Sr (As (To ?_))
   obtain rfl := Oi hm
   replace hH : Hp w.heap.size A w (o_3 (.slice none 0 0) ([] : (List Int)) :: []) := Hp.addNil (α := Int) (e := 3) hH
   refine Rt (Res.one results55 rfl) ?_
   exact ⟨.slice none 0 0, rfl, (Hp.ownd hH (i := 0) rfl), hK.kp⟩
  exact absurd hc (by decide)
 refine Sr (As (To ?_))
 refine C_seq (Sr (Mm (Vy (Y_eqlNilF rfl rfl underlying23) (To ?_))))
 refine Cc (fun hc => ?_) fun hc => ?_
 ·exact absurd hc (by decide)
 refine Sk ?_
 refine Sr ?_
 refine V_buildOwn0H (Dw := Dw) (α := Int) hH underlying23 sizeOf3 hB hA rfl ?_
 intro v3 w4 A5 hH6 ht7
 replace h_s := Sl.tr h_s ht7; replace hK := Tt hK ht7; replace hB := Bx hB ht7; replace hA := ht7.new
 replace hH : Hp _ _ _ (o_3 v3 ([] : List Int) :: []) := hH6
 refine Mm ?_
 obtain ⟨x8, hx8, hm⟩ := Bs hm
 refine V_appendH (Dw := Dw) (e := 3) (v := v3) (l := ([] : List Int)) (ti := t3) (bytes := 8) (lim := 17592186044416) hH (i := 0) rfl h_s hx8 underlying23 Tryz_info3 rfl rfl rfl rfl (by decide) (by decide) (by decide) hB hA rfl rfl rfl ?_
 intro v9 w10 A11 hH12 ht13
 replace hK := Tt hK ht13
 replace hH : Hp _ _ _ (o_3 v9 x8 :: []) := hH12
 refine As (To ?_)
 obtain rfl := Oi hm
 refine Rt (Res.one results55 rfl) ?_
 exact ⟨v9, rfl, (Hp.ownd hH (i := 0) rfl), hK.kp⟩
theorem Tryz_ovl86 : prog.funcs[86]? = some f86 := by kernel_rfl
theorem Tryz_ovln86 : Extern.findNext f86 = none := by kernel_rfl
theorem Tryz_ovlf86 : Extern.find f86 = some (Extern.SlicesOverlaps.overlaps #[23, 23] #[4]) := by kernel_rfl
theorem Tryz_ovlb86 : (f86.name == "runtime.NumGoroutine") = false ∧ f86.body.isNone = true := by constructor <;> kernel_rfl
theorem slices_Insert_Lint_int_c (w : World) {A : Nat → Prop} {B : Nat} {L : List Ob} {i : Nat} {v v_vs : Value} {l vs r : List Int} (k : Int) (hH : Hp B A w (o_3 v_vs vs :: L)) (hi : L[i]? = some (o_3 v l)) (hB : B ≤ w.heap.size) (hA : ∀ b, w.heap.size ≤ b → A b) (hr : slices_Insert_Lint_int l k vs = some r) :
  Ret prog 54 #[v, Ii k, v_vs] w fun u w' => ∃ v' A1, u = v' ∧ Hp B A1 w' (L.set i (o_3 v' r)) ∧ Tr Dw B A w A1 w' := by
 unfold slices_Insert_Lint_int at hr
 split at hr
 case isFalse => cases hr
 rename_i hcond
 obtain ⟨hk0, hkl, hne, hlim⟩ := hcond
 obtain rfl := Oi hr
 obtain ⟨i0, rfl⟩ : ∃ i0 : Nat, k = (i0 : Int) := ⟨k.toNat, by omega⟩
 rw [Int.toNat_natCast]
 have hil : i0 ≤ l.length := by omega
 have hm0 : 0 < vs.length := List.length_pos_iff.2 hne
 have hmax : l.length + vs.length ≤ maxLen := Nat.le_trans hlim (by decide)
 have hbytes : (l.length + vs.length) * 8 ≤ 140737488355328 := Nat.le_trans (Nat.mul_le_mul_right _ hlim) (by decide)
 have e1 : w64 ((l.length : Int) + (vs.length : Int)) = ((l.length + vs.length : Nat) : Int) := by rw [w64_id (by omega) (by omega)]; omega
 have e2 : w64 (((l.length + vs.length : Nat) : Int) - (i0 : Int)) = ((l.length + vs.length - i0 : Nat) : Int) := by rw [w64_id (by omega) (by omega)]; omega
 have e3 : w64 ((i0 : Int) + (vs.length : Int)) = ((i0 + vs.length : Nat) : Int) := by rw [w64_id (by omega) (by omega)]; omega
 have hiL : i < L.length := (List.getElem?_eq_some_iff.1 hi).1
 have hi1 : (o_3 v_vs vs :: L)[i + 1]? = some (o_3 v l) := by simpa using hi
 obtain ⟨a, cap, rfl, hlc, hlm⟩ := Hp.formS hH hi1
 obtain ⟨b, capv, _, hvv, _⟩ := Hp.openS hH (i := 0) rfl hne hA
 subst hvv
 refine enter func54 rfl ntmps54 rfl ?_
 refine Sr (As (To ?_))
 refine Sr (Mm (Mm (Vy (Y_sliceLL (sz := 1) (lo := (i0 : Int)) (k := .i64) ⟨a, l.length, cap, i0, l.length, rfl, rfl, rfl, hil, Nat.le_refl _, hlc, rfl⟩ underlying23 sizeOf3 rfl rfl) (To ?_))))
 refine Sr (Mm (Vy (Y_lenS (a := some ⟨b, 0, none⟩) (len := vs.length) (cap := capv) rfl underlying23 rfl) (As (To ?_))))
 refine C_seq (Sr (Mm (Vy (Y_eql rfl rfl) (To ?_))))
 refine Cc (fun hc => ?_) fun _ => ?_
 ·have : ((vs.length : Int) == 0) = true := hc
  rw [beq_iff_eq] at this
  omega
 refine Sk ?_
 refine Sr (Mm (Vy (Y_lenS (a := a) (len := l.length) (cap := cap) rfl underlying23 rfl) (As (To ?_))))
 refine C_seq (Sr (Mm (Mm (Vy (Y_eql rfl rfl) (To ?_)))))
 refine Cc (fun hc => ?_) fun hc => ?_
 ·have hil2 : i0 = l.length := by
   have : ((i0 : Int) == (l.length : Int)) = true := hc
   rw [beq_iff_eq] at this
   omega
  obtain ⟨A1, ht1, h_vs, hH1⟩ := Hp.freeze (Dw := Dw) hH (i := 0) rfl hA
  replace hH1 : Hp B A1 w L := hH1
  refine Sr (Mm (Mm ?_))
  refine V_appendH (Dw := Dw) (e := 3) (l := l) (m := vs) (r := l ++ vs) (ti := t3) (bytes := 8) (lim := 17592186044416) hH1 hi h_vs (by unfold appendL; rw [if_pos hlim]) underlying23 Tryz_info3 rfl rfl rfl rfl (by decide) (by decide) (by decide) hB ht1.new rfl rfl rfl ?_
  intro v2 w2 A2 hH2 ht2
  refine As (To ?_)
  refine C_ret ?_
  try simp only [↓ib, ↓th]
  refine retQ rfl (Res.one results54 rfl) ⟨v2, A2, rfl, ?_, ht1.trans ht2⟩
  rw [hil2, List.take_length, List.drop_length, List.append_nil]
  exact hH2
 have hil2 : i0 < l.length := by
  have : ((i0 : Int) == (l.length : Int)) = false := hc
  rw [beq_eq_false_iff_ne] at this
  omega
 have hlne : l ≠ [] := fun h => by rw [h] at hil2; cases hil2
 refine Sk ?_
 obtain ⟨g, cap', cur, hv, hH1, h5, h6, h7, h8⟩ := Hp.openS hH hi1 hlne hA
 simp only [Value.slice.injEq, true_and] at hv
 obtain ⟨rfl, rfl⟩ := hv
 have hbg := Hp.rowsApart hH hi1 (j := 0) rfl (Nat.succ_ne_zero i)
 obtain ⟨curv, hgv, hcv, hrv, hlv⟩ := Hp.rowAt hH (j := 0) rfl
 have hls := h8.len
 rw [List.length_take, show (GoT.cells Int) = 1 from rfl] at hls
 have hlsv := hrv.len
 rw [show (GoT.cells Int) = 1 from rfl] at h7 h8 hlsv hcv hrv
 have hcurl : cur.toList.length = cap * 1 := by rw [Array.length_toList]; exact h7
 replace hH1 : Hp B A w (o_3 (.slice (some ⟨b, 0, none⟩) vs.length capv) vs :: L.set i (obO g (.cells cur 3 (0, 0)))) := hH1
 have hgx : ∀ (X : Ob), (o_3 (.slice (some ⟨b, 0, none⟩) vs.length capv) vs :: L.set i X)[i + 1]? = some X := fun X => by simp [hiL]
 have htail : ((cur.toList.drop (i0 * 1)).take (l.length * 1 - i0 * 1)).length = (l.length - i0) * 1 := by
  rw [List.length_take, List.length_drop, hcurl, Nat.sub_mul]
  have : l.length * 1 ≤ cap * 1 := Nat.mul_le_mul_right _ h5
  omega
 have hone : ∀ u ∈ (cur.toList.drop (i0 * 1)).take (l.length * 1 - i0 * 1), u.oneCell' = true := fun u hu => by
  refine h8.one u ?_
  rw [← List.drop_take] at hu
  exact List.mem_of_mem_drop hu
 have hi6 : i0 * 1 ≤ l.length * 1 := Nat.mul_le_mul_right _ hil
 have hc6 : l.length * 1 ≤ cap * 1 := Nat.mul_le_mul_right _ h5
 refine C_seq (Sr (Mm (Mm (Vy (Y_addI rfl rfl) ?_))))
 rw [e1]
 refine Mm (Vy (Y_cap (a := some ⟨g, 0, none⟩) (len := l.length) (cap := cap) rfl underlying23 rfl) (Vy (Y_gtr rfl rfl) (To ?_)))
 refine Cc (fun hc2 => ?_) fun hc2 => ?_
 ·have hroom : cap < l.length + vs.length := by
   have : decide ((cap : Int) < ((l.length + vs.length : Nat) : Int)) = true := hc2
   have := of_decide_eq_true this
   omega
  have hsz : i0 + (l.length + vs.length - i0) = l.length + vs.length := by omega
  refine Sr (Mm (Mm ?_))
  refine Vy (Y_slHi (sz := 1) (g := g) (len := l.length) (cap := cap) (hi := i0) (k := .i64) (by omega) underlying23 sizeOf3 rfl rfl) (Mm (Mm (Vy (Y_addI rfl rfl) ?_)))
  rw [e1]
  refine Mm (Vy (Y_subI rfl rfl) ?_)
  rw [e2]
  refine V_appendZ (Dw := Dw) (g := g) (sLen := i0) (sCap := cap) (k := l.length + vs.length - i0) (size := 1) (bytes := 8) (ti := t3) (olds := cur.toList.take (i0 * 1)) hH1 underlying23 underlying3 Tryz_info3 rfl rfl rfl rfl (by decide) (by omega) (by omega) (by omega) (by rw [hsz]; exact hbytes) (by rw [List.length_take, hcurl]; omega) (fun j u hj => by
   rw [List.getElem?_take] at hj
   split at hj
   case isFalse => cases hj
   rw [Nat.zero_add]
   exact row_cell (Hp.objAt hH1 (hgx _)) hj) hB hA rfl rfl rfl ?_
  rw [hsz]
  intro g2 cap2 row w1 A1 hH2 ht1 hc2' hm2 hrs hrt
  have hrl : row.toList.length = cap2 * 1 := by rw [Array.length_toList]; exact hrs
  have hc26 : (l.length + vs.length) * 1 ≤ cap2 * 1 := Nat.mul_le_mul_right _ hc2'
  rw [Nat.add_mul] at hc26
  have hB1 := Bx hB ht1
  have hA1 := ht1.new
  refine As (To ?_)
  refine Sr (Mm (Mm ?_))
  refine Vy (Y_slLo (sz := 1) (g := g2) (o := 0) (len := l.length + vs.length) (cap := cap2) (lo := i0) (k := .i64) (by omega) (by omega) hc2' underlying23 sizeOf3 rfl rfl) (Mm ?_)
  obtain ⟨curw, hgw, hcw, hrw, _⟩ := Hp.rowAt hH2 (j := 1) rfl
  have hlsw := hrw.len
  rw [show (GoT.cells Int) = 1 from rfl] at hrw hlsw
  refine V_copyO (Dw := Dw) (g := g2) (o := 0 + i0 * 1) (N := vs.length) (size := 1) (a := ⟨b, 0, none⟩) (ii := t3) (cs := curw.toList.take (vs.length * 1)) hH2 (i := 0) rfl underlying23 Tryz_info3 rfl rfl rfl (Nat.min_eq_left (by omega)) hlsw (fun j u hj => by
   rw [List.getElem?_take] at hj
   split at hj
   case isFalse => cases hj
   rw [add_none, Nat.zero_add]
   exact row_cell hgw hj) (by rw [hlsw, ← Array.length_toList, hrl]; omega) hrw.one hB1 hA1 rfl ?_
  intro w2 hH3 ht2
  replace hH3 : Hp B A1 w2 (obO g2 (.cells (row.toList.take (0 + i0 * 1) ++ curw.toList.take (vs.length * 1) ++ row.toList.drop (0 + i0 * 1 + (curw.toList.take (vs.length * 1)).length)).toArray 3 (0, 0)) :: o_3 (.slice (some ⟨b, 0, none⟩) vs.length capv) vs :: L.set i (obO g (.cells cur 3 (0, 0)))) := hH3
  rw [hlsw, Nat.zero_add] at hH3
  have hB2 := Nat.le_trans hB1 ht2.ex.size
  have hA2 := ht2.new
  have hx1 := ins_grow (X := cur.toList) (R := row.toList) (p := i0 * 1) (q := vs.length * 1) (nn := l.length * 1) (ds := curw.toList.take (vs.length * 1)) (R1 := row.toList.take (i0 * 1) ++ curw.toList.take (vs.length * 1) ++ row.toList.drop (i0 * 1 + vs.length * 1)) hi6 (by omega) (by omega) hrt hlsw rfl
  generalize row.toList.take (i0 * 1) ++ curw.toList.take (vs.length * 1) ++ row.toList.drop (i0 * 1 + vs.length * 1) = R1 at hH3 hx1
  refine To ?_
  refine C_seq ?_
  refine C_region_qt (Dw := Dw) 8 Tryz_mixed (by kernel_rfl) ?_
  refine Qm (Qm (Qm (Qv (fun w' hw' => Y_addI rfl rfl) ?_)))
  rw [e3]
  refine Qv (fun w' hw' => Y_slLo (sz := 1) (g := g2) (o := 0) (len := l.length + vs.length) (cap := cap2) (lo := i0 + vs.length) (k := .i64) (by omega) (by omega) hc2' underlying23 sizeOf3 rfl rfl) (Qm (Qm ?_))
  refine Qv (fun w' hw' => Y_slLo (sz := 1) (g := g) (o := 0) (len := l.length) (cap := cap) (lo := i0) (k := .i64) (by omega) (by omega) h5 underlying23 sizeOf3 rfl rfl) ?_
  refine VQ_tail (fun w3 hk3 => ?_)
  have ht3 := Kp.tr hk3 hA2 hB2
  replace hH3 := Hp.kp (Dw := Dw) hH3 hk3
  have hB3 := Nat.le_trans hB2 ht3.ex.size
  have hA3 := ht3.new
  refine V_copyO (Dw := Dw) (g := g2) (o := 0 + (i0 + vs.length) * 1) (N := l.length - i0) (size := 1) (a := ⟨g, 0 + i0 * 1, none⟩) (ii := t3) (cs := (cur.toList.drop (i0 * 1)).take (l.length * 1 - i0 * 1)) hH3 (i := 0) rfl underlying23 Tryz_info3 rfl rfl rfl (by rw [show l.length + vs.length - (i0 + vs.length) = l.length - i0 by omega]; exact Nat.min_eq_left (Nat.le_refl _)) htail (fun j u hj => by
   rw [List.getElem?_take] at hj
   split at hj
   case isFalse => cases hj
   rw [List.getElem?_drop] at hj
   rw [add_none, Nat.zero_add]
   exact row_cell (Hp.objAt hH3 (i := i + 2) (g := g) (o := .cells cur 3 (0, 0)) (by simp [hiL])) hj) (by rw [htail, ← Array.length_toList, List.toList_toArray, hx1.2, hrl, Nat.add_mul, Nat.sub_mul]; omega) hone hB3 hA3 rfl ?_
  intro w4 hH4 ht4
  rw [Nat.zero_add, List.toList_toArray, Nat.add_mul] at hH4
  replace hH4 : Hp B A1 w4 (obO g2 (.cells (R1.take (i0 * 1 + vs.length * 1) ++ (cur.toList.drop (i0 * 1)).take (l.length * 1 - i0 * 1) ++ R1.drop (i0 * 1 + vs.length * 1 + ((cur.toList.drop (i0 * 1)).take (l.length * 1 - i0 * 1)).length)).toArray 3 (0, 0)) :: o_3 (.slice (some ⟨b, 0, none⟩) vs.length capv) vs :: L.set i (obO g (.cells cur 3 (0, 0)))) := hH4
  have hA4 := ht4.new
  have htAll := ((ht1.trans ht2).trans ht3).trans ht4
  have hrep := rows_insert (i0 := i0) (h8.keep htAll.ex) (hrw.keep ((ht2.trans ht3).trans ht4).ex)
  rw [show (GoT.cells Int) = 1 from rfl, ← hx1.1] at hrep
  have hlr : (l.take i0 ++ vs ++ l.drop i0).length = l.length + vs.length := by simp only [List.length_append, List.length_take, List.length_drop]; omega
  have hH5 := Hp.closeS (α := Int) (e := 3) (l := l.take i0 ++ vs ++ l.drop i0) (cap := cap2) hH4 (i := 0) rfl hA4 (by rw [hlr]; exact hc2') hm2 (by
   rw [← Array.length_toList, List.toList_toArray, List.length_append, List.length_append, List.length_take, List.length_drop, htail, hx1.2, hrl, show (GoT.cells Int) = 1 from rfl, Nat.sub_mul]
   omega) (by rw [hlr, List.toList_toArray, show (GoT.cells Int) = 1 from rfl, Nat.add_mul]; exact hrep)
  rw [hlr] at hH5
  have hH6 := (Hp.drop hH5 (i := 1) rfl).takes hiL
  refine To ?_
  refine Sr (Mm (As (To ?_)))
  refine Rt (Res.one results54 rfl) ?_
  exact ⟨_, A1, rfl, hH6, htAll⟩
 have hroom : l.length + vs.length ≤ cap := by
  have : decide ((cap : Int) < ((l.length + vs.length : Nat) : Int)) = false := hc2
  have := of_decide_eq_false this
  omega
 have hr6 : (l.length + vs.length) * 1 ≤ cap * 1 := Nat.mul_le_mul_right _ hroom
 rw [Nat.add_mul] at hr6
 have hx1 := fun (ds : List Value) (hd : ds.length = vs.length * 1) => ins_place (X := cur.toList) (p := i0 * 1) (q := vs.length * 1) (nn := l.length * 1) (ds := ds) (X1 := cur.toList.take (i0 * 1 + vs.length * 1) ++ (cur.toList.drop (i0 * 1)).take (l.length * 1 - i0 * 1) ++ cur.toList.drop (i0 * 1 + vs.length * 1 + ((cur.toList.drop (i0 * 1)).take (l.length * 1 - i0 * 1)).length)) hi6 (by omega) hd rfl
 refine Sk ?_
 refine Sr (Mm (Mm (Mm (Vy (Y_addI rfl rfl) ?_))))
 rw [e1]
 refine Vy (Y_slHi (sz := 1) (g := g) (len := l.length) (cap := cap) (hi := l.length + vs.length) (k := .i64) hroom underlying23 sizeOf3 rfl rfl) (As (To ?_))
 refine C_seq (Sr (Mm (Mm (Mm (Mm (Vy (Y_addI rfl rfl) ?_))))))
 rw [e3]
 refine Vy (Y_slLo (sz := 1) (g := g) (o := 0) (len := l.length + vs.length) (cap := cap) (lo := i0 + vs.length) (k := .i64) (by omega) (by omega) hroom underlying23 sizeOf3 rfl rfl) ?_
 refine Vy (Y_ext Tryz_ovl86 Tryz_ovlb86.1 Tryz_ovlb86.2 Tryz_ovln86 Tryz_ovlf86 rfl rfl (Go.Lib.run_overlaps_apart w 23 4 3 underlying23 1 sizeOf3 ⟨b, 0, none⟩ ⟨g, 0 + (i0 + vs.length) * 1, none⟩ vs.length capv (l.length + vs.length - (i0 + vs.length)) (cap - (i0 + vs.length)) hbg 3 3 (capv * 1) (cap * 1) (by simp [World.shape?, hgv, hcv]) (by simp [World.shape?, Hp.objAt hH1 (hgx _), h7]) (by omega) (by simp [World.frozen?, hgv]) (by simp [World.frozen?, hgv]))) (Vy (Y_not rfl) (To ?_))
 refine C_true rfl ?_
 refine C_seq ?_
 refine C_region_qt (Dw := Dw) 8 Tryz_mixed (by kernel_rfl) ?_
 refine Qm (Qm (Qm (Qv (fun w' hw' => Y_addI rfl rfl) ?_)))
 rw [e3]
 refine Qv (fun w' hw' => Y_slLo (sz := 1) (g := g) (o := 0) (len := l.length + vs.length) (cap := cap) (lo := i0 + vs.length) (k := .i64) (by omega) (by omega) hroom underlying23 sizeOf3 rfl rfl) (Qm (Qm ?_))
 refine Qv (fun w' hw' => Y_slLo (sz := 1) (g := g) (o := 0) (len := l.length + vs.length) (cap := cap) (lo := i0) (k := .i64) (by omega) (by omega) hroom underlying23 sizeOf3 rfl rfl) ?_
 refine VQ_tail (fun w1 hk1 => ?_)
 have ht1 := Kp.tr hk1 hA hB
 replace hH1 := Hp.kp (Dw := Dw) hH1 hk1
 have hB1 := Bx hB ht1
 have hA1 := ht1.new
 refine V_copyO (Dw := Dw) (g := g) (o := 0 + (i0 + vs.length) * 1) (N := l.length - i0) (size := 1) (a := ⟨g, 0 + i0 * 1, none⟩) (ii := t3) (cs := (cur.toList.drop (i0 * 1)).take (l.length * 1 - i0 * 1)) hH1 (i := i + 1) (hgx _) underlying23 Tryz_info3 rfl rfl rfl (by rw [show l.length + vs.length - (i0 + vs.length) = l.length - i0 by omega]; exact Nat.min_eq_right (by omega)) htail (fun j u hj => by
  rw [List.getElem?_take] at hj
  split at hj
  case isFalse => cases hj
  rw [List.getElem?_drop] at hj
  rw [add_none, Nat.zero_add]
  exact row_cell (Hp.objAt hH1 (hgx _)) hj) (by rw [htail, ← Array.length_toList, hcurl, Nat.add_mul, Nat.sub_mul]; omega) hone hB1 hA1 rfl ?_
 intro w2 hH2 ht2
 rw [Nat.zero_add, Nat.add_mul, List.set_cons_succ, List.set_set] at hH2
 generalize cur.toList.take (i0 * 1 + vs.length * 1) ++ (cur.toList.drop (i0 * 1)).take (l.length * 1 - i0 * 1) ++ cur.toList.drop (i0 * 1 + vs.length * 1 + ((cur.toList.drop (i0 * 1)).take (l.length * 1 - i0 * 1)).length) = X1 at hH2 hx1
 have hB2 := Nat.le_trans hB1 ht2.ex.size
 have hA2 := ht2.new
 refine To ?_
 refine Sr (Mm (Mm ?_))
 refine Vy (Y_slLo (sz := 1) (g := g) (o := 0) (len := l.length + vs.length) (cap := cap) (lo := i0) (k := .i64) (by omega) (by omega) hroom underlying23 sizeOf3 rfl rfl) (Mm ?_)
 obtain ⟨curw, hgw, hcw, hrw, _⟩ := Hp.rowAt hH2 (j := 0) rfl
 have hlsw := hrw.len
 rw [show (GoT.cells Int) = 1 from rfl] at hrw hlsw
 replace hx1 := hx1 _ hlsw
 refine V_copyO (Dw := Dw) (g := g) (o := 0 + i0 * 1) (N := vs.length) (size := 1) (a := ⟨b, 0, none⟩) (ii := t3) (cs := curw.toList.take (vs.length * 1)) hH2 (i := i + 1) (hgx _) underlying23 Tryz_info3 rfl rfl rfl (Nat.min_eq_left (by omega)) hlsw (fun j u hj => by
  rw [List.getElem?_take] at hj
  split at hj
  case isFalse => cases hj
  rw [add_none, Nat.zero_add]
  exact row_cell hgw hj) (by rw [hlsw, ← Array.length_toList, List.toList_toArray, hx1.2, hcurl]; omega) hrw.one hB2 hA2 rfl ?_
 intro w3 hH3 ht3
 rw [hlsw, Nat.zero_add, List.toList_toArray, List.set_cons_succ, List.set_set] at hH3
 have hA3 := ht3.new
 have htAll := (ht1.trans ht2).trans ht3
 have hrep := rows_insert (i0 := i0) (h8.keep htAll.ex) (hrw.keep ht3.ex)
 rw [show (GoT.cells Int) = 1 from rfl, ← hx1.1] at hrep
 have hlr : (l.take i0 ++ vs ++ l.drop i0).length = l.length + vs.length := by simp only [List.length_append, List.length_take, List.length_drop]; omega
 have hH5 := Hp.closeS (α := Int) (e := 3) (l := l.take i0 ++ vs ++ l.drop i0) (cap := cap) hH3 (i := i + 1) (hgx _) hA3 (by rw [hlr]; exact hroom) h6 (by
  rw [← Array.length_toList, List.toList_toArray, List.length_append, List.length_append, List.length_take, List.length_drop, hlsw, hx1.2, hcurl, show (GoT.cells Int) = 1 from rfl]
  omega) (by rw [hlr, List.toList_toArray, show (GoT.cells Int) = 1 from rfl, Nat.add_mul]; exact hrep)
 rw [hlr, List.set_cons_succ, List.set_set] at hH5
 have hH6 := Hp.drop hH5 (i := 0) rfl
 refine To ?_
 refine Sr (Mm (As (To ?_)))
 refine Rt (Res.one results54 rfl) ?_
 exact ⟨_, A, rfl, hH6, htAll⟩
theorem know_merged_know_Term_c (w : World) {A : Nat → Prop} {B : Nat} (hB : B ≤ w.heap.size) (hA : ∀ b, w.heap.size ≤ b → A b) (a_ : (List know_Term)) (v_a_ : Value) (h_a_ : Sl A w v_a_ a_) (b : (List know_Term)) (v_b : Value) (h_b : Sl A w v_b b) (compare : know_Term → know_Term → Option Int) (compare_f : FuncId) (compare_a compare_c : Array Value) (compare_call : ∀ (args : Array Value) (w : World), (callFunc compare_f args).run prog w = .ok (.enter compare_f args) w) (compare_spec : ∀ (w1 : World) (A1 : Nat → Prop), Tr Dw B A w A1 w1 → (∀ b, w1.heap.size ≤ b → A1 b) → ∀ (y0 : know_Term) (v1 : Value) (h2 : Sl A1 w1 v1 y0.list_) (y1 : know_Term) (v3 : Value) (h4 : Sl A1 w1 v3 y1.list_) (r : Int), compare y0 y1 = some r → Ret prog compare_f (compare_a ++ #[.agg #[.string y0.word, v1], .agg #[.string y1.word, v3]] ++ compare_c) w1 fun v w' => v = Ii r ∧ Kp Dw w1 w') {L : List Ob} (hH : Hp B A w (L)) {r : (List know_Term)} (hm : know_merged_know_Term a_ b compare = some r) : Ret prog 56 #[v_a_, v_b, .func (.func compare_f) compare_a compare_c] w fun v w' => ∃ s0, ∃ A1 : Nat → Prop, v = s0 ∧ Hp B A1 w' (o_90 s0 r :: L) ∧ Tr Dw B A w A1 w' := by
 unfold know_merged_know_Term at hm
 refine enter func56 rfl ntmps56 rfl ?_
 have hK : Tr Dw B A w A w := Tr.refl (Dw := Dw) hA
 refine Sr (As (To ?_))
 refine Sr (As (To ?_))
 refine C_seq ?_
 replace hH : Hp B A w (o_90 (.slice none 0 0) ([] : (List know_Term)) :: L) := Hp.addNil (α := know_Term) (e := 90) hH
 obtain ⟨o5, ho5, hm⟩ := Bs hm
 refine C_cutG (ι := (((List know_Term) × (List know_Term) × (List know_Term)) × Value × Value × Value × (Nat → Prop))) (fun ⟨s6, v12, v14, v16, A18⟩ => [(0, v12), (1, v14), (7, v16)]) (fun ⟨s6, v12, v14, v16, A18⟩ => fun w' => o5 = .fin s6 ∧ Sl A18 w' v12 s6.1 ∧ Sl A18 w' v14 s6.2.1 ∧ Hp B A18 w' (o_90 v16 s6.2.2 :: L) ∧ Tr Dw B A w A18 w') ?_ ?_
 ·refine C_block ?_
  refine C_while ho5 (fun s20 a w' => ∃ i : (Value × Value × Value × (Nat → Prop)), Has ⟨52, [], none⟩ a ([(0, i.1), (1, i.2.1), (2, .func (.func compare_f) compare_a compare_c), (7, i.2.2.1)]) ∧ Sl i.2.2.2 w' i.1 s20.1 ∧ Sl i.2.2.2 w' i.2.1 s20.2.1 ∧ Hp B i.2.2.2 w' (o_90 i.2.2.1 s20.2.2 :: L) ∧ Tr Dw B A w i.2.2.2 w') (fun a ha => ⟨(v_a_, v_b, .slice none 0 0, A), ha.sb, ⟨h_a_, h_b, hH, Tr.refl (Dw := Dw) hA⟩⟩) ?_
  rintro K s20 a w21 ⟨⟨v22, v24, v26, A28⟩, ha137, h23, h25, hH29, hr7⟩ K36
  refine C_of ?_ ha137
  replace hK := Tt hK hr7; replace hB := Bx hB hr7; replace hA := hr7.new
  replace hH : Hp _ _ _ (o_90 v26 s20.2.2 :: L) := hH29
  obtain ⟨x30, h31, h32⟩ := K36
  refine C_seq (Sr (Mm (Vy (Y_lenSl h23 rfl underlying45 rfl) (Vy (Y_gtr rfl rfl) (Mm ?_)))))
  refine V_cut 4 (fun _ : Unit => [(0, v22), (1, v24), (2, .func (.func compare_f) compare_a compare_c), (7, v26), (16, .bool ((decide ((0 : Int) < (s20.1.length : Int))) && (decide ((0 : Int) < (s20.2.1.length : Int)))))]) (fun _ w' => w21 = w') ?_ ?_
  ·simp only [List.take, List.drop]
   rcases Be (decide ((0 : Int) < (s20.1.length : Int))) with hc37 | hc37
   ·refine Gf hc37 (Mm (Gf hc37 (Vy (Y_lenSl h25 rfl underlying45 rfl) (Gf hc37 (Vy (Y_gtr rfl rfl) (Vy (Y_pick_te rfl hc37 rfl) ?_))))))
    exact V_end fun a ha => ⟨(), ha.sub ⟨rfl, rfl, rfl, rfl, (by rw [hc37]; rfl), trivial⟩, rfl⟩
   refine Gm hc37 (Gm hc37 (Gm hc37 (Vy (Y_pick_fe rfl hc37 rfl) ?_)))
   exact V_end fun a ha => ⟨(), ha.sub ⟨rfl, rfl, rfl, rfl, (by rw [hc37]; rfl), trivial⟩, rfl⟩
  simp only [List.take, List.drop]
  rintro _ _ rfl
  refine To ?_
  refine Cc (fun hc39 => ?_) fun hc39 => ?_
  ·rw [if_pos hc39] at h31
   refine Sk ?_
   obtain ⟨s41, ho40, h31⟩ := Bs h31
   refine C_cutG (ι := (Value × Value × Value × (Nat → Prop))) (fun ⟨v43, v45, v47, A52⟩ => [(0, v43), (1, v45), (2, .func (.func compare_f) compare_a compare_c), (7, v47)]) (fun ⟨v43, v45, v47, A52⟩ => fun w' => Sl A52 w' v43 s41.1 ∧ Sl A52 w' v45 s41.2.1 ∧ Hp B A52 w' (o_90 v47 s41.2.2 :: L) ∧ Tr Dw B A28 w21 A52 w') ?_ ?_
   ·have hr42 : Tr Dw B A28 w21 A28 w21 := Tr.refl (Dw := Dw) hA
    refine C_block (C_seq ?_)
    refine C_region_q (Dw := Dw) Tryz_mixed (by kernel_rfl) ?_
    refine Qm (Qm ?_)
    obtain ⟨x54, hx54, ho40⟩ := Bs ho40
    refine VQ_indexAddr h23 hx54 underlying45 sizeOf90 rfl rfl rfl ?_
    intro b55 o56 h57
    obtain ⟨v58, h60, h59⟩ := El_know_Term h57
    refine Qv (fun w' hw' => Y_loadA (At.kp h60 hw' h57.2.1) isAgg90 sizeOf90 rfl) (Qm ?_)
    obtain ⟨x61, hx61, ho40⟩ := Bs ho40
    refine VQ_indexAddr h25 hx61 underlying45 sizeOf90 rfl rfl rfl ?_
    intro b62 o63 h64
    obtain ⟨v65, h67, h66⟩ := El_know_Term h64
    refine Qv (fun w' hw' => Y_loadA (At.kp h67 hw' h64.2.1) isAgg90 sizeOf90 rfl) ?_
    obtain ⟨x68, hx68, ho40⟩ := Bs ho40
    refine VQ_call (Ii x68) compare_call rfl rfl rfl rfl (fun w' hw' => (compare_spec w' _ (Tr.trans hK (Kp.tr (Dw := Dw) hw' hA hB)) (fun b hb => hA b (Nat.le_trans hw'.size hb)) x54 v58 (Sl.kp h59 hw') x61 v65 (Sl.kp h66 hw') _ hx68).mono fun _ _ h => ⟨h.1, Kp.trans (Dw := Dw) hw' h.2⟩) ?_
    refine Qa ?_
    refine VQ_to (fun _ _ => rfl) (fun w69 hk70 => ?_)
    have ht71 := Kp.tr hk70 hA hB; replace hH := Hp.kp hH hk70; replace h23 := Sl.tr h23 ht71; replace h25 := Sl.tr h25 ht71; replace hr42 := Tt hr42 ht71; replace hB := Bx hB ht71; replace hA := ht71.new
    refine C_seq (Sr (Mm (Vy (Y_lss rfl rfl) (To ?_))))
    refine Cc (fun hc72 => ?_) fun hc72 => ?_
    ·rw [if_pos hc72] at ho40
     refine Sr (Mm (Mm ?_))
     refine V_indexAddr h23 hx54 underlying45 sizeOf90 rfl rfl rfl ?_
     intro b73 o74 h75
     obtain ⟨v76, h78, h77⟩ := El_know_Term h75
     refine Vy (Y_loadA h78 isAgg90 sizeOf90 rfl) ?_
     refine V_buildSlice (Dw := Dw) (cells := #[.string x54.word, v76]) (l := ([x54] : List know_Term)) (len := 1) underlying45 sizeOf90 zeroValue90 rfl (by obtain ⟨a83, c84, e85, _⟩ := Sl.form h77; subst e85; kernel_rfl) (show (1 * 2 : Nat) ≠ 0 by decide) (show (1 * 2 : Nat) ≤ 2 ^ 24 by decide) hA ⟨[.string x54.word, v76], _, rfl, ⟨[.string x54.word], _, rfl, rfl, ⟨_, rfl, h77⟩⟩, rfl⟩ rfl rfl ?_
     intro v79 w80 hk82 h81
     have ht86 := Kp.tr hk82 hA hB; replace hH := Hp.kp hH hk82; replace h23 := Sl.tr h23 ht86; replace h25 := Sl.tr h25 ht86; replace hr42 := Tt hr42 ht86; replace hB := Bx hB ht86; replace hA := ht86.new
     obtain ⟨x87, hx87, ho40⟩ := Bs ho40
     refine V_appendH (Dw := Dw) (e := 90) (v := v26) (l := s20.2.2) (ti := t90) (bytes := 40) (lim := 3518437208883) hH (i := 0) rfl h81 hx87 underlying45 Tryz_info90 rfl rfl rfl rfl (by decide) (by decide) (by decide) hB hA rfl rfl rfl ?_
     intro v88 w89 A90 hH91 ht92
     replace h23 := Sl.tr h23 ht92; replace h25 := Sl.tr h25 ht92; replace hr42 := Tt hr42 ht92
     replace hH : Hp _ _ _ (o_90 v88 x87 :: L) := hH91
     refine As (To ?_)
     refine Sr (Mm ?_)
     obtain ⟨x93, hx93, ho40⟩ := Bs ho40
     obtain ⟨v94, h95, h95y⟩ := sliceL_val hx93 h23
     refine Vy (Y_sliceLL h95y underlying45 sizeOf90 rfl rfl) (As (To ?_))
     obtain rfl := Oi ho40
     refine C_exit (fun a ha96 => ?_)
     exact ⟨(v94, v24, v88, A90), ha96.sb, ⟨h95, h25, hH, hr42⟩⟩
    rw [if_neg (nt hc72)] at ho40
    refine Sk ?_
    refine C_seq (Sr (Mm (Vy (Y_eql rfl rfl) (To ?_))))
    obtain ⟨s98, ho97, ho40⟩ := Bs ho40
    refine C_cutG (ι := Value) (fun (v100 : Value) => [(0, v100), (1, v24), (2, .func (.func compare_f) compare_a compare_c), (7, v26)]) (fun (v100 : Value) => fun w' => Sl A28 w' v100 s98 ∧ w69 = w') ?_ ?_
    ·refine Cc (fun hc105 => ?_) fun hc105 => ?_
     ·rw [if_pos hc105] at ho97
      refine C_region (Mm ?_)
      obtain ⟨x106, hx106, ho97⟩ := Bs ho97
      obtain ⟨v107, h108, h108y⟩ := sliceL_val hx106 h23
      refine Vy (Y_sliceLL h108y underlying45 sizeOf90 rfl rfl) (As ?_)
      obtain rfl := Oi ho97
      refine V_end (fun a ha109 => ?_)
      exact ⟨v107, ha109.sb, ⟨h108, rfl⟩⟩
     rw [if_neg (nt hc105)] at ho97
     obtain rfl := Oi ho97
     refine C_skip (fun a ha110 => ?_)
     exact ⟨v22, ha110.sb, ⟨h23, rfl⟩⟩
    rintro v100 _ ⟨h101, rfl⟩ a ha104
    refine C_at (n := ⟨52, [], none⟩) (fun _ _ => rfl) ?_ ha104
    refine Sr (Mm (Mm ?_))
    refine V_indexAddr h25 hx61 underlying45 sizeOf90 rfl rfl rfl ?_
    intro b111 o112 h113
    obtain ⟨v114, h116, h115⟩ := El_know_Term h113
    refine Vy (Y_loadA h116 isAgg90 sizeOf90 rfl) ?_
    refine V_buildSlice (Dw := Dw) (cells := #[.string x61.word, v114]) (l := ([x61] : List know_Term)) (len := 1) underlying45 sizeOf90 zeroValue90 rfl (by obtain ⟨a121, c122, e123, _⟩ := Sl.form h115; subst e123; kernel_rfl) (show (1 * 2 : Nat) ≠ 0 by decide) (show (1 * 2 : Nat) ≤ 2 ^ 24 by decide) hA ⟨[.string x61.word, v114], _, rfl, ⟨[.string x61.word], _, rfl, rfl, ⟨_, rfl, h115⟩⟩, rfl⟩ rfl rfl ?_
    intro v117 w118 hk120 h119
    have ht124 := Kp.tr hk120 hA hB; replace hH := Hp.kp hH hk120; replace h25 := Sl.tr h25 ht124; replace h101 := Sl.tr h101 ht124; replace hr42 := Tt hr42 ht124; replace hB := Bx hB ht124; replace hA := ht124.new
    obtain ⟨x125, hx125, ho40⟩ := Bs ho40
    refine V_appendH (Dw := Dw) (e := 90) (v := v26) (l := s20.2.2) (ti := t90) (bytes := 40) (lim := 3518437208883) hH (i := 0) rfl h119 hx125 underlying45 Tryz_info90 rfl rfl rfl rfl (by decide) (by decide) (by decide) hB hA rfl rfl rfl ?_
    intro v126 w127 A128 hH129 ht130
    replace h25 := Sl.tr h25 ht130; replace h101 := Sl.tr h101 ht130; replace hr42 := Tt hr42 ht130
    replace hH : Hp _ _ _ (o_90 v126 x125 :: L) := hH129
    refine As (To ?_)
    refine C_region (Mm ?_)
    obtain ⟨x131, hx131, ho40⟩ := Bs ho40
    obtain ⟨v132, h133, h133y⟩ := sliceL_val hx131 h25
    refine Vy (Y_sliceLL h133y underlying45 sizeOf90 rfl rfl) (As ?_)
    obtain rfl := Oi ho40
    refine V_end (fun a ha134 => ?_)
    exact ⟨(v100, v132, v126, A128), ha134.sb, ⟨h101, h133, hH, hr42⟩⟩
   rintro ⟨v43, v45, v47, A52⟩ w49 ⟨h44, h46, hH53, hk50⟩ a ha51
   replace hr7 := Tr.trans hr7 hk50; replace hA := hk50.new
   replace hH : Hp _ _ _ (o_90 v47 s41.2.2 :: L) := hH53
   obtain rfl := Oi h31
   exact ⟨(s41.1, s41.2.1, s41.2.2), h32, ⟨(v43, v45, v47, A52), ha51.sb, ⟨h44, h46, hH, hr7⟩⟩⟩
  rw [if_neg (nt hc39)] at h31
  obtain rfl := Oi h31
  refine C_exit (fun a ha136 => ?_)
  exact ⟨((s20.1, s20.2.1, s20.2.2), v22, v24, v26, A28), ha136.sb, ⟨h32.symm, h23, h25, hH, hr7⟩⟩
 rintro ⟨s6, v12, v14, v16, A18⟩ w9 ⟨rfl, h13, h15, hH19, hk10⟩ a ha11
 rw [Lp.andThen_fin] at hm
 replace hK := Tr.trans hK hk10; replace hB := Nat.le_trans hB hk10.ex.size; replace hA := hk10.new
 replace hH : Hp _ _ _ (o_90 v16 s6.2.2 :: L) := hH19
 refine C_at (n := ⟨52, [], none⟩) (fun _ _ => rfl) ?_ ha11
 refine Sr (Mm (Mm ?_))
 obtain ⟨x138, hx138, hm⟩ := Bs hm
 refine V_appendH (Dw := Dw) (e := 90) (v := v16) (l := s6.2.2) (ti := t90) (bytes := 40) (lim := 3518437208883) hH (i := 0) rfl h13 hx138 underlying45 Tryz_info90 rfl rfl rfl rfl (by decide) (by decide) (by decide) hB hA rfl rfl rfl ?_
 intro v139 w140 A141 hH142 ht143
 replace h15 := Sl.tr h15 ht143; replace hK := Tt hK ht143; replace hB := Bx hB ht143; replace hA := ht143.new
 replace hH : Hp _ _ _ (o_90 v139 x138 :: L) := hH142
 refine Mm ?_
 obtain ⟨x144, hx144, hm⟩ := Bs hm
 refine V_appendH (Dw := Dw) (e := 90) (v := v139) (l := x138) (ti := t90) (bytes := 40) (lim := 3518437208883) hH (i := 0) rfl h15 hx144 underlying45 Tryz_info90 rfl rfl rfl rfl (by decide) (by decide) (by decide) hB hA rfl rfl rfl ?_
 intro v145 w146 A147 hH148 ht149
 replace hK := Tt hK ht149
 replace hH : Hp _ _ _ (o_90 v145 x144 :: L) := hH148
 refine As (To ?_)
 obtain rfl := Oi hm
 refine Rt (Res.one results56 rfl) ?_
 exact ⟨v145, A147, rfl, hH, hK⟩
theorem know_Index_with_c (w : World) {A : Nat → Prop} (hA : ∀ b, w.heap.size ≤ b → A b) (x : know_Index) (v_x0 : Value) (h_x0 : Sl A w v_x0 x.ids) (v_x1 : Value) (h_x1 : Sl A w v_x1 x.sizes) (v_x2 : Value) (h_x2 : Sl A w v_x2 x.terms) (v : know_Entry) {r : know_Index} (hm : know_Index_with x v = some r) : Ret prog 27 #[.agg #[v_x0, v_x1, v_x2], .agg #[Ii v.id_, .string v.title, .string v.body]] w fun v w' => ∃ s0 s1 s2, v = .agg #[s0, s1, s2] ∧ Sl A w' s0 r.ids ∧ Sl A w' s1 r.sizes ∧ Sl A w' s2 r.terms ∧ Kp Dw w w' := by
 unfold know_Index_with at hm
 refine enter func27 rfl ntmps27 rfl ?_
 have hA0 := hA
 obtain ⟨hB, hK, hH⟩ := St (Dw := Dw) hA
 refine Sr ?_
 refine V_boxH (Dw := Dw) (B := w.heap.size) hH rfl hB hA rfl ?_
 intro b7 w9 A10 hH11 ht12
 replace h_x0 := Sl.tr h_x0 ht12; replace h_x1 := Sl.tr h_x1 ht12; replace h_x2 := Sl.tr h_x2 ht12; replace hK := Tt hK ht12; replace hB := Bx hB ht12; replace hA := ht12.new
 replace hH : Hp _ _ _ (obC b7 [v_x0, v_x1, v_x2] 47 :: []) := hH11
 refine V_box rfl rfl ?_
 intro b13 w14 h15
 have hk17 := h15.kp (Dw := Dw)
 have h16 : El (α := know_Entry) A10 w14 b13 0 v := h15.el hA ⟨[Ii v.id_], _, rfl, rfl, ⟨[.string v.title], _, rfl, rfl, rfl⟩⟩
 have ht18 := Kp.tr hk17 hA hB; replace hH := Hp.kp hH hk17; replace h_x0 := Sl.tr h_x0 ht18; replace h_x1 := Sl.tr h_x1 ht18; replace h_x2 := Sl.tr h_x2 ht18; replace hK := Tt hK ht18; replace hB := Bx hB ht18; replace hA := ht18.new
 refine V_allocH (Dw := Dw) (B := w.heap.size) hH zeroValue47 hB hA rfl ?_
 intro b19 w20 A21 hH22 ht23
 replace h_x0 := Sl.tr h_x0 ht23; replace h_x1 := Sl.tr h_x1 ht23; replace h_x2 := Sl.tr h_x2 ht23; replace h16 := El.tr h16 ht23; replace hK := Tt hK ht23; replace hB := Bx hB ht23; replace hA := ht23.new
 replace hH : Hp _ _ _ (obC b19 [.slice none 0 0, .slice none 0 0, .slice none 0 0] 47 :: obC b7 [v_x0, v_x1, v_x2] 47 :: []) := hH22
 refine To ?_
 refine Sr ?_
 obtain ⟨h24, _⟩ := El_know_Entry h16
 refine Vy (Y_loadA h24 isAgg58 sizeOf58 rfl) ?_
 obtain ⟨x25, hx25, hm⟩ := Bs hm
 refine Vc call49 (know_postings_c (Dw := Dw) w20 hB hA v hH hx25) ?_
 rintro _ w28 ⟨v26, A29, rfl, hH30, ht31⟩
 replace h16 := El.tr h16 ht31; replace h_x0 := Sl.tr h_x0 ht31; replace h_x1 := Sl.tr h_x1 ht31; replace h_x2 := Sl.tr h_x2 ht31; replace hK := Tt hK ht31; replace hB := Bx hB ht31; replace hA := ht31.new
 replace hH : Hp _ _ _ (o_90 v26 x25.1 :: obC b19 [.slice none 0 0, .slice none 0 0, .slice none 0 0] 47 :: obC b7 [v_x0, v_x1, v_x2] 47 :: []) := hH30
 refine Mm (Vy (Y_extract rfl rfl) (Vy (Y_extract rfl rfl) (As (As (To ?_)))))
 refine C_seq (Sr (Mm (Vy (Y_lenSl (Hp.any (α := know_Term) (e := 90) (v := v26) (l := x25.1) hH (i := 0) rfl) rfl underlying45 rfl) (Mm (To ?_)))))
 have hn56 := Hp.le (α := know_Term) (e := 90) (v := v26) (l := x25.1) hH (i := 0) rfl
 obtain ⟨o32, ho32, hm⟩ := Bs hm
 refine C_cutG (ι := ((List know_Term) × Value × (Nat → Prop))) (fun ⟨s33, v39, A41⟩ => [(2, Pt b7), (3, Pt b13), (4, Pt b19), (5, v39), (6, Ii x25.2)]) (fun ⟨s33, v39, A41⟩ => fun w' => o32 = .fin s33 ∧ Hp w.heap.size A41 w' (o_90 v39 s33 :: obC b19 [.slice none 0 0, .slice none 0 0, .slice none 0 0] 47 :: obC b7 [v_x0, v_x1, v_x2] 47 :: []) ∧ Tr Dw w.heap.size A29 w28 A41 w') ?_ ?_
 ·refine C_block ?_
  refine C_range ho32 (fun k35 s43 a w' => ∃ i : (Value × (Nat → Prop)), Has ⟨78, [], none⟩ a ([(2, Pt b7), (3, Pt b13), (4, Pt b19), (5, i.1), (6, Ii x25.2), (18, i.1), (19, Ii (x25.1.length : Int)), (20, Ii (k35 : Int))]) ∧ Hp w.heap.size i.2 w' (o_90 i.1 s43 :: obC b19 [.slice none 0 0, .slice none 0 0, .slice none 0 0] 47 :: obC b7 [v_x0, v_x1, v_x2] 47 :: []) ∧ Tr Dw w.heap.size A29 w28 i.2 w') (fun a ha => ⟨(v26, A29), ha.sb, ⟨hH, Tr.refl (Dw := Dw) hA⟩⟩) ?_
  rintro K k35 s43 a w44 ⟨⟨v45, A47⟩, ha188, hH48, hr34⟩ hle52 K55 h54
  refine C_of ?_ ha188
  replace h_x2 := Sl.tr h_x2 hr34; replace hB := Bx hB hr34; replace hA := hr34.new
  replace hH : Hp _ _ _ (o_90 v45 s43 :: obC b19 [.slice none 0 0, .slice none 0 0, .slice none 0 0] 47 :: obC b7 [v_x0, v_x1, v_x2] 47 :: []) := hH48
  refine Sr (Vy (Y_lss rfl rfl) (To ?_))
  refine C_seq ?_
  refine Cc (fun hc57 => ?_) fun hc57 => ?_
  ·have hlt53 := lt_of_dec hc57
   obtain ⟨x49, h50, h51⟩ := K55 hlt53
   refine Sk ?_
   refine C_seq ?_
   obtain ⟨s59, ho58, h50⟩ := Bs h50
   refine C_cutG (ι := (Value × (Nat → Prop))) (fun ⟨v61, A66⟩ => [(2, Pt b7), (3, Pt b13), (4, Pt b19), (5, v61), (6, Ii x25.2), (18, v61), (19, Ii (x25.1.length : Int)), (20, Ii (k35 : Int))]) (fun ⟨v61, A66⟩ => fun w' => Hp w.heap.size A66 w' (o_90 v61 s59 :: obC b19 [.slice none 0 0, .slice none 0 0, .slice none 0 0] 47 :: obC b7 [v_x0, v_x1, v_x2] 47 :: []) ∧ Tr Dw w.heap.size A47 w44 A66 w') ?_ ?_
   ·have hr60 : Tr Dw w.heap.size A47 w44 A47 w44 := Tr.refl (Dw := Dw) hA
    refine C_block (Sr (Mm ?_))
    obtain ⟨x68, hx68, ho58⟩ := Bs ho58
    refine V_indexAddrH (α := know_Term) (e := 90) (v := v45) (l := s43) hH (i := 0) rfl hx68 underlying45 sizeOf90 rfl rfl rfl ?_
    intro b69 o70 h71 hl72
    obtain ⟨v73, h75, h74⟩ := ElR_know_Term (Hp.elemRep (e := 90) (v := v45) (l := s43) hH (i := 0) rfl hl72 hx68)
    refine Vy (Y_loadA h75 isAgg90 sizeOf90 rfl) ?_
    refine V_alloc zeroValue90 rfl ?_
    intro b76 w77 h78
    refine As ?_
    have h83 : (v73).oneCell' = true := by obtain ⟨_, _, e, _⟩ := Sl.form h74; rw [e]; rfl
    refine Sn h78 sizeOf90 ?_
    intro w79 h80
    have hk85 := h80.kp (Dw := Dw)
    have h84 : El (α := know_Term) A47 w79 b76 0 x68 := h80.el hA ⟨[.string x68.word], _, rfl, rfl, ⟨_, rfl, h74⟩⟩
    have ht86 := Kp.tr hk85 hA hB; replace hH := Hp.kp hH hk85; replace h_x2 := Sl.tr h_x2 ht86; replace hr60 := Tt hr60 ht86; replace hB := Bx hB ht86; replace hA := ht86.new
    refine To ?_
    refine Sr (Vy (Y_fieldAddrC (off2 := 2) underlying47 rfl sizeOf45 (by decide) rfl rfl) (Ld (Hp.cell (j := 2) hH (i := 2) rfl rfl) isAgg45 ?_))
    obtain ⟨v87, h89, h88⟩ := El_know_Term h84
    refine Vy (Y_loadA h89 isAgg90 sizeOf90 rfl) ?_
    obtain ⟨x92, hx92, ho58⟩ := Bs ho58
    refine Vc call50 (slices_BinarySearchFunc_Lknow_Term_know_Term_know_Term_c (Dw := Dw) w79 hA x.terms v_x2 h_x2 x68 v87 h88 (fun y105 y106 => know_byWord y105 y106) 40 #[] #[] call40 (fun w101 A102 ht103 h104 y93 v94 h95 y96 v97 h98 r99 h100 => (know_byWord_c (Dw := Dw) w101 h104 y93 v94 h95 y96 v97 h98  h100).mono (fun _ _ h => ⟨h.1, h.2⟩)) hx92) ?_
    rintro _ w107 ⟨rfl, hk108⟩
    have ht109 := Kp.tr hk108 hA hB; replace hH := Hp.kp hH hk108; replace h84 := El.tr h84 ht109; replace h_x2 := Sl.tr h_x2 ht109; replace hr60 := Tt hr60 ht109; replace hB := Bx hB ht109; replace hA := ht109.new
    refine Mm (Vy (Y_extract rfl rfl) (Vy (Y_extract rfl rfl) (As (As (To ?_)))))
    refine Sr (Mm (To ?_))
    obtain ⟨s111, ho110, ho58⟩ := Bs ho58
    refine C_cutG (ι := (Value × (Nat → Prop))) (fun ⟨v113, A118⟩ => [(2, Pt b7), (3, Pt b13), (4, Pt b19), (5, v113), (6, Ii x25.2), (18, v113), (19, Ii (x25.1.length : Int)), (20, Ii (k35 : Int))]) (fun ⟨v113, A118⟩ => fun w' => Hp w.heap.size A118 w' (o_90 v113 s111 :: obC b19 [.slice none 0 0, .slice none 0 0, .slice none 0 0] 47 :: obC b7 [v_x0, v_x1, v_x2] 47 :: []) ∧ Tr Dw w.heap.size A47 w107 A118 w') ?_ ?_
    ·have hr112 : Tr Dw w.heap.size A47 w107 A47 w107 := Tr.refl (Dw := Dw) hA
     refine Cc (fun hc120 => ?_) fun hc120 => ?_
     ·rw [if_pos hc120] at ho110
      refine C_region_ch (Dw := Dw) A47 14 [(1, 0), (1, 1), (1, 2), (0, 3), (1, 4), (0, 5), (1, 6), (0, 7), (1, 8), (1, 9), (2, 10), (0, 11), (1, 12), (4, 13)] Tryz_mixed (by kernel_rfl) (fun w121 hk122 => ?_)
      have ht123 := Kp.tr hk122 hA hB; replace hH := Hp.kp hH hk122; replace h84 := El.tr h84 ht123; replace h_x2 := Sl.tr h_x2 ht123; replace hr112 := Tt hr112 ht123; replace hB := Bx hB ht123; replace hA := ht123.new
      refine CH_q2 rfl (Qm (VQ_CH (CH_q2 rfl (Qm (VQ_CH (CH_q2 rfl (Qv (fun w' hw' => Y_fieldAddrC (off2 := 2) underlying47 rfl sizeOf45 (by decide) rfl rfl) (VQ_CH (CH_q1 rfl ?_)))))))))
      refine VQ_y (fun w' hw' => Y_load ((World.cell?_of_block (hw'.block _ (World.block_lt_of_cell? _ _ (Hp.cell (j := 2) hH (i := 2) rfl rfl)))).trans (Hp.cell (j := 2) hH (i := 2) rfl rfl)) isAgg45 rfl) rfl rfl rfl ?_
      refine VQ_CH (CH_q2 rfl (Qm (VQ_CH (CH_q1 rfl ?_))))
      obtain ⟨x124, hx124, ho110⟩ := Bs ho110
      refine VQ_indexAddr h_x2 hx124 underlying45 sizeOf90 rfl rfl rfl ?_
      intro b125 o126 h127
      refine VQ_CH (CH_q2 rfl ?_)
      have h128 := El_know_Term_1 h127
      refine Qf underlying90 rfl sizeOf88 (VQ_CH (CH_q1 rfl ?_))
      obtain ⟨v129, h130, h131⟩ := El.list h128
      refine Qc h130 isAgg88 (VQ_CH (CH_q2 rfl ?_))
      have h132 := El_know_Term_1 h84
      refine Qf underlying90 rfl sizeOf88 (VQ_CH (CH_q2 rfl ?_))
      obtain ⟨v133, h134, h135⟩ := El.list h132
      refine Ql (fun w' hw' => ((World.cell?_of_block (hw'.2 _ h132.2.1 h132.1)).trans h134)) isAgg88 (VQ_CH ?_)
      refine CH_l1 (k := 0) rfl ?_
      obtain ⟨x138, hx138, ho110⟩ := Bs ho110
      refine Vc call51 (know_merged_know_Posting_c (Dw := Dw) w121 (B := w121.heap.size) (Nat.le_refl _) hA x124.list_ v129 h131 x68.list_ v133 h135 (fun y157 y158 => know_byId y157 y158) 52 #[] #[] call52 (fun w153 A154 ht155 h156 y141 v142 h143 v144 h145 y146 v147 h148 v149 h150 r151 h152 => (know_byId_c (Dw := Dw) w153 h156 y141 v142 h143 v144 h145 y146 v147 h148 v149 h150  h152).mono (fun _ _ h => ⟨h.1, h.2⟩)) Hp.nil hx138) ?_
      rintro v139 w159 ⟨_, A160, rfl, hH161, ht162⟩
      have hk163 : Kp Dw w121 w159 := ht162.below
      have hH164 := Hp.join (Dw := Dw) hH hB ht162 hH161
      have ht165 := Tr.lower (Dw := Dw) ht162 hB
      replace hr112 := Tt hr112 ht165; replace hB := Bx hB ht165; replace hA := ht165.new
      replace hH : Hp _ _ _ (o_98 v139 x138 :: o_90 v45 s43 :: obC b19 [.slice none 0 0, .slice none 0 0, .slice none 0 0] 47 :: obC b7 [v_x0, v_x1, v_x2] 47 :: []) := hH164
      refine V_CH (hk163) ?_
      refine CH_q1 rfl ?_
      refine VQ_indexAddrH (α := know_Term) (e := 90) (v := v45) (l := s43) hH (i := 1) rfl hx68 underlying45 sizeOf90 rfl rfl rfl ?_
      intro b166 o167 h168 hl169
      refine VQ_CH (CH_q2 rfl ?_)
      have h170 := El_know_Term_1 h168
      refine Qf underlying90 rfl sizeOf88 (VQ_CH ?_)
      refine CH_l1 (k := 2) rfl ?_
      obtain ⟨A171, ht172, h173, hH174⟩ := Hp.freeze (Dw := Dw) (α := know_Posting) (v := v139) (l := x138) hH (i := 0) rfl hA
      replace hr112 := Tt hr112 ht172; replace hB := Bx hB ht172; replace hA := ht172.new
      replace hH : Hp _ _ _ (o_90 v45 s43 :: obC b19 [.slice none 0 0, .slice none 0 0, .slice none 0 0] 47 :: obC b7 [v_x0, v_x1, v_x2] 47 :: []) := hH174
      obtain ⟨x176, hx176, ho110⟩ := Bs ho110
      have h182 : (v139).oneCell' = true := by obtain ⟨_, _, e, _⟩ := Sl.form h173; rw [e]; rfl
      refine V_storeFH (Dw := Dw) (α := know_Term) (e := 90) (v := v45) (l := s43) (foff := 1) hH (i := 0) rfl hl169 hx68 hx176 (fun _ h => by obtain ⟨_, _, rfl, rfl, ⟨v1, rfl, h1⟩⟩ := h; rw [Value.cells_one h182]; exact ⟨[_], _, rfl, rfl, ⟨_, rfl, h173⟩⟩) sizeOf88 (by rw [← Array.length_toList, Value.cells_one h182]; rfl) (by intro u hu; rw [Value.cells_one h182] at hu; simp at hu; subst hu; exact h182) (by decide) hB hA (congrArg (fun z => some (Value.pointer (some ⟨_, z, none⟩))) (by simp [Nat.add_assoc])) rfl ?_
      intro w177 hH178 ht179
      replace hr112 := Tt hr112 ht179
      replace hH : Hp _ _ _ (o_90 v45 x176 :: obC b19 [.slice none 0 0, .slice none 0 0, .slice none 0 0] 47 :: obC b7 [v_x0, v_x1, v_x2] 47 :: []) := hH178
      refine V_CHw ?_
      refine CH_tail ?_
      show V _ _ _ _ [] _ _
      obtain rfl := Oi ho110
      refine V_end (fun a ha183 => ?_)
      exact ⟨(v45, A171), ha183.sb, ⟨hH, hr112⟩⟩
     rw [if_neg (nt hc120)] at ho110
     obtain rfl := Oi ho110
     refine C_skip (fun a ha184 => ?_)
     exact ⟨(v45, A47), ha184.sb, ⟨hH, hr112⟩⟩
    rintro ⟨v113, A118⟩ w115 ⟨hH119, hk116⟩ a ha117
    replace hr60 := Tr.trans hr60 hk116; replace hA := hk116.new
    replace hH : Hp _ _ _ (o_90 v113 s111 :: obC b19 [.slice none 0 0, .slice none 0 0, .slice none 0 0] 47 :: obC b7 [v_x0, v_x1, v_x2] 47 :: []) := hH119
    obtain rfl := Oi ho58
    exact ⟨(v113, A118), ha117.sb, ⟨hH, hr60⟩⟩
   rintro ⟨v61, A66⟩ w63 ⟨hH67, hk64⟩ a ha65
   replace hr34 := Tr.trans hr34 hk64; replace hA := hk64.new
   replace hH : Hp _ _ _ (o_90 v61 s59 :: obC b19 [.slice none 0 0, .slice none 0 0, .slice none 0 0] 47 :: obC b7 [v_x0, v_x1, v_x2] 47 :: []) := hH67
   refine C_at (n := ⟨78, [], none⟩) (fun _ _ => rfl) ?_ ha65
   refine C_region (Vy (Y_addI rfl rfl) (Mm ?_))
   obtain rfl := Oi h50
   refine V_end (fun a ha186 => ?_)
   exact ⟨s59, hlt53, h51, ⟨(v61, A66), ha186.sub ⟨rfl, rfl, rfl, rfl, rfl, rfl, rfl, Ws hlt53 hn56, trivial⟩, ⟨hH, hr34⟩⟩⟩
  refine C_exit (fun a ha187 => ?_)
  exact ⟨(s43, v45, A47), ha187.sb, ⟨(h54 (eq_of_dec hle52 hc57)).symm, hH, hr34⟩⟩
 rintro ⟨s33, v39, A41⟩ w36 ⟨rfl, hH42, hk37⟩ a ha38
 rw [Lp.andThen_fin] at hm
 replace h16 := El.tr h16 hk37; replace h_x0 := Sl.tr h_x0 hk37; replace h_x1 := Sl.tr h_x1 hk37; replace h_x2 := Sl.tr h_x2 hk37; replace hK := Tr.trans hK hk37; replace hB := Nat.le_trans hB hk37.ex.size; replace hA := hk37.new
 replace hH : Hp _ _ _ (o_90 v39 s33 :: obC b19 [.slice none 0 0, .slice none 0 0, .slice none 0 0] 47 :: obC b7 [v_x0, v_x1, v_x2] 47 :: []) := hH42
 refine C_at (n := ⟨78, [], none⟩) (fun _ _ => rfl) ?_ ha38
 refine Sr (Vy (Y_fieldAddrC (off2 := 0) underlying47 rfl sizeOf23 (by decide) rfl rfl) (Ld (Hp.cell (j := 0) hH (i := 2) rfl rfl) isAgg23 ?_))
 have h189 := El_know_Entry_0 h16
 refine Fa underlying58 rfl sizeOf3 (Li h189 isAgg3 ?_)
 obtain ⟨x190, hx190, hm⟩ := Bs hm
 refine Vc call53 (slices_BinarySearch_Lint_int_c w36 x.ids v_x0 h_x0 v.id_ hx190) ?_
 rintro _ _ ⟨rfl, rfl⟩
 refine Mm (Vy (Y_extract rfl rfl) (Vy (Y_extract rfl rfl) (As (As (To ?_)))))
 refine C_seq ?_
 refine C_region_chy (Dw := Dw) A41 6 [5, 4] [(1, 0), (0, 1), (1, 3), (1, 4), (1, 5), (2, 2)] [(4, 7), (1, 8), (4, 9)] Tryz_mixed (by kernel_rfl) (fun w191 hk192 => ?_)
 have ht193 := Kp.tr hk192 hA hB; replace hH := Hp.kp hH hk192; replace h16 := El.tr h16 ht193; replace h_x0 := Sl.tr h_x0 ht193; replace h_x1 := Sl.tr h_x1 ht193; replace h_x2 := Sl.tr h_x2 ht193; replace hK := Tt hK ht193; replace hB := Bx hB ht193; replace hA := ht193.new
 refine CHZ_q2 rfl (Qv (fun w' hw' => Y_fieldAddrC (off2 := 0) underlying47 rfl sizeOf23 (by decide) rfl rfl) (VQ_CHZ (CHZ_q1 rfl ?_)))
 refine VQ_y (fun w' hw' => Y_load ((World.cell?_of_block (hw'.block _ (World.block_lt_of_cell? _ _ (Hp.cell (j := 0) hH (i := 2) rfl rfl)))).trans (Hp.cell (j := 0) hH (i := 2) rfl rfl)) isAgg23 rfl) rfl rfl rfl ?_
 refine VQ_CHZ (CHZ_q2 rfl (Qm (VQ_CHZ (CHZ_q2 rfl ?_))))
 have h194 := El_know_Entry_0 h16
 refine Qf underlying58 rfl sizeOf3 (VQ_CHZ (CHZ_q2 rfl (Ql (fun w' hw' => (El.int (El.keep h194 (XA.ex hw')))) isAgg3 (VQ_CHZ ?_))))
 refine CHZ_l1 (k := 0) [(2, 6), (2, 2), (4, 7), (1, 8), (4, 9)] rfl ?_ rfl ?_
 ·refine CH_l1 (k := 0) rfl ?_
  refine V_buildOwnHk (Dw := Dw) (l := ([v.id_] : List Int)) (len := 1) hH underlying23 sizeOf3 zeroValue3 rfl (by with_unfolding_all rfl) (show (1 * 1 : Nat) ≠ 0 by decide) (show (1 * 1 : Nat) ≤ 2 ^ 24 by decide) hB hA ⟨[Ii v.id_], _, rfl, rfl, rfl⟩ rfl rfl ?_
  intro v195 w196 A199 hk198 hH201 ht200
  replace h_x0 := Sl.tr h_x0 ht200; replace h_x1 := Sl.tr h_x1 ht200; replace h_x2 := Sl.tr h_x2 ht200; replace hK := Tt hK ht200; replace hB := Bx hB ht200; replace hA := ht200.new
  replace hH : Hp _ _ _ (o_3 v195 ([v.id_] : List Int) :: o_90 v39 s33 :: obC b19 [.slice none 0 0, .slice none 0 0, .slice none 0 0] 47 :: obC b7 [v_x0, v_x1, v_x2] 47 :: []) := hH201
  refine V_CH (hk198) ?_
  refine CH_l1 (k := 0) rfl ?_
  obtain ⟨x202, hx202, hm⟩ := Bs hm
  refine Vc call55 (slices_Clone_Lint_int_c (Dw := Dw) w196 hA x.ids v_x0 h_x0 hx202) ?_
  rintro v203 w205 ⟨_, rfl, h204, hk206⟩
  obtain ⟨A207, ht208, hH209⟩ := Hp.addOwnd (Dw := Dw) hH hB hA hk206 h204
  replace h_x1 := Sl.tr h_x1 ht208; replace h_x2 := Sl.tr h_x2 ht208; replace hK := Tt hK ht208; replace hB := Bx hB ht208; replace hA := ht208.new
  replace hH : Hp _ _ _ (o_3 v203 x202 :: o_3 v195 ([v.id_] : List Int) :: o_90 v39 s33 :: obC b19 [.slice none 0 0, .slice none 0 0, .slice none 0 0] 47 :: obC b7 [v_x0, v_x1, v_x2] 47 :: []) := hH209
  refine V_CH (hk206) ?_
  refine CH_l1 (k := 2) rfl ?_
  replace hH : Hp w.heap.size A207 w205 (o_3 v195 ([v.id_] : List Int) :: o_3 v203 x202 :: o_90 v39 s33 :: obC b19 [.slice none 0 0, .slice none 0 0, .slice none 0 0] 47 :: obC b7 [v_x0, v_x1, v_x2] 47 :: []) := Hp.front hH (i := 1) rfl
  obtain ⟨x210, hx210, hm⟩ := Bs hm
  refine Vc call54 (slices_Insert_Lint_int_c (Dw := Dw) w205 x190.1 hH (i := 0) rfl hB hA hx210) ?_
  rintro v211 w212 ⟨_, A213, rfl, hH214, ht215⟩
  replace h_x1 := Sl.tr h_x1 ht215; replace h_x2 := Sl.tr h_x2 ht215; replace hK := Tt hK ht215; replace hB := Bx hB ht215; replace hA := ht215.new
  replace hH : Hp _ _ _ (o_3 v211 x210 :: o_90 v39 s33 :: obC b19 [.slice none 0 0, .slice none 0 0, .slice none 0 0] 47 :: obC b7 [v_x0, v_x1, v_x2] 47 :: []) := hH214
  refine V_CHw ?_
  refine CH_q2 rfl (Qv (fun w' hw' => Y_fieldAddrC (off2 := 0) underlying47 rfl sizeOf23 (by decide) rfl rfl) (VQ_CH ?_))
  refine CH_l1 (k := 2) rfl ?_
  obtain ⟨A216, ht217, h218, hH219⟩ := Hp.freeze (Dw := Dw) (α := Int) (v := v211) (l := x210) hH (i := 0) rfl hA
  replace h_x1 := Sl.tr h_x1 ht217; replace h_x2 := Sl.tr h_x2 ht217; replace hK := Tt hK ht217; replace hB := Bx hB ht217; replace hA := ht217.new
  replace hH : Hp _ _ _ (o_90 v39 s33 :: obC b19 [.slice none 0 0, .slice none 0 0, .slice none 0 0] 47 :: obC b7 [v_x0, v_x1, v_x2] 47 :: []) := hH219
  have h226 : (v211).oneCell' = true := by obtain ⟨_, _, e, _⟩ := Sl.form h218; rw [e]; rfl
  refine V_storeC (Dw := Dw) (off := 0) (ds := [v211, v_x1, v_x2]) hH (i := 2) rfl sizeOf23 (by show (v211 : Value).cells.size = _; rw [← Array.length_toList, Value.cells_one h226]; rfl) (Nat.le_of_ble_eq_true rfl) (by intro u hu; change u ∈ (v211 : Value).cells.toList at hu; rw [Value.cells_one h226] at hu; simp at hu; subst hu; assumption) (by show _ ++ (v211 : Value).cells.toList ++ _ = _; rw [Value.cells_one h226]; rfl) hB hA rfl rfl ?_
  intro w221 hH222 ht223
  replace h218 := Sl.tr h218 ht223; replace h_x1 := Sl.tr h_x1 ht223; replace h_x2 := Sl.tr h_x2 ht223; replace hK := Tt hK ht223; replace hB := Bx hB ht223; replace hA := ht223.new
  replace hH : Hp _ _ _ (o_90 v39 s33 :: obC b19 [.slice none 0 0, .slice none 0 0, .slice none 0 0] 47 :: obC b7 [v211, v_x1, v_x2] 47 :: []) := hH222
  refine V_CHw ?_
  refine CH_tail ?_
  show V _ _ _ _ [] _ _
  refine To ?_
  refine Sr (Vy (Y_fieldAddrC (off2 := 1) underlying47 rfl sizeOf23 (by decide) rfl rfl) (Ld (Hp.cell (j := 1) hH (i := 2) rfl rfl) isAgg23 ?_))
  obtain ⟨x227, hx227, hm⟩ := Bs hm
  refine Vc call55 (slices_Clone_Lint_int_c (Dw := Dw) w221 hA x.sizes v_x1 h_x1 hx227) ?_
  rintro v228 w230 ⟨_, rfl, h229, hk231⟩
  obtain ⟨A232, ht233, hH234⟩ := Hp.addOwnd (Dw := Dw) hH hB hA hk231 h229
  replace h218 := Sl.tr h218 ht233; replace h_x2 := Sl.tr h_x2 ht233; replace hK := Tt hK ht233; replace hB := Bx hB ht233; replace hA := ht233.new
  replace hH : Hp _ _ _ (o_3 v228 x227 :: o_90 v39 s33 :: obC b19 [.slice none 0 0, .slice none 0 0, .slice none 0 0] 47 :: obC b7 [v211, v_x1, v_x2] 47 :: []) := hH234
  refine Mm (Mm ?_)
  refine V_buildOwnH (Dw := Dw) (l := ([x25.2] : List Int)) (len := 1) hH underlying23 sizeOf3 zeroValue3 rfl (by with_unfolding_all rfl) (show (1 * 1 : Nat) ≠ 0 by decide) (show (1 * 1 : Nat) ≤ 2 ^ 24 by decide) hB hA ⟨[Ii x25.2], _, rfl, rfl, rfl⟩ rfl rfl ?_
  intro v235 w236 A239 hH241 ht240
  replace h218 := Sl.tr h218 ht240; replace h_x2 := Sl.tr h_x2 ht240; replace hK := Tt hK ht240; replace hB := Bx hB ht240; replace hA := ht240.new
  replace hH : Hp _ _ _ (o_3 v235 ([x25.2] : List Int) :: o_3 v228 x227 :: o_90 v39 s33 :: obC b19 [.slice none 0 0, .slice none 0 0, .slice none 0 0] 47 :: obC b7 [v211, v_x1, v_x2] 47 :: []) := hH241
  obtain ⟨x242, hx242, hm⟩ := Bs hm
  refine Vc call54 (slices_Insert_Lint_int_c (Dw := Dw) w236 x190.1 hH (i := 0) rfl hB hA hx242) ?_
  rintro v243 w244 ⟨_, A245, rfl, hH246, ht247⟩
  replace h218 := Sl.tr h218 ht247; replace h_x2 := Sl.tr h_x2 ht247; replace hK := Tt hK ht247; replace hB := Bx hB ht247; replace hA := ht247.new
  replace hH : Hp _ _ _ (o_3 v243 x242 :: o_90 v39 s33 :: obC b19 [.slice none 0 0, .slice none 0 0, .slice none 0 0] 47 :: obC b7 [v211, v_x1, v_x2] 47 :: []) := hH246
  refine Vy (Y_fieldAddrC (off2 := 1) underlying47 rfl sizeOf23 (by decide) rfl rfl) ?_
  obtain ⟨A248, ht249, h250, hH251⟩ := Hp.freeze (Dw := Dw) (α := Int) (v := v243) (l := x242) hH (i := 0) rfl hA
  replace h218 := Sl.tr h218 ht249; replace h_x2 := Sl.tr h_x2 ht249; replace hK := Tt hK ht249; replace hB := Bx hB ht249; replace hA := ht249.new
  replace hH : Hp _ _ _ (o_90 v39 s33 :: obC b19 [.slice none 0 0, .slice none 0 0, .slice none 0 0] 47 :: obC b7 [v211, v_x1, v_x2] 47 :: []) := hH251
  have h258 : (v243).oneCell' = true := by obtain ⟨_, _, e, _⟩ := Sl.form h250; rw [e]; rfl
  refine V_storeC (Dw := Dw) (off := 1) (ds := [v211, v243, v_x2]) hH (i := 2) rfl sizeOf23 (by show (v243 : Value).cells.size = _; rw [← Array.length_toList, Value.cells_one h258]; rfl) (Nat.le_of_ble_eq_true rfl) (by intro u hu; change u ∈ (v243 : Value).cells.toList at hu; rw [Value.cells_one h258] at hu; simp at hu; subst hu; assumption) (by show _ ++ (v243 : Value).cells.toList ++ _ = _; rw [Value.cells_one h258]; rfl) hB hA rfl rfl ?_
  intro w253 hH254 ht255
  replace h250 := Sl.tr h250 ht255; replace h218 := Sl.tr h218 ht255; replace h_x2 := Sl.tr h_x2 ht255; replace hK := Tt hK ht255; replace hB := Bx hB ht255; replace hA := ht255.new
  replace hH : Hp _ _ _ (o_90 v39 s33 :: obC b19 [.slice none 0 0, .slice none 0 0, .slice none 0 0] 47 :: obC b7 [v211, v243, v_x2] 47 :: []) := hH254
  refine To ?_
  refine Sr (Vy (Y_fieldAddrC (off2 := 2) underlying47 rfl sizeOf45 (by decide) rfl rfl) (Ld (Hp.cell (j := 2) hH (i := 2) rfl rfl) isAgg45 (Mm ?_)))
  obtain ⟨A259, ht260, h261, hH262⟩ := Hp.freeze (Dw := Dw) (α := know_Term) (v := v39) (l := s33) hH (i := 0) rfl hA
  replace h_x2 := Sl.tr h_x2 ht260; replace h218 := Sl.tr h218 ht260; replace h250 := Sl.tr h250 ht260; replace hK := Tt hK ht260; replace hB := Bx hB ht260; replace hA := ht260.new
  replace hH : Hp _ _ _ (obC b19 [.slice none 0 0, .slice none 0 0, .slice none 0 0] 47 :: obC b7 [v211, v243, v_x2] 47 :: []) := hH262
  obtain ⟨x266, hx266, hm⟩ := Bs hm
  refine Vc call56 (know_merged_know_Term_c (Dw := Dw) w253 hB hA x.terms v_x2 h_x2 s33 v39 h261 (fun y281 y282 => know_byWord y281 y282) 40 #[] #[] call40 (fun w277 A278 ht279 h280 y269 v270 h271 y272 v273 h274 r275 h276 => (know_byWord_c (Dw := Dw) w277 h280 y269 v270 h271 y272 v273 h274  h276).mono (fun _ _ h => ⟨h.1, h.2⟩)) hH hx266) ?_
  rintro v267 w283 ⟨_, A284, rfl, hH285, ht286⟩
  replace h218 := Sl.tr h218 ht286; replace h250 := Sl.tr h250 ht286; replace hK := Tt hK ht286; replace hB := Bx hB ht286; replace hA := ht286.new
  replace hH : Hp _ _ _ (o_90 v267 x266 :: obC b19 [.slice none 0 0, .slice none 0 0, .slice none 0 0] 47 :: obC b7 [v211, v243, v_x2] 47 :: []) := hH285
  refine Vy (Y_fieldAddrC (off2 := 2) underlying47 rfl sizeOf45 (by decide) rfl rfl) ?_
  obtain ⟨A287, ht288, h289, hH290⟩ := Hp.freeze (Dw := Dw) (α := know_Term) (v := v267) (l := x266) hH (i := 0) rfl hA
  replace h218 := Sl.tr h218 ht288; replace h250 := Sl.tr h250 ht288; replace hK := Tt hK ht288; replace hB := Bx hB ht288; replace hA := ht288.new
  replace hH : Hp _ _ _ (obC b19 [.slice none 0 0, .slice none 0 0, .slice none 0 0] 47 :: obC b7 [v211, v243, v_x2] 47 :: []) := hH290
  have h297 : (v267).oneCell' = true := by obtain ⟨_, _, e, _⟩ := Sl.form h289; rw [e]; rfl
  refine V_storeC (Dw := Dw) (off := 2) (ds := [v211, v243, v267]) hH (i := 1) rfl sizeOf45 (by show (v267 : Value).cells.size = _; rw [← Array.length_toList, Value.cells_one h297]; rfl) (Nat.le_of_ble_eq_true rfl) (by intro u hu; change u ∈ (v267 : Value).cells.toList at hu; rw [Value.cells_one h297] at hu; simp at hu; subst hu; assumption) (by show _ ++ (v267 : Value).cells.toList ++ _ = _; rw [Value.cells_one h297]; rfl) hB hA rfl rfl ?_
  intro w292 hH293 ht294
  replace h289 := Sl.tr h289 ht294; replace h218 := Sl.tr h218 ht294; replace h250 := Sl.tr h250 ht294; replace hK := Tt hK ht294; replace hB := Bx hB ht294; replace hA := ht294.new
  replace hH : Hp _ _ _ (obC b19 [.slice none 0 0, .slice none 0 0, .slice none 0 0] 47 :: obC b7 [v211, v243, v267] 47 :: []) := hH293
  refine To ?_
  refine Sr (Vy (Y_loadA (Hp.part (off := 0) (n := 3) (ds := [v211, v243, v267]) hH (i := 1) rfl rfl) isAgg47 sizeOf47 rfl) ?_)
  have h303 : (v211).oneCell' = true := by obtain ⟨_, _, e, _⟩ := Sl.form h218; rw [e]; rfl
  have h306 : (v243).oneCell' = true := by obtain ⟨_, _, e, _⟩ := Sl.form h250; rw [e]; rfl
  have h309 : (v267).oneCell' = true := by obtain ⟨_, _, e, _⟩ := Sl.form h289; rw [e]; rfl
  refine V_storeC (Dw := Dw) (off := 0) (ds := [v211, v243, v267]) hH (i := 0) rfl sizeOf47 rfl (Nat.le_of_ble_eq_true rfl) (by exact (List.forall_mem_cons.2 ⟨h303, (List.forall_mem_cons.2 ⟨h306, (List.forall_mem_cons.2 ⟨h309, (fun _ h => nomatch h)⟩)⟩)⟩)) rfl hB hA rfl rfl ?_
  intro w298 hH299 ht300
  replace h218 := Sl.tr h218 ht300; replace h250 := Sl.tr h250 ht300; replace h289 := Sl.tr h289 ht300; replace hK := Tt hK ht300
  replace hH : Hp _ _ _ (obC b19 [v211, v243, v267] 47 :: obC b7 [v211, v243, v267] 47 :: []) := hH299
  refine To ?_
  obtain rfl := Oi hm
  refine C_ret ?_
  try simp only [↓ib, ↓th]
  exact retQ rfl (Res.l1 results27 (RL.cell rfl (loadVar_agg (Hp.part (off := 0) (n := 3) (ds := [v211, v243, v267]) hH (i := 0) rfl rfl) isAgg47 sizeOf47))) ⟨v211, v243, v267, rfl, (Sl.out (Dw := Dw) h218 hA0 hK), (Sl.out (Dw := Dw) h250 hA0 hK), (Sl.out (Dw := Dw) h289 hA0 hK), hK.kp⟩
 obtain ⟨x310, hx310, hm⟩ := Bs hm
 refine Vc call55 (slices_Clone_Lint_int_c (Dw := Dw) w191 hA x.ids v_x0 h_x0 hx310) ?_
 rintro v311 w313 ⟨_, rfl, h312, hk314⟩
 obtain ⟨A315, ht316, hH317⟩ := Hp.addOwnd (Dw := Dw) hH hB hA hk314 h312
 replace h_x1 := Sl.tr h_x1 ht316; replace h_x2 := Sl.tr h_x2 ht316; replace hK := Tt hK ht316; replace hB := Bx hB ht316; replace hA := ht316.new
 replace hH : Hp _ _ _ (o_3 v311 x310 :: o_90 v39 s33 :: obC b19 [.slice none 0 0, .slice none 0 0, .slice none 0 0] 47 :: obC b7 [v_x0, v_x1, v_x2] 47 :: []) := hH317
 refine V_CHZ (hk314) ?_
 refine CHZ_nil ?_
 refine CH_l1 (k := 0) rfl ?_
 refine V_buildOwnHk (Dw := Dw) (l := ([v.id_] : List Int)) (len := 1) hH underlying23 sizeOf3 zeroValue3 rfl (by with_unfolding_all rfl) (show (1 * 1 : Nat) ≠ 0 by decide) (show (1 * 1 : Nat) ≤ 2 ^ 24 by decide) hB hA ⟨[Ii v.id_], _, rfl, rfl, rfl⟩ rfl rfl ?_
 intro v318 w319 A322 hk321 hH324 ht323
 replace h_x1 := Sl.tr h_x1 ht323; replace h_x2 := Sl.tr h_x2 ht323; replace hK := Tt hK ht323; replace hB := Bx hB ht323; replace hA := ht323.new
 replace hH : Hp _ _ _ (o_3 v318 ([v.id_] : List Int) :: o_3 v311 x310 :: o_90 v39 s33 :: obC b19 [.slice none 0 0, .slice none 0 0, .slice none 0 0] 47 :: obC b7 [v_x0, v_x1, v_x2] 47 :: []) := hH324
 refine V_CH (hk321) ?_
 refine CH_l1 (k := 2) rfl ?_
 obtain ⟨x325, hx325, hm⟩ := Bs hm
 refine Vc call54 (slices_Insert_Lint_int_c (Dw := Dw) w319 x190.1 hH (i := 0) rfl hB hA hx325) ?_
 rintro v326 w327 ⟨_, A328, rfl, hH329, ht330⟩
 replace h_x1 := Sl.tr h_x1 ht330; replace h_x2 := Sl.tr h_x2 ht330; replace hK := Tt hK ht330; replace hB := Bx hB ht330; replace hA := ht330.new
 replace hH : Hp _ _ _ (o_3 v326 x325 :: o_90 v39 s33 :: obC b19 [.slice none 0 0, .slice none 0 0, .slice none 0 0] 47 :: obC b7 [v_x0, v_x1, v_x2] 47 :: []) := hH329
 refine V_CHw ?_
 refine CH_q2 rfl (Qv (fun w' hw' => Y_fieldAddrC (off2 := 0) underlying47 rfl sizeOf23 (by decide) rfl rfl) (VQ_CH ?_))
 refine CH_l1 (k := 2) rfl ?_
 obtain ⟨A331, ht332, h333, hH334⟩ := Hp.freeze (Dw := Dw) (α := Int) (v := v326) (l := x325) hH (i := 0) rfl hA
 replace h_x1 := Sl.tr h_x1 ht332; replace h_x2 := Sl.tr h_x2 ht332; replace hK := Tt hK ht332; replace hB := Bx hB ht332; replace hA := ht332.new
 replace hH : Hp _ _ _ (o_90 v39 s33 :: obC b19 [.slice none 0 0, .slice none 0 0, .slice none 0 0] 47 :: obC b7 [v_x0, v_x1, v_x2] 47 :: []) := hH334
 have h341 : (v326).oneCell' = true := by obtain ⟨_, _, e, _⟩ := Sl.form h333; rw [e]; rfl
 refine V_storeC (Dw := Dw) (off := 0) (ds := [v326, v_x1, v_x2]) hH (i := 2) rfl sizeOf23 (by show (v326 : Value).cells.size = _; rw [← Array.length_toList, Value.cells_one h341]; rfl) (Nat.le_of_ble_eq_true rfl) (by intro u hu; change u ∈ (v326 : Value).cells.toList at hu; rw [Value.cells_one h341] at hu; simp at hu; subst hu; assumption) (by show _ ++ (v326 : Value).cells.toList ++ _ = _; rw [Value.cells_one h341]; rfl) hB hA rfl rfl ?_
 intro w336 hH337 ht338
 replace h333 := Sl.tr h333 ht338; replace h_x1 := Sl.tr h_x1 ht338; replace h_x2 := Sl.tr h_x2 ht338; replace hK := Tt hK ht338; replace hB := Bx hB ht338; replace hA := ht338.new
 replace hH : Hp _ _ _ (o_90 v39 s33 :: obC b19 [.slice none 0 0, .slice none 0 0, .slice none 0 0] 47 :: obC b7 [v326, v_x1, v_x2] 47 :: []) := hH337
 refine V_CHw ?_
 refine CH_tail ?_
 show V _ _ _ _ [] _ _
 refine To ?_
 refine Sr (Vy (Y_fieldAddrC (off2 := 1) underlying47 rfl sizeOf23 (by decide) rfl rfl) (Ld (Hp.cell (j := 1) hH (i := 2) rfl rfl) isAgg23 ?_))
 obtain ⟨x342, hx342, hm⟩ := Bs hm
 refine Vc call55 (slices_Clone_Lint_int_c (Dw := Dw) w336 hA x.sizes v_x1 h_x1 hx342) ?_
 rintro v343 w345 ⟨_, rfl, h344, hk346⟩
 obtain ⟨A347, ht348, hH349⟩ := Hp.addOwnd (Dw := Dw) hH hB hA hk346 h344
 replace h333 := Sl.tr h333 ht348; replace h_x2 := Sl.tr h_x2 ht348; replace hK := Tt hK ht348; replace hB := Bx hB ht348; replace hA := ht348.new
 replace hH : Hp _ _ _ (o_3 v343 x342 :: o_90 v39 s33 :: obC b19 [.slice none 0 0, .slice none 0 0, .slice none 0 0] 47 :: obC b7 [v326, v_x1, v_x2] 47 :: []) := hH349
 refine Mm (Mm ?_)
 refine V_buildOwnH (Dw := Dw) (l := ([x25.2] : List Int)) (len := 1) hH underlying23 sizeOf3 zeroValue3 rfl (by with_unfolding_all rfl) (show (1 * 1 : Nat) ≠ 0 by decide) (show (1 * 1 : Nat) ≤ 2 ^ 24 by decide) hB hA ⟨[Ii x25.2], _, rfl, rfl, rfl⟩ rfl rfl ?_
 intro v350 w351 A354 hH356 ht355
 replace h333 := Sl.tr h333 ht355; replace h_x2 := Sl.tr h_x2 ht355; replace hK := Tt hK ht355; replace hB := Bx hB ht355; replace hA := ht355.new
 replace hH : Hp _ _ _ (o_3 v350 ([x25.2] : List Int) :: o_3 v343 x342 :: o_90 v39 s33 :: obC b19 [.slice none 0 0, .slice none 0 0, .slice none 0 0] 47 :: obC b7 [v326, v_x1, v_x2] 47 :: []) := hH356
 obtain ⟨x357, hx357, hm⟩ := Bs hm
 refine Vc call54 (slices_Insert_Lint_int_c (Dw := Dw) w351 x190.1 hH (i := 0) rfl hB hA hx357) ?_
 rintro v358 w359 ⟨_, A360, rfl, hH361, ht362⟩
 replace h333 := Sl.tr h333 ht362; replace h_x2 := Sl.tr h_x2 ht362; replace hK := Tt hK ht362; replace hB := Bx hB ht362; replace hA := ht362.new
 replace hH : Hp _ _ _ (o_3 v358 x357 :: o_90 v39 s33 :: obC b19 [.slice none 0 0, .slice none 0 0, .slice none 0 0] 47 :: obC b7 [v326, v_x1, v_x2] 47 :: []) := hH361
 refine Vy (Y_fieldAddrC (off2 := 1) underlying47 rfl sizeOf23 (by decide) rfl rfl) ?_
 obtain ⟨A363, ht364, h365, hH366⟩ := Hp.freeze (Dw := Dw) (α := Int) (v := v358) (l := x357) hH (i := 0) rfl hA
 replace h333 := Sl.tr h333 ht364; replace h_x2 := Sl.tr h_x2 ht364; replace hK := Tt hK ht364; replace hB := Bx hB ht364; replace hA := ht364.new
 replace hH : Hp _ _ _ (o_90 v39 s33 :: obC b19 [.slice none 0 0, .slice none 0 0, .slice none 0 0] 47 :: obC b7 [v326, v_x1, v_x2] 47 :: []) := hH366
 have h373 : (v358).oneCell' = true := by obtain ⟨_, _, e, _⟩ := Sl.form h365; rw [e]; rfl
 refine V_storeC (Dw := Dw) (off := 1) (ds := [v326, v358, v_x2]) hH (i := 2) rfl sizeOf23 (by show (v358 : Value).cells.size = _; rw [← Array.length_toList, Value.cells_one h373]; rfl) (Nat.le_of_ble_eq_true rfl) (by intro u hu; change u ∈ (v358 : Value).cells.toList at hu; rw [Value.cells_one h373] at hu; simp at hu; subst hu; assumption) (by show _ ++ (v358 : Value).cells.toList ++ _ = _; rw [Value.cells_one h373]; rfl) hB hA rfl rfl ?_
 intro w368 hH369 ht370
 replace h365 := Sl.tr h365 ht370; replace h333 := Sl.tr h333 ht370; replace h_x2 := Sl.tr h_x2 ht370; replace hK := Tt hK ht370; replace hB := Bx hB ht370; replace hA := ht370.new
 replace hH : Hp _ _ _ (o_90 v39 s33 :: obC b19 [.slice none 0 0, .slice none 0 0, .slice none 0 0] 47 :: obC b7 [v326, v358, v_x2] 47 :: []) := hH369
 refine To ?_
 refine Sr (Vy (Y_fieldAddrC (off2 := 2) underlying47 rfl sizeOf45 (by decide) rfl rfl) (Ld (Hp.cell (j := 2) hH (i := 2) rfl rfl) isAgg45 (Mm ?_)))
 obtain ⟨A374, ht375, h376, hH377⟩ := Hp.freeze (Dw := Dw) (α := know_Term) (v := v39) (l := s33) hH (i := 0) rfl hA
 replace h_x2 := Sl.tr h_x2 ht375; replace h333 := Sl.tr h333 ht375; replace h365 := Sl.tr h365 ht375; replace hK := Tt hK ht375; replace hB := Bx hB ht375; replace hA := ht375.new
 replace hH : Hp _ _ _ (obC b19 [.slice none 0 0, .slice none 0 0, .slice none 0 0] 47 :: obC b7 [v326, v358, v_x2] 47 :: []) := hH377
 obtain ⟨x381, hx381, hm⟩ := Bs hm
 refine Vc call56 (know_merged_know_Term_c (Dw := Dw) w368 hB hA x.terms v_x2 h_x2 s33 v39 h376 (fun y396 y397 => know_byWord y396 y397) 40 #[] #[] call40 (fun w392 A393 ht394 h395 y384 v385 h386 y387 v388 h389 r390 h391 => (know_byWord_c (Dw := Dw) w392 h395 y384 v385 h386 y387 v388 h389  h391).mono (fun _ _ h => ⟨h.1, h.2⟩)) hH hx381) ?_
 rintro v382 w398 ⟨_, A399, rfl, hH400, ht401⟩
 replace h333 := Sl.tr h333 ht401; replace h365 := Sl.tr h365 ht401; replace hK := Tt hK ht401; replace hB := Bx hB ht401; replace hA := ht401.new
 replace hH : Hp _ _ _ (o_90 v382 x381 :: obC b19 [.slice none 0 0, .slice none 0 0, .slice none 0 0] 47 :: obC b7 [v326, v358, v_x2] 47 :: []) := hH400
 refine Vy (Y_fieldAddrC (off2 := 2) underlying47 rfl sizeOf45 (by decide) rfl rfl) ?_
 obtain ⟨A402, ht403, h404, hH405⟩ := Hp.freeze (Dw := Dw) (α := know_Term) (v := v382) (l := x381) hH (i := 0) rfl hA
 replace h333 := Sl.tr h333 ht403; replace h365 := Sl.tr h365 ht403; replace hK := Tt hK ht403; replace hB := Bx hB ht403; replace hA := ht403.new
 replace hH : Hp _ _ _ (obC b19 [.slice none 0 0, .slice none 0 0, .slice none 0 0] 47 :: obC b7 [v326, v358, v_x2] 47 :: []) := hH405
 have h412 : (v382).oneCell' = true := by obtain ⟨_, _, e, _⟩ := Sl.form h404; rw [e]; rfl
 refine V_storeC (Dw := Dw) (off := 2) (ds := [v326, v358, v382]) hH (i := 1) rfl sizeOf45 (by show (v382 : Value).cells.size = _; rw [← Array.length_toList, Value.cells_one h412]; rfl) (Nat.le_of_ble_eq_true rfl) (by intro u hu; change u ∈ (v382 : Value).cells.toList at hu; rw [Value.cells_one h412] at hu; simp at hu; subst hu; assumption) (by show _ ++ (v382 : Value).cells.toList ++ _ = _; rw [Value.cells_one h412]; rfl) hB hA rfl rfl ?_
 intro w407 hH408 ht409
 replace h404 := Sl.tr h404 ht409; replace h333 := Sl.tr h333 ht409; replace h365 := Sl.tr h365 ht409; replace hK := Tt hK ht409; replace hB := Bx hB ht409; replace hA := ht409.new
 replace hH : Hp _ _ _ (obC b19 [.slice none 0 0, .slice none 0 0, .slice none 0 0] 47 :: obC b7 [v326, v358, v382] 47 :: []) := hH408
 refine To ?_
 refine Sr (Vy (Y_loadA (Hp.part (off := 0) (n := 3) (ds := [v326, v358, v382]) hH (i := 1) rfl rfl) isAgg47 sizeOf47 rfl) ?_)
 have h418 : (v326).oneCell' = true := by obtain ⟨_, _, e, _⟩ := Sl.form h333; rw [e]; rfl
 have h421 : (v358).oneCell' = true := by obtain ⟨_, _, e, _⟩ := Sl.form h365; rw [e]; rfl
 have h424 : (v382).oneCell' = true := by obtain ⟨_, _, e, _⟩ := Sl.form h404; rw [e]; rfl
 refine V_storeC (Dw := Dw) (off := 0) (ds := [v326, v358, v382]) hH (i := 0) rfl sizeOf47 rfl (Nat.le_of_ble_eq_true rfl) (by exact (List.forall_mem_cons.2 ⟨h418, (List.forall_mem_cons.2 ⟨h421, (List.forall_mem_cons.2 ⟨h424, (fun _ h => nomatch h)⟩)⟩)⟩)) rfl hB hA rfl rfl ?_
 intro w413 hH414 ht415
 replace h333 := Sl.tr h333 ht415; replace h365 := Sl.tr h365 ht415; replace h404 := Sl.tr h404 ht415; replace hK := Tt hK ht415
 replace hH : Hp _ _ _ (obC b19 [v326, v358, v382] 47 :: obC b7 [v326, v358, v382] 47 :: []) := hH414
 refine To ?_
 obtain rfl := Oi hm
 refine C_ret ?_
 try simp only [↓ib, ↓th]
 exact retQ rfl (Res.l1 results27 (RL.cell rfl (loadVar_agg (Hp.part (off := 0) (n := 3) (ds := [v326, v358, v382]) hH (i := 0) rfl rfl) isAgg47 sizeOf47))) ⟨v326, v358, v382, rfl, (Sl.out (Dw := Dw) h333 hA0 hK), (Sl.out (Dw := Dw) h365 hA0 hK), (Sl.out (Dw := Dw) h404 hA0 hK), hK.kp⟩
end Go.Proofs.YtjdjmddclfhpeaaGreatDoor.W
