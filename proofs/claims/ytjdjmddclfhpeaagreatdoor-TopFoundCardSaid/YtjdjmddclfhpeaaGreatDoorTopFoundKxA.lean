import Derived.Test.YtjdjmddclfhpeaaGreatDoorTopFoundM
import Derived.Test.YtjdjmddclfhpeaaGreatDoorPu
import Derived.Lib.Bytealg
import Derived.Lib.Join
import Derived.Lib.Split
import Derived.Lib.IndexBytes
import Derived.Lib.Replace
import Derived.Shelf.GgClosure.StringsIndexFunc
import Derived.Test.YtjdjmddclfhpeaaGreatDoorPr
import Derived.Lib.SlicesCompact
import Derived.Lib.SlTrimSet
import Derived.Test.YtjdjmddclfhpeaaGreatDoorPj
import Derived.Test.YtjdjmddclfhpeaaGreatDoorPl
import Derived.KernelRfl
import Derived.Lib.IndexLaws
import Derived.Lib.SplitLaws
namespace Go.Proofs.YtjdjmddclfhpeaaGreatDoor.M
open Go Go.Pu
set_option linter.unusedVariables false
set_option linter.unusedSimpArgs false
def portref2_isWordByte (b : Int) : Bool :=
 (((((decide ((97 : Int) ≤ b)) && (decide (b ≤ 122))) || ((decide ((65 : Int) ≤ b)) && (decide (b ≤ 90)))) || ((decide ((48 : Int) ≤ b)) && (decide (b ≤ 57)))) || (decide ((128 : Int) ≤ b)))
def portref2_lower (s : ByteArray) : Option ByteArray :=
 Option.bind (bytesL s) fun x1 =>
 Option.bind (rangeB (fun k10 s18 => Option.bind (Option.bind (idx s18 (k10 : Int)) fun x43 => Option.bind (if ((decide ((65 : Int) ≤ (x43.toNat : Int))) && (decide ((x43.toNat : Int) ≤ 90))) = true then Option.bind (setI s18 (k10 : Int) (toU8 ((x43.toNat : Int) + 32))) fun x65 => some x65 else some s18) fun s51 => some s51) fun s34 => some (.nx s34)) x1.length 0 x1) fun o7 => o7.andThen (fun y => some y) fun s8 =>
 some (⟨s8.toArray⟩ : ByteArray)
noncomputable def portref2_WordsOf (s : ByteArray) : Option (List ByteArray) :=
 Option.bind (whileB (fun s12 => if (decide (s12.2 < (s.size : Int))) = true then Option.bind (whileB (fun s33 => Option.bind (if (decide (s33 < (s.size : Int))) = true then (Option.bind (idxS s s33) fun x44 => some (portref2_isWordByte (x44.toNat : Int))) else (some false)) fun s43 => if s43 = true then some (.nx (w64 (s33 + 1))) else some (.bk s33)) s12.2) fun o26 => o26.andThen (fun y => some (.rt y)) fun s27 => Option.bind (if ((decide (s12.2 < s27)) && (decide ((w64 (s27 - s12.2)) ≤ 30))) = true then Option.bind (sliceS s (some s12.2) (some s27)) fun x62 => Option.bind (portref2_lower x62) fun x63 => Option.bind (appendL 8796093022208 s12.1 ([x63] : List ByteArray)) fun x73 => some x73 else some s12.1) fun s52 => some (.nx (s52, (if s27 < w64 (s12.2 + 1) then w64 (s12.2 + 1) else s27))) else some (.bk (s12.1, s12.2))) (([] : (List ByteArray)), 0)) fun o1 => o1.andThen (fun y => some y) fun s2 =>
 some s2.1
def portref2_positionsFault (l : (List Int)) (size : Int) : Option Int :=
 Option.bind (rangeB (fun k6 _ => Option.bind (idx l (k6 : Int)) fun x21 => if ((decide (x21 < 0)) || (decide (size ≤ x21))) = true then some (.rt 2) else some (.nx ())) l.length 0 ()) fun o3 => o3.andThen (fun y => some y) fun s4 =>
 Option.bind (rangeB (fun k34 _ => Option.bind (idx l (k34 : Int)) fun x49 => Option.bind (if (decide ((0 : Int) < (k34 : Int))) = true then (Option.bind (idx l (w64 ((k34 : Int) - 1))) fun x55 => some (decide (x49 ≤ x55))) else (some false)) fun s54 => if s54 = true then some (.rt 5) else some (.nx ())) l.length 0 ()) fun o31 => o31.andThen (fun y => some y) fun s32 =>
 some 0
noncomputable def portref2_IndexFault (x : know_Index) : Option Int :=
 if (decide ((200 : Int) < (x.ids.length : Int))) = true then
  some 4
 else
  if ((x.sizes.length : Int) != (x.ids.length : Int)) = true then
   some 1
  else
   Option.bind (rangeB (fun k35 _ => Option.bind (idx x.ids (k35 : Int)) fun x50 => if ((decide (x50 < 1)) || (decide ((3000000 : Int) < x50))) = true then some (.rt 2) else Option.bind (if (decide ((0 : Int) < (k35 : Int))) = true then (Option.bind (idx x.ids (w64 ((k35 : Int) - 1))) fun x63 => some (decide (x50 ≤ x63))) else (some false)) fun s58 => if s58 = true then some (.rt 5) else Option.bind (idx x.sizes (k35 : Int)) fun x72 => Option.bind (if (decide (x72 < 0)) = true then (some true) else (some (decide ((20000 : Int) < x72)))) fun s77 => if s77 = true then some (.rt 2) else some (.nx ())) x.ids.length 0 ()) fun o32 => o32.andThen (fun y => some y) fun s33 =>
   Option.bind (rangeB (fun k96 _ => Option.bind (α := Lp _ _) (Option.bind (idx x.terms (k96 : Int)) fun x123 => Option.bind (portref2_WordsOf x123.word) fun x142 => Option.bind (if ((x142.length : Int) != 1) = true then (some true) else (Option.bind (idx x142 0) fun x152 => some (!(strEq x152 x123.word)))) fun s151 => if (s151 || ((x123.list_.length : Int) == 0)) = true then some (.rt 1) else Option.bind (if (decide ((0 : Int) < (k96 : Int))) = true then (Option.bind (idx x.terms (w64 ((k96 : Int) - 1))) fun x175 => some (strLt x123.word x175.word || strEq x123.word x175.word)) else (some false)) fun s169 => if s169 = true then some (.rt 5) else Option.bind (rangeB (fun k191 _ => Option.bind (α := Lp _ _) (Option.bind (idx x123.list_ (k191 : Int)) fun x218 => Option.bind (slices_Index_Lint_int x.ids x218.id_) fun x246 => if (decide (x246 < 0)) = true then some (.rt 7) else Option.bind (if (decide ((0 : Int) < (k191 : Int))) = true then (Option.bind (idx x123.list_ (w64 ((k191 : Int) - 1))) fun x255 => some (decide (x218.id_ ≤ x255.id_))) else (some false)) fun s249 => if s249 = true then some (.rt 5) else if ((w64 ((x218.title.length : Int) + (x218.body.length : Int))) == 0) = true then some (.rt 1) else Option.bind (rangeB (fun k295 _ => Option.bind (idx ([x218.title, x218.body] : List (List Int)) (k295 : Int)) fun x310 => Option.bind (idx x.sizes x246) fun x321 => Option.bind (portref2_positionsFault x310 x321) fun x325 => if (x325 != 0) = true then some (.rt x325) else some (.nx ())) (([x218.title, x218.body] : List (List Int)).length) 0 ()) fun o292 => o292.andThen (fun y => some (.rt y)) fun s293 => some (.fin ())) fun o210 => o210.andThen (fun y => some (.rt y)) fun s211 => some (.nx ())) x123.list_.length 0 ()) fun o188 => o188.andThen (fun y => some (.rt y)) fun s189 => some (.fin ())) fun o115 => o115.andThen (fun y => some (.rt y)) fun s116 => some (.nx ())) x.terms.length 0 ()) fun o93 => o93.andThen (fun y => some y) fun s94 =>
   some 0
noncomputable def portref2_QueryFault (q : know_Query) : Option (ByteArray × Int) :=
 if (decide ((20 : Int) < (q.parts.length : Int))) = true then
  some ((⟨#[]⟩ : ByteArray), 4)
 else
  Option.bind (rangeB (fun k21 s29 => Option.bind (idx q.parts (k21 : Int)) fun x44 => if ((((decide (x44.kind < 0)) || (decide ((2 : Int) < x44.kind))) || ((x44.words.length : Int) == 0)) || ((x44.kind != 1) && ((x44.words.length : Int) != 1))) = true then some (.rt ((⟨#[]⟩ : ByteArray), 1)) else Option.bind (rangeB (fun k89 _ => Option.bind (idx x44.words (k89 : Int)) fun x108 => Option.bind (portref2_WordsOf x108) fun x112 => Option.bind (if ((x112.length : Int) != 1) = true then (some true) else (Option.bind (idx x112 0) fun x122 => some (!(strEq x122 x108)))) fun s121 => if s121 = true then some (.rt ((⟨#[]⟩ : ByteArray), 1)) else some (.nx ())) x44.words.length 0 ()) fun o86 => o86.andThen (fun y => some (.rt y)) fun s87 => Option.bind (strings_Join x44.words (⟨#[32]⟩ : ByteArray)) fun x135 => Option.bind (Option.bind (if (x44.kind == 1) = true then Option.bind (catS (⟨#[34]⟩ : ByteArray) x135) fun x153 => Option.bind (catS x153 (⟨#[34]⟩ : ByteArray)) fun x154 => some x154 else Option.bind (if (x44.kind == 2) = true then Option.bind (catS x135 (⟨#[42]⟩ : ByteArray)) fun x163 => some x163 else some x135) fun s157 => some s157) fun s147 => some s147) fun s141 => Option.bind (if x44.not_ = true then Option.bind (catS (⟨#[45]⟩ : ByteArray) s141) fun x176 => some x176 else some s141) fun s170 => Option.bind (appendL 8796093022208 s29 ([s170] : List ByteArray)) fun x184 => some (.nx x184)) q.parts.length 0 ([] : (List ByteArray))) fun o18 => o18.andThen (fun y => some y) fun s19 =>
  Option.bind (strings_Join s19 (⟨#[32]⟩ : ByteArray)) fun x193 =>
  if (decide ((400 : Int) < (x193.size : Int))) = true then
   some ((⟨#[]⟩ : ByteArray), 4)
  else
   some (x193, 0)
def slices_IndexFunc_Lstring_string (s : (List ByteArray)) (f : ByteArray → Option Bool) : Option Int :=
 Option.bind (rangeB (fun k6 _ => Option.bind (idx s (k6 : Int)) fun x25 => Option.bind (f x25) fun x29 => if x29 = true then some (.rt (k6 : Int)) else some (.nx ())) s.length 0 ()) fun o3 => o3.andThen (fun y => some y) fun s4 =>
 some (-1)
def slices_ContainsFunc_Lstring_string (s : (List ByteArray)) (f : ByteArray → Option Bool) : Option Bool :=
 Option.bind (slices_IndexFunc_Lstring_string s f) fun x3 =>
 some (decide ((0 : Int) ≤ x3))
def strings_Trim (s : ByteArray) (cutset : ByteArray) : Option ByteArray :=
 if s.size ≤ 9223372036854775807 ∧ cutset.size < 4294967281 ∧ (cutset.data.toList.all fun b => decide (b.toNat < 128)) = true then some ⟨(Go.Lib.trimS s.data.toList cutset.data.toList).toArray⟩ else none
def portref2_StemOf_1 (s : ByteArray) (p1 : ByteArray) : Option Bool :=
 Option.bind (strings_HasSuffix p1 s) fun x1 =>
 some x1
def portref2_StemOf (w_ : ByteArray) : Option ByteArray :=
 Option.bind (if (decide ((w_.size : Int) < 4)) = true then (some true) else (Option.bind (strings_Trim w_ (⟨#[97, 98, 99, 100, 101, 102, 103, 104, 105, 106, 107, 108, 109, 110, 111, 112, 113, 114, 115, 116, 117, 118, 119, 120, 121, 122]⟩ : ByteArray)) fun x17 => some (!(strEq x17 (⟨#[]⟩ : ByteArray))))) fun s8 =>
 if s8 = true then
  some w_
 else
  Option.bind (portref2_StemOf_1 (⟨#[105, 101, 115]⟩ : ByteArray) w_) fun x23 =>
  if x23 = true then
   Option.bind (sliceS w_ none (some (w64 ((w_.size : Int) - 3)))) fun x25 =>
   Option.bind (catS x25 (⟨#[121]⟩ : ByteArray)) fun x26 =>
   some x26
  else
   Option.bind (portref2_StemOf_1 (⟨#[115, 115, 101, 115]⟩ : ByteArray) w_) fun x27 =>
   if x27 = true then
    Option.bind (sliceS w_ none (some (w64 ((w_.size : Int) - 2)))) fun x29 =>
    some x29
   else
    Option.bind (portref2_StemOf_1 (⟨#[115, 115]⟩ : ByteArray) w_) fun x30 =>
    if x30 = true then
     some w_
    else
     Option.bind (portref2_StemOf_1 (⟨#[115]⟩ : ByteArray) w_) fun x32 =>
     if x32 = true then
      Option.bind (sliceS w_ none (some (w64 ((w_.size : Int) - 1)))) fun x34 =>
      some x34
     else
      Option.bind (portref2_StemOf_1 (⟨#[105, 110, 103]⟩ : ByteArray) w_) fun x35 =>
      if (x35 && (decide ((6 : Int) ≤ (w_.size : Int)))) = true then
       Option.bind (sliceS w_ none (some (w64 ((w_.size : Int) - 3)))) fun x39 =>
       some x39
      else
       Option.bind (portref2_StemOf_1 (⟨#[101, 100]⟩ : ByteArray) w_) fun x40 =>
       if (x40 && (decide ((5 : Int) ≤ (w_.size : Int)))) = true then
        Option.bind (sliceS w_ none (some (w64 ((w_.size : Int) - 2)))) fun x44 =>
        some x44
       else
        some w_
def portref2_termsOf_1 (w_ : ByteArray) (p1 : know_Part) (p2 : know_Term) : Option Bool :=
 if (p1.kind == 2) = true then
  Option.bind (strings_HasPrefix p2.word w_) fun x4 =>
  some x4
 else
  Option.bind (portref2_StemOf w_) fun x6 =>
  some (strEq p2.word x6)
def portref2_termsOf (x : know_Index) (p : know_Part) : Option (List know_Term) :=
 Option.bind (rangeB (fun k29 s37 => Option.bind (Option.bind (idx x.terms (k29 : Int)) fun x62 => Option.bind (slices_ContainsFunc_Lstring_string p.words (fun y84 => portref2_termsOf_1 y84 p x62)) fun x85 => Option.bind (if x85 = true then Option.bind (appendL 3518437208883 s37 ([x62] : List know_Term)) fun x119 => some x119 else some s37) fun s98 => some s98) fun s53 => some (.nx s53)) x.terms.length 0 ([] : (List know_Term))) fun o26 => o26.andThen (fun y => some y) fun s27 =>
 some s27
def portref2_postingOf (t : know_Term) (id_ : Int) : Option (know_Posting × Bool) :=
 Option.bind (rangeB (fun k21 s31 => Option.bind (idx t.list_ (k21 : Int)) fun x49 => if (x49.id_ == id_) = true then some (.rt (x49, true)) else some (.nx s31)) t.list_.length 0 (⟨0, ([] : (List Int)), ([] : (List Int))⟩ : know_Posting)) fun o18 => o18.andThen (fun y => some y) fun s19 =>
 some ((⟨0, ([] : (List Int)), ([] : (List Int))⟩ : know_Posting), false)
def portref2_matches_1 (t : know_Term) (p1 : Int) : Option Bool :=
 Option.bind (portref2_postingOf t p1) fun x12 =>
 some x12.2
def portref2_termOf (x : know_Index) (word : ByteArray) : Option (know_Term × Bool) :=
 Option.bind (rangeB (fun k26 s34 => Option.bind (idx x.terms (k26 : Int)) fun x49 => if (strEq x49.word word) = true then some (.rt (x49, true)) else some (.nx s34)) x.terms.length 0 (⟨ByteArray.empty, ([] : (List know_Posting))⟩ : know_Term)) fun o23 => o23.andThen (fun y => some y) fun s24 =>
 some ((⟨ByteArray.empty, ([] : (List know_Posting))⟩ : know_Term), false)
def portref2_matches_2 (w_ : ByteArray) (title : Bool) (p2 : know_Index) (p3 : Int) : Option (List Int) :=
 Option.bind (portref2_StemOf w_) fun x71 =>
 Option.bind (portref2_termOf p2 x71) fun x131 =>
 Option.bind (portref2_postingOf x131.1 p3) fun x156 =>
 if title = true then
  some x156.1.title
 else
  some x156.1.body
def portref2_matches (x : know_Index) (p : know_Part) (id_ : Int) : Option Bool :=
 if (p.kind != 1) = true then
  Option.bind (portref2_termsOf x p) fun x40 =>
  Option.bind (slices_ContainsFunc_Lknow_Term_know_Term x40 (fun y47 => portref2_matches_1 y47 id_)) fun x48 =>
  some x48
 else
  Option.bind (rangeB (fun k70 _ => Option.bind (α := Lp _ _) (Option.bind (idx ([true, false] : List Bool) (k70 : Int)) fun x97 => Option.bind (idx p.words 0) fun x105 => Option.bind (portref2_matches_2 x105 x97 x id_) fun x109 => Option.bind (rangeB (fun k118 _ => Option.bind (idx x109 (k118 : Int)) fun x137 => Option.bind (rangeB (fun k148 s154 => Option.bind (idx p.words (k148 : Int)) fun x167 => Option.bind (if s154 = true then (Option.bind (portref2_matches_2 x167 x97 x id_) fun x180 => Option.bind (slices_Contains_Lint_int x180 (w64 (x137 + (k148 : Int)))) fun x186 => some x186) else (some false)) fun s172 => some (.nx s172)) p.words.length 0 true) fun o145 => o145.andThen (fun y => some (.rt y)) fun s146 => if s146 = true then some (.rt true) else some (.nx ())) x109.length 0 ()) fun o115 => o115.andThen (fun y => some (.rt y)) fun s116 => some (.fin ())) fun o89 => o89.andThen (fun y => some (.rt y)) fun s90 => some (.nx ())) (([true, false] : List Bool).length) 0 ()) fun o67 => o67.andThen (fun y => some y) fun s68 =>
  some false
def portref2_termScore (x : know_Index) (t : know_Term) (id_ : Int) : Option Int :=
 Option.bind (portref2_postingOf t id_) fun x25 =>
 if (!x25.2) = true then
  some 0
 else
  Option.bind (quo (x.ids.length : Int) (t.list_.length : Int)) fun x56 =>
  Option.bind (math_bits_Len (IntKind.wrap .u64 x56)) fun x57 =>
  Option.bind (slices_Index_Lint_int x.ids id_) fun x66 =>
  Option.bind (idx x.sizes x66) fun x67 =>
  Option.bind (quo (w64 ((w64 ((w64 ((w64 (5 * (x25.1.title.length : Int))) + (x25.1.body.length : Int))) * 1000)) * x57)) (w64 (x67 + 20))) fun x82 =>
  some x82
def portref2_ranked_1 (a_ : know_Hit) (b : know_Hit) : Option Int :=
 Option.bind (cmp_Or_int ([(cmp_Compare_int b.score a_.score), (cmp_Compare_int a_.id_ b.id_)] : List Int)) fun x28 =>
 some x28
noncomputable def portref2_ranked (l : (List know_Hit)) (most : Int) : Option (List know_Hit) :=
 Option.bind (sortFuncL (fun y5 y6 => portref2_ranked_1 y5 y6) l) fun x1 =>
 Option.bind (sliceL x1 none (some (if most < (x1.length : Int) then most else (x1.length : Int)))) fun x23 =>
 some x23
noncomputable def portref2_SearchOf (x : know_Index) (q : know_Query) (most : Int) : Option ((List know_Hit) × Int) :=
 Option.bind (portref2_IndexFault x) fun x29 =>
 if (x29 != 0) = true then
  some (([] : (List know_Hit)), x29)
 else
  Option.bind (portref2_QueryFault q) fun x37 =>
  if (x37.2 != 0) = true then
   some (([] : (List know_Hit)), x37.2)
  else
   if ((decide (most < 0)) || (decide ((100 : Int) < most))) = true then
    some (([] : (List know_Hit)), 2)
   else
    Option.bind (rangeB (fun k52 s60 => Option.bind (Option.bind (idx x.ids (k52 : Int)) fun x85 => Option.bind (rangeB (R := Empty) (fun k104 s110 => Option.bind (Option.bind (idx q.parts (k104 : Int)) fun x131 => Option.bind (if s110.1 = true then (Option.bind (portref2_matches x x131 x85) fun x161 => some (!(x161 == x131.not_))) else (some false)) fun s150 => if x131.not_ = true then some (s150, s110.2.1, s110.2.2) else Option.bind (portref2_termsOf x x131) fun x179 => Option.bind (rangeB (R := Empty) (fun k194 s200 => Option.bind (idx x179 (k194 : Int)) fun x213 => Option.bind (portref2_termScore x x213 x85) fun x241 => some (.nx (⟨s200.id_, w64 (s200.score + x241)⟩ : know_Hit))) x179.length 0 s110.2.2) fun o191 => o191.andThen (fun y => y.elim) fun s192 => some (s150, true, s192)) fun s124 => some (.nx (s124.1, s124.2.1, s124.2.2))) q.parts.length 0 (true, false, (⟨x85, 0⟩ : know_Hit))) fun o101 => o101.andThen (fun y => y.elim) fun s102 => Option.bind (if (s102.1 && s102.2.1) = true then Option.bind (appendL 8796093022208 s60 ([s102.2.2] : List know_Hit)) fun x273 => some x273 else some s60) fun s258 => some s258) fun s76 => some (.nx s76)) x.ids.length 0 ([] : (List know_Hit))) fun o49 => o49.andThen (fun y => some y) fun s50 =>
    Option.bind (portref2_ranked s50 most) fun x285 =>
    some (x285, 0)
def portref2_SuggestOf_1 (a_ : know_Term) (b : know_Term) : Option Int :=
 Option.bind (strings_Compare a_.word b.word) fun x27 =>
 Option.bind (cmp_Or_int ([(cmp_Compare_int (a_.list_.length : Int) (b.list_.length : Int)), x27] : List Int)) fun x38 =>
 some x38
noncomputable def portref2_SuggestOf (x : know_Index) (text : ByteArray) (sent : (List Int)) (most : Int) : Option ((List know_Hit) × Int) :=
 Option.bind (portref2_IndexFault x) fun x22 =>
 if (x22 != 0) = true then
  some (([] : (List know_Hit)), x22)
 else
  if ((decide ((20000 : Int) < (text.size : Int))) || (decide ((200 : Int) < (sent.length : Int)))) = true then
   some (([] : (List know_Hit)), 4)
  else
   if ((decide (most < 0)) || (decide ((100 : Int) < most))) = true then
    some (([] : (List know_Hit)), 2)
   else
    Option.bind (portref2_WordsOf text) fun x38 =>
    Option.bind (rangeB (fun k49 s57 => Option.bind (Option.bind (idx x38 (k49 : Int)) fun x82 => Option.bind (portref2_StemOf x82) fun x87 => Option.bind (portref2_termOf x x87) fun x98 => Option.bind (if (x98.2 && (!((mapGet s57.2 x87).getD false))) = true then Option.bind (appendL 3518437208883 s57.1 ([x98.1] : List know_Term)) fun x142 => some (x142, (mapPut s57.2 x87 true)) else some (s57.1, s57.2)) fun s118 => some (s118.1, s118.2)) fun s73 => some (.nx (s73.1, s73.2))) x38.length 0 (([] : (List know_Term)), ([] : List (ByteArray × Bool)))) fun o46 => o46.andThen (fun y => some y) fun s47 =>
    Option.bind (sortFuncL (fun y158 y159 => portref2_SuggestOf_1 y158 y159) s47.1) fun x154 =>
    Option.bind (sliceL x154 none (some (if 20 < (x154.length : Int) then 20 else (x154.length : Int)))) fun x175 =>
    Option.bind (rangeB (fun k190 s198 => Option.bind (Option.bind (idx x.ids (k190 : Int)) fun x223 => Option.bind (rangeB (R := Empty) (fun k238 s244 => Option.bind (idx x175 (k238 : Int)) fun x257 => Option.bind (portref2_postingOf x257 x223) fun x278 => Option.bind (portref2_termScore x x257 x223) fun x312 => some (.nx ((s244.1 || x278.2), (⟨s244.2.id_, w64 (s244.2.score + x312)⟩ : know_Hit)))) x175.length 0 (false, (⟨x223, 0⟩ : know_Hit))) fun o235 => o235.andThen (fun y => y.elim) fun s236 => Option.bind (if s236.1 = true then (Option.bind (slices_Contains_Lint_int sent x223) fun x324 => some (!x324)) else (some false)) fun s323 => Option.bind (if s323 = true then Option.bind (appendL 8796093022208 s198 ([s236.2] : List know_Hit)) fun x341 => some x341 else some s198) fun s326 => some s326) fun s214 => some (.nx s214)) x.ids.length 0 ([] : (List know_Hit))) fun o187 => o187.andThen (fun y => some y) fun s188 =>
    Option.bind (portref2_ranked s188 most) fun x353 =>
    some (x353, 0)
def strings_ReplaceAll (s : ByteArray) (old : ByteArray) (new : ByteArray) : Option ByteArray :=
 if s.size < 4294967281 ∧ 1 ≤ old.size ∧ s.size + Go.Lib.countB s old * new.size ≤ 140737488355328 then some ⟨(Go.Lib.replaceAll s.data.toList old.data.toList new.data.toList).toArray⟩ else none
def portref2_lowByte_1 (r_ : Int) : Bool :=
 ((decide (r_ < 32)) || (r_ == 127))
def portref2_lowByte (s : ByteArray) : Option Bool :=
 some (decide (0 ≤ Go.Lib.idxFunc (fun y => portref2_lowByte_1 (y : Int)) true s))
def portref2_entryFault (v : know_Entry) : Option Int :=
 if ((decide ((200 : Int) < (v.title.size : Int))) || (decide ((20000 : Int) < (v.body.size : Int)))) = true then
  some 4
 else
  Option.bind (Option.bind (portref2_lowByte v.title) fun x21 => if x21 = true then (some true) else (Option.bind (strings_ReplaceAll v.body (⟨#[10]⟩ : ByteArray) (⟨#[]⟩ : ByteArray)) fun x28 => Option.bind (portref2_lowByte x28) fun x32 => some x32)) fun s13 =>
  if s13 = true then
   some 9
  else
   some 0
def portref2_indexOf_2 (a_ : know_Posting) (b : know_Posting) : Option Int :=
 some (cmp_Compare_int a_.id_ b.id_)
noncomputable def idxAtPut (at_ : List (ByteArray × List (Int × know_Posting))) (stem : ByteArray) (id pos : Int) (title : Bool) : Option (List (ByteArray × List (Int × know_Posting))) :=
 if title = true then Option.bind (appendL 17592186044416 ((mapGet ((mapGet at_ stem).getD []) id).getD ⟨id, [], []⟩).title [pos]) fun l => some (mapPut at_ stem (mapPut ((mapGet at_ stem).getD []) id ⟨((mapGet ((mapGet at_ stem).getD []) id).getD ⟨id, [], []⟩).id_, l, ((mapGet ((mapGet at_ stem).getD []) id).getD ⟨id, [], []⟩).body⟩))
 else Option.bind (appendL 17592186044416 ((mapGet ((mapGet at_ stem).getD []) id).getD ⟨id, [], []⟩).body [pos]) fun l => some (mapPut at_ stem (mapPut ((mapGet at_ stem).getD []) id ⟨((mapGet ((mapGet at_ stem).getD []) id).getD ⟨id, [], []⟩).id_, ((mapGet ((mapGet at_ stem).getD []) id).getD ⟨id, [], []⟩).title, l⟩))
noncomputable def idxAtWord (id : Int) (title : Bool) (l : List ByteArray) (k : Nat) (s : List (ByteArray × List (Int × know_Posting))) : Option (Ctl (List (ByteArray × List (Int × know_Posting))) Empty) :=
 Option.bind (idx l (k : Int)) fun w => Option.bind (portref2_StemOf w) fun t => Option.bind (idxAtPut s t id (k : Int) title) fun m => some (.nx m)
noncomputable def idxAtEntry (l : List know_Entry) (k : Nat) (s : List Int × List Int × List (ByteArray × List (Int × know_Posting))) : Option (Ctl (List Int × List Int × List (ByteArray × List (Int × know_Posting))) Empty) :=
 Option.bind (idx l (k : Int)) fun v => Option.bind (portref2_WordsOf v.title) fun a => Option.bind (portref2_WordsOf v.body) fun b =>
 Option.bind (appendL 17592186044416 s.1 [v.id_]) fun ids => Option.bind (appendL 17592186044416 s.2.1 [w64 ((a.length : Int) + (b.length : Int))]) fun sizes =>
 Option.bind (rangeB (idxAtWord v.id_ true a) a.length 0 s.2.2) fun o1 => o1.andThen (fun y => y.elim) fun m1 =>
 Option.bind (rangeB (idxAtWord v.id_ false b) b.length 0 m1) fun o2 => o2.andThen (fun y => y.elim) fun m2 => some (.nx (ids, sizes, m2))
noncomputable def idxTerm (at_ : List (ByteArray × List (Int × know_Posting))) (q : List ByteArray) (k : Nat) (s : List know_Term) : Option (Ctl (List know_Term) Empty) :=
 Option.bind (idx q (k : Int)) fun t => Option.bind (mapGet at_ t) fun m => if (m.length : Int) ≤ 2513169434916 then Option.bind (sortFuncL (fun x y => portref2_indexOf_2 x y) (m.map (·.2))) fun l => Option.bind (appendL 3518437208883 s [(⟨t, l⟩ : know_Term)]) fun x => some (.nx x) else none
noncomputable def portref2_indexOf (l : List know_Entry) : Option know_Index :=
 Option.bind (rangeB (idxAtEntry l) l.length 0 ([], [], [])) fun o => o.andThen (fun y => y.elim) fun s =>
 if (s.2.2.length : Int) ≤ 8796093022208 then
  Option.bind (sortStrsL (s.2.2.map (·.1))) fun q => Option.bind (rangeB (idxTerm s.2.2 q) q.length 0 []) fun o2 => o2.andThen (fun y => y.elim) fun terms => some (⟨s.1, s.2.1, terms⟩ : know_Index)
 else none
noncomputable def portref2_IndexOf (l : (List know_Entry)) : Option (know_Index × Int) :=
 if (decide ((200 : Int) < (l.length : Int))) = true then
  some ((⟨([] : (List Int)), ([] : (List Int)), ([] : (List know_Term))⟩ : know_Index), 4)
 else
  Option.bind (rangeB (fun k15 s28 => Option.bind (idx l (k15 : Int)) fun x47 => if ((decide (x47.id_ < 1)) || (decide ((3000000 : Int) < x47.id_))) = true then some (.rt ((⟨([] : (List Int)), ([] : (List Int)), ([] : (List know_Term))⟩ : know_Index), 2)) else Option.bind (if (decide ((0 : Int) < (k15 : Int))) = true then (Option.bind (idx l (w64 ((k15 : Int) - 1))) fun x71 => some (decide (x47.id_ ≤ x71.id_))) else (some false)) fun s69 => if s69 = true then some (.rt ((⟨([] : (List Int)), ([] : (List Int)), ([] : (List know_Term))⟩ : know_Index), 5)) else Option.bind (portref2_entryFault x47) fun x84 => if (x84 != 0) = true then some (.rt ((⟨([] : (List Int)), ([] : (List Int)), ([] : (List know_Term))⟩ : know_Index), x84)) else some (.nx s28)) l.length 0 (⟨([] : (List Int)), ([] : (List Int)), ([] : (List know_Term))⟩ : know_Index)) fun o12 => o12.andThen (fun y => some y) fun s13 =>
  Option.bind (portref2_indexOf l) fun x95 =>
  some (x95, 0)
def slices_Equal_Lint_int (s1 : (List Int)) (s2 : (List Int)) : Option Bool :=
 if ((s1.length : Int) != (s2.length : Int)) = true then
  some false
 else
  Option.bind (rangeB (fun k9 _ => Option.bind (idx s1 (k9 : Int)) fun x29 => Option.bind (idx s2 (k9 : Int)) fun x33 => if (x29 != x33) = true then some (.rt false) else some (.nx ())) s1.length 0 ()) fun o6 => o6.andThen (fun y => some y) fun s7 =>
  some true
def slices_EqualFunc_Lknow_Term_Lknow_Term_know_Term_know_Term (s1 : (List know_Term)) (s2 : (List know_Term)) (eq : know_Term → know_Term → Option Bool) : Option Bool :=
 if ((s1.length : Int) != (s2.length : Int)) = true then
  some false
 else
  Option.bind (rangeB (fun k9 _ => Option.bind (idx s1 (k9 : Int)) fun x29 => Option.bind (idx s2 (k9 : Int)) fun x47 => Option.bind (eq x29 x47) fun x71 => if (!x71) = true then some (.rt false) else some (.nx ())) s1.length 0 ()) fun o6 => o6.andThen (fun y => some y) fun s7 =>
  some true
def slices_EqualFunc_Lknow_Posting_Lknow_Posting_know_Posting_know_Posting (s1 : (List know_Posting)) (s2 : (List know_Posting)) (eq : know_Posting → know_Posting → Option Bool) : Option Bool :=
 if ((s1.length : Int) != (s2.length : Int)) = true then
  some false
 else
  Option.bind (rangeB (fun k9 _ => Option.bind (idx s1 (k9 : Int)) fun x29 => Option.bind (idx s2 (k9 : Int)) fun x52 => Option.bind (eq x29 x52) fun x86 => if (!x86) = true then some (.rt false) else some (.nx ())) s1.length 0 ()) fun o6 => o6.andThen (fun y => some y) fun s7 =>
  some true
def portref2_Alike_4_1 (p : know_Posting) (q : know_Posting) : Option Bool :=
 Option.bind (if (p.id_ == q.id_) = true then (Option.bind (slices_Equal_Lint_int p.title q.title) fun x41 => if x41 = true then (Option.bind (slices_Equal_Lint_int p.body q.body) fun x54 => some x54) else (some false)) else (if false = true then (Option.bind (slices_Equal_Lint_int p.body q.body) fun x69 => some x69) else (some false))) fun s23 =>
 some s23
def portref2_Alike_4 (a_ : know_Term) (b : know_Term) : Option Bool :=
 Option.bind (if (strEq a_.word b.word) = true then (Option.bind (slices_EqualFunc_Lknow_Posting_Lknow_Posting_know_Posting_know_Posting a_.list_ b.list_ (fun y36 y37 => portref2_Alike_4_1 y36 y37)) fun x38 => some x38) else (some false)) fun s18 =>
 some s18
def portref2_Alike (a_ : know_Index) (b : know_Index) : Option Bool :=
 Option.bind (if true = true then (Option.bind (slices_Equal_Lint_int a_.ids b.ids) fun x66 => if x66 = true then (Option.bind (slices_Equal_Lint_int a_.sizes b.sizes) fun x79 => if x79 = true then (Option.bind (slices_EqualFunc_Lknow_Term_Lknow_Term_know_Term_know_Term a_.terms b.terms (fun y92 y93 => portref2_Alike_4 y92 y93)) fun x94 => some x94) else (some false)) else (if false = true then (Option.bind (slices_EqualFunc_Lknow_Term_Lknow_Term_know_Term_know_Term a_.terms b.terms (fun y123 y124 => portref2_Alike_4 y123 y124)) fun x125 => some x125) else (some false))) else (if false = true then (Option.bind (slices_Equal_Lint_int a_.sizes b.sizes) fun x154 => if x154 = true then (Option.bind (slices_EqualFunc_Lknow_Term_Lknow_Term_know_Term_know_Term a_.terms b.terms (fun y167 y168 => portref2_Alike_4 y167 y168)) fun x169 => some x169) else (some false)) else (if false = true then (Option.bind (slices_EqualFunc_Lknow_Term_Lknow_Term_know_Term_know_Term a_.terms b.terms (fun y198 y199 => portref2_Alike_4 y198 y199)) fun x200 => some x200) else (some false)))) fun s50 =>
 some s50
end Go.Proofs.YtjdjmddclfhpeaaGreatDoor.M
namespace Go.Proofs.YtjdjmddclfhpeaaGreatDoor.M
open Go Go.Pu
set_option linter.unusedSimpArgs false
set_option linter.unusedVariables false
theorem rangeB_map {α R : Type} (l : List α) (f : α → α) (b : Nat → List α → Option (Ctl (List α) R))
  (hb : ∀ (k : Nat) (s : List α) (x : α), k < l.length → s.length = l.length → s[k]? = some x → b k s = some (.nx (s.set k (f x)))) :
  rangeB b l.length 0 l = some (.fin (l.map f)) := by
 obtain ⟨t, h1, h2⟩ := rangeB_inv (b := b) l.length (fun k t => t = (l.take k).map f ++ l.drop k) (s := l) (by simp) fun k t hk ht => by
  subst ht
  have hlen : ((l.take k).map f ++ l.drop k).length = l.length := by simp; omega
  have hx : ((l.take k).map f ++ l.drop k)[k]? = some l[k] := by
   rw [List.getElem?_append_right (by simp; omega)]
   simp [Nat.min_eq_left (Nat.le_of_lt hk), hk]
  refine ⟨_, hb k _ _ hk hlen hx, ?_⟩
  rw [List.set_append_right _ _ (by simp; omega)]
  have e : k - ((l.take k).map f).length = 0 := by simp; omega
  rw [e, List.drop_eq_getElem_cons hk, List.set_cons_zero, List.take_add_one, List.getElem?_eq_getElem hk]
  simp only [List.map_append, List.append_assoc, Option.toList_some, List.map_cons, List.map_nil, List.cons_append, List.nil_append]
 rw [h1, h2]
 simp
def low8 (b : UInt8) : UInt8 := if 65 ≤ b.toNat ∧ b.toNat ≤ 90 then toU8 ((b.toNat : Int) + 32) else b
def lowB (s : ByteArray) : ByteArray := ⟨(s.data.toList.map low8).toArray⟩
theorem u8_two (n : Int) : toU8 (((toU8 (n + 97)).toNat : Int) - 65) = toU8 (n + 32) := by
 have e : ((toU8 (((toU8 (n + 97)).toNat : Int) - 65)).toNat : Int) = ((toU8 (n + 32)).toNat : Int) := by
  rw [toU8_nat, toU8_nat, toU8_nat]
  simp only [IntKind.wrap, IntKind.bits, IntKind.signed]
  simp
  omega
 exact UInt8.toNat_inj.1 (by omega)
theorem bytesL_some {s : ByteArray} (h : s.size ≤ 9223372036854775807) : bytesL s = some s.data.toList := by
 unfold bytesL
 rw [if_pos (by omega)]
theorem setI_nat {α : Type} {l : List α} {k : Nat} {x : α} (h : k < l.length) : setI l (k : Int) x = some (l.set k x) := by
 unfold setI
 rw [if_pos ⟨by omega, by omega⟩]
 simp
theorem set_self {α : Type} {l : List α} {k : Nat} {x : α} (h : l[k]? = some x) : l.set k x = l := by
 obtain ⟨h1, rfl⟩ := List.getElem?_eq_some_iff.1 h
 exact List.set_getElem_self h1
theorem know_lower_val (s : ByteArray) (h : s.size ≤ 9223372036854775807) : know_lower s = some (lowB s) := by
 unfold know_lower
 rw [bytesL_some h, Option.bind_some, rangeB_map _ low8 _ ?_]
 ·rfl
 intro k t x hk hl hx
 have hk' : k < t.length := by omega
 rw [idx_nat, hx]
 simp only [Option.bind_some]
 by_cases hc : 65 ≤ x.toNat ∧ x.toNat ≤ 90
 ·rw [if_pos (by simp; omega), setI_nat hk', u8_two]
  simp [low8, hc]
 ·rw [if_neg (by simp; omega)]
  simp only [Option.bind_some, low8, if_neg hc]
  rw [set_self hx]
theorem portref2_lower_val (s : ByteArray) (h : s.size ≤ 9223372036854775807) : portref2_lower s = some (lowB s) := by
 unfold portref2_lower
 rw [bytesL_some h, Option.bind_some, rangeB_map _ low8 _ ?_]
 ·rfl
 intro k t x hk hl hx
 have hk' : k < t.length := by omega
 rw [idx_nat, hx]
 simp only [Option.bind_some]
 by_cases hc : 65 ≤ x.toNat ∧ x.toNat ≤ 90
 ·rw [if_pos (by simp; omega), setI_nat hk']
  simp [low8, hc]
 ·rw [if_neg (by simp; omega)]
  simp only [Option.bind_some, low8, if_neg hc]
  rw [set_self hx]
def wb (b : UInt8) : Bool := portref2_isWordByte (b.toNat : Int)
theorem inWord_wb (b : UInt8) : know_inWord (b.toNat : Int) = wb b := rfl
end Go.Proofs.YtjdjmddclfhpeaaGreatDoor.M
namespace Go.Proofs.YtjdjmddclfhpeaaGreatDoor.M
open Go Go.Pu
set_option linter.unusedSimpArgs false
set_option linter.unusedVariables false
theorem data_size (s : ByteArray) : s.data.toList.length = s.size := by
 show s.data.toList.length = s.data.size
 simp
theorem idxS_list (s : ByteArray) (k : Nat) : idxS s (k : Int) = s.data.toList[k]? := by
 simp only [idxS, Int.natCast_nonneg, if_true, Int.toNat_natCast]
 show s.data[k]? = _
 simp
theorem sliceS_nat (s : ByteArray) (a b : Nat) (h1 : a ≤ b) (h2 : b ≤ s.size) : sliceS s (some (a : Int)) (some (b : Int)) = some (s.extract a b) := by
 unfold sliceS bounds
 simp only [Option.getD_some]
 rw [if_pos (by omega)]
 simp
theorem sliceS_from (s : ByteArray) (a : Nat) (h1 : a ≤ s.size) : sliceS s (some (a : Int)) none = some (s.extract a s.size) := by
 unfold sliceS bounds
 simp only [Option.getD_some, Option.getD_none]
 rw [if_pos (by omega)]
 simp
theorem extract_list (s : ByteArray) (a b : Nat) : (s.extract a b).data.toList = (s.data.toList.drop a).take (b - a) := by
 rw [ByteArray.data_extract]
 simp [List.extract]
def runE (l : List UInt8) (i : Nat) : Nat := i + ((l.drop i).takeWhile wb).length
theorem runE_ge (l : List UInt8) (i : Nat) : i ≤ runE l i := Nat.le_add_right ..
theorem runE_le (l : List UInt8) (i : Nat) (h : i ≤ l.length) : runE l i ≤ l.length := by
 unfold runE
 have := (List.takeWhile_sublist (p := wb) (l := l.drop i)).length_le
 rw [List.length_drop] at this
 omega
theorem runE_stop {l : List UInt8} {i : Nat} (h : ∀ b, l[i]? = some b → wb b = false) : runE l i = i := by
 unfold runE
 cases hd : l.drop i with
 | nil => rfl
 | cons b t =>
  have : l[i]? = some b := by have := List.getElem?_drop (xs := l) (i := i) (j := 0); rw [hd] at this; simpa using this.symm
  rw [List.takeWhile_cons, h b this]
  rfl
theorem runE_step {l : List UInt8} {i : Nat} {b : UInt8} (h : l[i]? = some b) (hw : wb b = true) : runE l i = runE l (i + 1) := by
 obtain ⟨hi, rfl⟩ := List.getElem?_eq_some_iff.1 h
 unfold runE
 rw [List.drop_eq_getElem_cons hi, List.takeWhile_cons, if_pos hw]
 simp
 omega
theorem runE_end {l : List UInt8} {i : Nat} {b : UInt8} (h : l[runE l i]? = some b) : wb b = false := by
 have key : ∀ (m : List UInt8), ∀ c, m[(m.takeWhile wb).length]? = some c → wb c = false := by
  intro m
  induction m with
  | nil => intro c h; simp at h
  | cons a m ih =>
   intro c h
   cases ha : wb a with
   | false => rw [List.takeWhile_cons, ha] at h; simp at h; subst h; exact ha
   | true => rw [List.takeWhile_cons, ha] at h; simp at h; exact ih c h
 exact key (l.drop i) b (by rw [List.getElem?_drop]; exact h)
theorem run_loop {R : Type} (s : ByteArray) (hs : s.size ≤ 4611686018427387904) (p : Int → Bool) (hp : ∀ b : UInt8, p (b.toNat : Int) = wb b) (i : Nat) (hi : i ≤ s.size) :
  whileB (R := R) (fun s33 => Option.bind (if (decide (s33 < (s.size : Int))) = true then (Option.bind (idxS s s33) fun x44 => some (p (x44.toNat : Int))) else (some false)) fun s43 => if s43 = true then some (.nx (w64 (s33 + 1))) else some (.bk s33)) (i : Int) = some (.fin ((runE s.data.toList i : Nat) : Int)) := by
 suffices hx : ∃ r, whileB (R := R) (fun s33 => Option.bind (if (decide (s33 < (s.size : Int))) = true then (Option.bind (idxS s s33) fun x44 => some (p (x44.toNat : Int))) else (some false)) fun s43 => if s43 = true then some (.nx (w64 (s33 + 1))) else some (.bk s33)) (i : Int) = some r ∧ r = .fin ((runE s.data.toList i : Nat) : Int) by
  obtain ⟨r, h, hr⟩ := hx
  rw [h, hr]
 refine whileB_spec (R := R) (body := fun s33 => Option.bind (if (decide (s33 < (s.size : Int))) = true then (Option.bind (idxS s s33) fun x44 => some (p (x44.toNat : Int))) else (some false)) fun s43 => if s43 = true then some (.nx (w64 (s33 + 1))) else some (.bk s33)) (s := (i : Int))
  (fun t => ∃ j : Nat, t = (j : Int) ∧ i ≤ j ∧ j ≤ s.size ∧ runE s.data.toList j = runE s.data.toList i) (fun t => s.size - t.toNat) (fun r => r = .fin ((runE s.data.toList i : Nat) : Int)) ⟨i, rfl, Nat.le_refl _, hi, rfl⟩ ?_
 rintro _ ⟨j, rfl, h1, h2, h3⟩
 by_cases hj : j < s.size
 ·have hb := List.getElem?_eq_getElem (l := s.data.toList) (i := j) (by rw [data_size]; exact hj)
  rw [if_pos (by simp; omega), idxS_list, hb]
  simp only [Option.bind_some, hp]
  cases hw : wb (s.data.toList[j]'(by rw [data_size]; exact hj)) with
  | true =>
   refine ⟨_, if_pos rfl, ⟨j + 1, ?_, by omega, by omega, ?_⟩, ?_⟩
   ·rw [w64_id (by omega) (by omega)]; omega
   ·rw [← runE_step hb hw, h3]
   ·rw [w64_id (by omega) (by omega)]; omega
  | false =>
   refine ⟨_, if_neg (by decide), ?_⟩
   have := runE_stop (l := s.data.toList) (i := j) fun b h => by rw [hb] at h; cases h; exact hw
   rw [← h3, this]
 ·rw [if_neg (by simp; omega)]
  refine ⟨_, rfl, ?_⟩
  have := runE_stop (l := s.data.toList) (i := j) fun b h => by rw [List.getElem?_eq_none (by rw [data_size]; omega)] at h; cases h
  rw [← h3, this]
def lowL (w : List UInt8) : ByteArray := ⟨(w.map low8).toArray⟩
def headW (l : List UInt8) : List ByteArray := if l.takeWhile wb ≠ [] ∧ (l.takeWhile wb).length ≤ 30 then [lowL (l.takeWhile wb)] else []
def wordsF : Nat → List UInt8 → List ByteArray
 | 0, _ => []
 | n + 1, l => if l = [] then [] else headW l ++ wordsF n (l.drop ((l.takeWhile wb).length + 1))
def wordsL (l : List UInt8) : List ByteArray := wordsF l.length l
theorem wordsF_eq : ∀ (n m : Nat) (l : List UInt8), l.length ≤ n → l.length ≤ m → wordsF n l = wordsF m l
 | 0, 0, _, _, _ => rfl
 | 0, m + 1, l, h, _ => by obtain rfl : l = [] := List.eq_nil_of_length_eq_zero (by omega); rfl
 | n + 1, 0, l, _, h => by obtain rfl : l = [] := List.eq_nil_of_length_eq_zero (by omega); rfl
 | n + 1, m + 1, l, h1, h2 => by
  rw [wordsF, wordsF]
  by_cases hl : l = []
  ·rw [if_pos hl, if_pos hl]
  ·have h0 : 0 < l.length := by cases l <;> simp_all
   rw [if_neg hl, if_neg hl, wordsF_eq n m _ (by simp; omega) (by simp; omega)]
theorem wordsL_nil : wordsL [] = [] := rfl
theorem wordsL_eq {l : List UInt8} (h : l ≠ []) : wordsL l = headW l ++ wordsL (l.drop ((l.takeWhile wb).length + 1)) := by
 unfold wordsL
 have h0 : 0 < l.length := by cases l <;> simp_all
 obtain ⟨n, hn⟩ : ∃ n, l.length = n + 1 := ⟨l.length - 1, by omega⟩
 rw [hn, wordsF, if_neg h]
 congr 1
 refine wordsF_eq _ _ _ (by simp; omega) (by simp)
theorem wordsL_skip {b : UInt8} {l : List UInt8} (h : wb b = false) : wordsL (b :: l) = wordsL l := by
 rw [wordsL_eq (by simp)]
 have : (b :: l).takeWhile wb = [] := by rw [List.takeWhile_cons, h]; rfl
 rw [headW, this]
 simp
theorem wordsF_length : ∀ (n : Nat) (l : List UInt8), (wordsF n l).length ≤ l.length
 | 0, l => by simp [wordsF]
 | n + 1, l => by
  rw [wordsF]
  by_cases hl : l = []
  ·rw [if_pos hl]; simp
  ·rw [if_neg hl, List.length_append]
   have h1 := wordsF_length n (l.drop ((l.takeWhile wb).length + 1))
   rw [List.length_drop] at h1
   have h2 : (headW l).length ≤ 1 := by unfold headW; split <;> simp
   have h0 : 0 < l.length := by cases l <;> simp_all
   omega
theorem wordsL_at (l : List UInt8) (i : Nat) (h : i < l.length) : wordsL (l.drop i) = headW (l.drop i) ++ wordsL (l.drop (runE l i + 1)) := by
 rw [wordsL_eq (by intro e; have := congrArg List.length e; simp at this; omega), List.drop_drop]
 rfl
theorem head_round (s : ByteArray) (i : Nat) (hi : i ≤ s.size) : headW (s.data.toList.drop i) = if i < runE s.data.toList i ∧ runE s.data.toList i - i ≤ 30 then [lowB (s.extract i (runE s.data.toList i))] else [] := by
 have e : (s.extract i (runE s.data.toList i)).data.toList = (s.data.toList.drop i).takeWhile wb := by
  rw [extract_list]
  have : runE s.data.toList i - i = ((s.data.toList.drop i).takeWhile wb).length := by unfold runE; omega
  rw [this]
  exact (List.prefix_iff_eq_take.1 (List.takeWhile_prefix wb)).symm
 unfold headW lowB
 rw [e]
 by_cases h : (s.data.toList.drop i).takeWhile wb = []
 ·rw [if_neg (fun hh => hh.1 h), if_neg]
  unfold runE
  rw [h]
  simp
 ·have h0 : 0 < ((s.data.toList.drop i).takeWhile wb).length := by rcases hh : (s.data.toList.drop i).takeWhile wb with _ | _ <;> simp_all
  by_cases h2 : ((s.data.toList.drop i).takeWhile wb).length ≤ 30
  ·rw [if_pos ⟨h, h2⟩, if_pos (by unfold runE; omega)]; rfl
  ·rw [if_neg (fun hh => h2 hh.2), if_neg (by unfold runE; omega)]
theorem runE_size (s : ByteArray) (i : Nat) (hi : i ≤ s.size) : runE s.data.toList i ≤ s.size := by
 have := runE_le s.data.toList i (by rw [data_size]; exact hi)
 rwa [data_size] at this
theorem words_round (s : ByteArray) (hs : s.size ≤ 8796093022208) (lo : ByteArray → Option ByteArray) (hlo : ∀ s : ByteArray, s.size ≤ 9223372036854775807 → lo s = some (lowB s)) (acc : List ByteArray) (i : Nat) (hi : i < s.size) (ha : acc.length ≤ i) :
  (if ((decide ((i : Int) < ((runE s.data.toList i : Nat) : Int))) && (decide ((w64 (((runE s.data.toList i : Nat) : Int) - (i : Int))) ≤ 30))) = true then Option.bind (sliceS s (some (i : Int)) (some ((runE s.data.toList i : Nat) : Int))) fun x62 => Option.bind (lo x62) fun x63 => Option.bind (appendL 8796093022208 acc ([x63] : List ByteArray)) fun x73 => some x73 else some acc) = some (acc ++ headW (s.data.toList.drop i)) := by
 have hr := runE_size s i (by omega)
 have hg := runE_ge s.data.toList i
 rw [head_round s i (by omega), w64_id (by omega) (by omega)]
 by_cases h : i < runE s.data.toList i ∧ runE s.data.toList i - i ≤ 30
 ·rw [if_pos (by simp; omega), if_pos h, sliceS_nat s _ _ hg hr, Option.bind_some, hlo _ (by rw [ByteArray.size_extract]; omega)]
  simp only [Option.bind_some]
  unfold appendL
  rw [if_pos (by simp; omega)]
  rfl
 ·rw [if_neg (by simp; omega), if_neg h, List.append_nil]
theorem know_Words_val (s : ByteArray) (hs : s.size ≤ 8796093022208) : know_Words s = some (wordsL s.data.toList) := by
 unfold know_Words
 generalize hbody : (fun s12 : List ByteArray × Int => _) = body
 suffices hx : ∃ r, whileB body (([] : List ByteArray), (0 : Int)) = some r ∧ ∃ t, r = .fin t ∧ t.1 = wordsL s.data.toList by
  obtain ⟨r, h, t, rfl, hr⟩ := hx
  rw [h, Option.bind_some]
  show some t.1 = _
  rw [hr]
 refine whileB_spec (body := body) (s := (([] : List ByteArray), (0 : Int)))
  (fun t => ∃ i : Nat, t.2 = (i : Int) ∧ i ≤ s.size + 1 ∧ t.1.length ≤ i ∧ t.1 ++ wordsL (s.data.toList.drop i) = wordsL s.data.toList) (fun t => s.size + 2 - t.2.toNat) (fun r => ∃ t, r = .fin t ∧ t.1 = wordsL s.data.toList) ⟨0, rfl, by omega, by simp, by simp⟩ ?_
 rintro ⟨acc, _⟩ ⟨i, rfl, h1, h2, h3⟩
 subst hbody
 simp only at h2 h3 ⊢
 by_cases hi : i < s.size
 ·rw [if_pos (by simp; omega), run_loop s (by omega) know_inWord inWord_wb i (by omega), Option.bind_some, Lp.andThen_fin, words_round s hs know_lower know_lower_val acc i hi h2, Option.bind_some]
  have hr := runE_size s i (by omega)
  have hg := runE_ge s.data.toList i
  refine ⟨_, rfl, ⟨runE s.data.toList i + 1, by rw [w64_id (by omega) (by omega)]; omega, by omega, ?_, ?_⟩, ?_⟩
  ·rw [List.length_append]
   have : (headW (s.data.toList.drop i)).length ≤ 1 := by unfold headW; split <;> simp
   omega
  ·rw [List.append_assoc, ← wordsL_at _ _ (by rw [data_size]; exact hi)]; exact h3
  ·simp only; rw [w64_id (by omega) (by omega)]; omega
 ·rw [if_neg (by simp; omega)]
  refine ⟨_, rfl, _, rfl, ?_⟩
  rw [List.drop_eq_nil_of_le (by rw [data_size]; omega), wordsL_nil, List.append_nil] at h3
  exact h3
theorem portref2_WordsOf_val (s : ByteArray) (hs : s.size ≤ 8796093022208) : portref2_WordsOf s = some (wordsL s.data.toList) := by
 unfold portref2_WordsOf
 generalize hbody : (fun s12 : List ByteArray × Int => _) = body
 suffices hx : ∃ r, whileB body (([] : List ByteArray), (0 : Int)) = some r ∧ ∃ t, r = .fin t ∧ t.1 = wordsL s.data.toList by
  obtain ⟨r, h, t, rfl, hr⟩ := hx
  rw [h, Option.bind_some]
  show some t.1 = _
  rw [hr]
 refine whileB_spec (body := body) (s := (([] : List ByteArray), (0 : Int)))
  (fun t => ∃ i : Nat, t.2 = (i : Int) ∧ i ≤ s.size + 1 ∧ t.1.length ≤ i ∧ t.1 ++ wordsL (s.data.toList.drop i) = wordsL s.data.toList) (fun t => s.size + 2 - t.2.toNat) (fun r => ∃ t, r = .fin t ∧ t.1 = wordsL s.data.toList) ⟨0, rfl, by omega, by simp, by simp⟩ ?_
 rintro ⟨acc, _⟩ ⟨i, rfl, h1, h2, h3⟩
 subst hbody
 simp only at h2 h3 ⊢
 by_cases hi : i < s.size
 ·rw [if_pos (by simp; omega), run_loop s (by omega) portref2_isWordByte (fun _ => rfl) i (by omega), Option.bind_some, Lp.andThen_fin, words_round s hs portref2_lower portref2_lower_val acc i hi h2, Option.bind_some]
  have hr := runE_size s i (by omega)
  have hg := runE_ge s.data.toList i
  have hh : (headW (s.data.toList.drop i)).length ≤ 1 := by unfold headW; split <;> simp
  have hw := wordsL_at s.data.toList i (by rw [data_size]; exact hi)
  rw [w64_id (n := (i : Int) + 1) (by omega) (by omega)]
  by_cases hj : i < runE s.data.toList i
  ·refine ⟨_, rfl, ⟨runE s.data.toList i, by simp only; rw [if_neg (by omega)], by omega, ?_, ?_⟩, ?_⟩
   ·rw [List.length_append]; omega
   ·rw [← h3, hw, List.append_assoc]
    congr 2
    by_cases hn : runE s.data.toList i < s.size
    ·have hb := List.getElem?_eq_getElem (l := s.data.toList) (i := runE s.data.toList i) (by rw [data_size]; exact hn)
     rw [List.drop_eq_getElem_cons (by rw [data_size]; exact hn), wordsL_skip (runE_end hb)]
    ·rw [List.drop_eq_nil_of_le (by rw [data_size]; omega), List.drop_eq_nil_of_le (by rw [data_size]; omega)]
   ·simp only; rw [if_neg (by omega)]; omega
  ·have he : runE s.data.toList i = i := by omega
   refine ⟨_, rfl, ⟨i + 1, by simp only; rw [if_pos (by omega)]; omega, by omega, ?_, ?_⟩, ?_⟩
   ·rw [List.length_append]; omega
   ·rw [← h3, hw, List.append_assoc, he]
   ·simp only; rw [if_pos (by omega)]; omega
 ·rw [if_neg (by simp; omega)]
  refine ⟨_, rfl, _, rfl, ?_⟩
  rw [List.drop_eq_nil_of_le (by rw [data_size]; omega), wordsL_nil, List.append_nil] at h3
  exact h3
end Go.Proofs.YtjdjmddclfhpeaaGreatDoor.M
namespace Go.Proofs.YtjdjmddclfhpeaaGreatDoor.M
open Go Go.Pu
set_option linter.unusedSimpArgs false
set_option linter.unusedVariables false
def az (b : UInt8) : Bool := decide (97 ≤ b.toNat) && decide (b.toNat ≤ 122)
def azSet : List UInt8 := [97, 98, 99, 100, 101, 102, 103, 104, 105, 106, 107, 108, 109, 110, 111, 112, 113, 114, 115, 116, 117, 118, 119, 120, 121, 122]
theorem az_all : ((List.range 256).all fun i => az (UInt8.ofNat i) == azSet.contains (UInt8.ofNat i)) = true := by kernel_rfl
theorem az_set (b : UInt8) : az b = azSet.contains b := by
 have h := List.all_eq_true.1 az_all b.toNat (List.mem_range.2 b.toNat_lt)
 rw [UInt8.ofNat_toNat] at h
 exact beq_iff_eq.1 h
theorem dropW_nil {α : Type} (p : α → Bool) : ∀ l : List α, l.dropWhile p = [] ↔ ∀ x ∈ l, p x = true
 | [] => by simp
 | x :: l => by
  by_cases h : p x = true
  ·simp [List.dropWhile, h, dropW_nil p l]
  ·simp [List.dropWhile, h]
theorem trimS_none (l cs : List UInt8) : Go.Lib.trimS l cs = [] ↔ ∀ x ∈ l, cs.contains x = true := by
 unfold Go.Lib.trimS Go.Lib.trimLeftS Go.Lib.trimRightS
 rw [dropW_nil]
 constructor
 ·intro h x hx
  by_cases hc : cs.contains x = true
  ·exact hc
  ·have hlr : x ∈ l.reverse := by simpa using hx
   have key : ∀ m : List UInt8, x ∈ m → x ∈ m.dropWhile (cs.contains ·) := by
    intro m
    induction m with
    | nil => intro h; cases h
    | cons y m ih =>
     intro hm
     by_cases hy : cs.contains y = true
     ·rw [List.dropWhile_cons_of_pos hy]
      rcases List.mem_cons.1 hm with rfl | hm
      ·exact absurd hy hc
      ·exact ih hm
     ·rw [List.dropWhile_cons_of_neg hy]
      exact hm
   exact h x (by simpa using key l.reverse hlr)
 ·intro h x hx
  have : x ∈ l := by
   have h1 : x ∈ l.reverse.dropWhile (cs.contains ·) := by simpa using hx
   have := (List.dropWhile_sublist (cs.contains ·)).subset h1
   simpa using this
  exact h x this
theorem suf_some (w s : ByteArray) (hw : w.size ≤ 4611686018427387904) : ∃ b, strings_HasSuffix w s = some b := by
 unfold strings_HasSuffix internal_stringslite_HasSuffix
 by_cases h : (s.size : Int) ≤ (w.size : Int)
 ·rw [if_pos (by simpa using h), w64_id (by omega) (by omega)]
  have e : ((w.size : Int) - (s.size : Int)) = ((w.size - s.size : Nat) : Int) := by omega
  rw [e, sliceS_from _ _ (by omega)]
  exact ⟨_, rfl⟩
 ·rw [if_neg (by simpa using h)]
  exact ⟨_, rfl⟩
theorem cut_some (w : ByteArray) (hw : w.size ≤ 4611686018427387904) (k : Nat) (hk : k ≤ w.size) : ∃ r, sliceS w none (some (w64 ((w.size : Int) - (k : Int)))) = some r ∧ r.size ≤ w.size := by
 have e : w64 ((w.size : Int) - (k : Int)) = ((w.size - k : Nat) : Int) := by rw [w64_id (by omega) (by omega)]; omega
 rw [e]
 refine ⟨w.extract 0 (w.size - k), ?_, by rw [ByteArray.size_extract]; omega⟩
 have := sliceS_nat w 0 (w.size - k) (Nat.zero_le _) (by omega)
 rw [← this]
 unfold sliceS bounds
 simp
theorem stem_eq (w : ByteArray) (hw : w.size ≤ 1000000000000) : ∃ r, know_Stem w = some r ∧ portref2_StemOf w = some r := by
 have hloop : ∃ o, whileB (fun s8 => if (decide (s8 < (w.size : Int))) = true then Option.bind (idxS w s8) fun x18 => Option.bind (if (decide ((x18.toNat : Int) < 97)) = true then (some true) else (some (decide ((122 : Int) < (x18.toNat : Int))))) fun s20 => if s20 = true then some (.rt w) else some (.nx (w64 (s8 + 1))) else some (.bk s8)) 0 = some o ∧ ((o = .rt w ∧ ∃ b ∈ w.data.toList, az b = false) ∨ (o = .fin ((w.size : Nat) : Int) ∧ ∀ b ∈ w.data.toList, az b = true)) := by
  refine whileB_spec (fun s => ∃ k : Nat, s = (k : Int) ∧ k ≤ w.size ∧ ∀ j b, j < k → w.data.toList[j]? = some b → az b = true) (fun s => w.size - s.toNat) _ ⟨0, rfl, Nat.zero_le _, fun j b h => by omega⟩ ?_
  rintro _ ⟨k, rfl, hk, hI⟩
  by_cases hlt : k < w.size
  ·have hx : w.data.toList[k]? = some (w.data.toList[k]'(by rw [data_size]; exact hlt)) := List.getElem?_eq_getElem (by rw [data_size]; exact hlt)
   generalize w.data.toList[k]'(by rw [data_size]; exact hlt) = b at hx
   rw [if_pos (by simpa using hlt), idxS_list, hx, Option.bind_some]
   have hb : (if (decide ((b.toNat : Int) < 97)) = true then (some true) else (some (decide ((122 : Int) < (b.toNat : Int))))) = some (!(az b)) := by
    unfold az
    by_cases h1 : b.toNat < 97
    ·rw [if_pos (by rw [decide_eq_true_eq]; omega)]
     simp [Nat.not_le.2 h1]
    ·rw [if_neg (by rw [decide_eq_true_eq]; omega)]
     have h2 : 97 ≤ b.toNat := by omega
     simp only [h2, decide_true, Bool.true_and]
     congr 1
     rw [Bool.eq_iff_iff]
     simp
     omega
   rw [hb, Option.bind_some]
   cases hz : az b with
   | false => exact ⟨_, rfl, Or.inl ⟨rfl, b, List.mem_of_getElem? hx, hz⟩⟩
   | true =>
    refine ⟨_, rfl, ⟨k + 1, ?_, by omega, fun j c hj hc => ?_⟩, ?_⟩
    ·rw [w64_id (by omega) (by omega)]; rfl
    ·rcases Nat.lt_or_eq_of_le (Nat.le_of_lt_succ hj) with h | rfl
     ·exact hI j c h hc
     ·rw [hx] at hc; cases hc; exact hz
    ·rw [w64_id (by omega) (by omega)]; omega
  ·rw [if_neg (by simpa using hlt)]
   obtain rfl : k = w.size := by omega
   refine ⟨_, rfl, Or.inr ⟨rfl, fun b hb => ?_⟩⟩
   obtain ⟨j, hj⟩ := List.mem_iff_getElem?.1 hb
   exact hI j b (by have := (List.getElem?_eq_some_iff.1 hj).1; rw [data_size] at this; exact this) hj
 have htrim : strings_Trim w (⟨#[97, 98, 99, 100, 101, 102, 103, 104, 105, 106, 107, 108, 109, 110, 111, 112, 113, 114, 115, 116, 117, 118, 119, 120, 121, 122]⟩ : ByteArray) = some ⟨(Go.Lib.trimS w.data.toList azSet).toArray⟩ := by
  unfold strings_Trim
  rw [if_pos ⟨by omega, by decide, by decide⟩]
  rfl
 have hne : (!(strEq (⟨(Go.Lib.trimS w.data.toList azSet).toArray⟩ : ByteArray) (⟨#[]⟩ : ByteArray))) = decide (∃ b ∈ w.data.toList, az b = false) := by
  have h1 : strEq (⟨(Go.Lib.trimS w.data.toList azSet).toArray⟩ : ByteArray) (⟨#[]⟩ : ByteArray) = decide (Go.Lib.trimS w.data.toList azSet = []) := by
   unfold strEq
   rw [ByteArray.toList_eq, ByteArray.toList_eq, Bool.eq_iff_iff, beq_iff_eq, decide_eq_true_eq]
  rw [h1, Bool.eq_iff_iff, Bool.not_eq_true', decide_eq_false_iff_not, decide_eq_true_eq, trimS_none]
  constructor
  ·intro h
   refine Classical.byContradiction fun hn => h fun x hx => ?_
   rw [← az_set]
   cases hz : az x with
   | true => rfl
   | false => exact absurd ⟨x, hx, hz⟩ hn
  ·rintro ⟨b, hb, hz⟩ h
   have := h b hb
   rw [← az_set, hz] at this
   cases this
 obtain ⟨o, ho, hq⟩ := hloop
 unfold know_Stem portref2_StemOf
 rw [ho, Option.bind_some, htrim]
 simp only [Option.bind_some, hne]
 rcases hq with ⟨rfl, hbad⟩ | ⟨rfl, hall⟩
 ·refine ⟨w, rfl, ?_⟩
  by_cases h4 : (w.size : Int) < 4
  ·rw [if_pos (by simpa using h4), Option.bind_some, if_pos rfl]
  ·rw [if_neg (by simpa using h4), Option.bind_some, if_pos (by simpa using hbad)]
 ·rw [Lp.andThen_fin]
  by_cases h4 : (w.size : Int) < 4
  ·rw [if_pos (by simpa using h4), if_pos (by simpa using h4)]
   exact ⟨w, rfl, rfl⟩
  have hno : ¬ ∃ b ∈ w.data.toList, az b = false := fun ⟨b, hb, hz⟩ => by rw [hall b hb] at hz; cases hz
  rw [if_neg (by simpa using h4), if_neg (by simpa using h4), Option.bind_some, if_neg (by simpa using hall)]
  unfold portref2_StemOf_1
  obtain ⟨b1, e1⟩ := suf_some w (⟨#[105, 101, 115]⟩ : ByteArray) (by omega)
  obtain ⟨b2, e2⟩ := suf_some w (⟨#[115, 115, 101, 115]⟩ : ByteArray) (by omega)
  obtain ⟨b3, e3⟩ := suf_some w (⟨#[115, 115]⟩ : ByteArray) (by omega)
  obtain ⟨b4, e4⟩ := suf_some w (⟨#[115]⟩ : ByteArray) (by omega)
  obtain ⟨b5, e5⟩ := suf_some w (⟨#[105, 110, 103]⟩ : ByteArray) (by omega)
  obtain ⟨b6, e6⟩ := suf_some w (⟨#[101, 100]⟩ : ByteArray) (by omega)
  obtain ⟨c3, f3, g3⟩ := cut_some w (by omega) 3 (by omega)
  obtain ⟨c2, f2, _⟩ := cut_some w (by omega) 2 (by omega)
  obtain ⟨c1, f1, _⟩ := cut_some w (by omega) 1 (by omega)
  have hcat : ∃ r, catS c3 (⟨#[121]⟩ : ByteArray) = some r := by
   unfold catS
   rw [if_neg (by rw [show IntKind.i64.max = 9223372036854775807 by decide, show ((⟨#[121]⟩ : ByteArray).size) = 1 from rfl]; omega)]
   exact ⟨_, rfl⟩
  obtain ⟨r3, hr3⟩ := hcat
  have f3' : sliceS w none (some (w64 ((w.size : Int) - 3))) = some c3 := f3
  have f2' : sliceS w none (some (w64 ((w.size : Int) - 2))) = some c2 := f2
  have f1' : sliceS w none (some (w64 ((w.size : Int) - 1))) = some c1 := f1
  simp only [e1, e2, e3, e4, e5, e6, f3', f2', f1', hr3, Option.bind_some]
  cases b1 <;> cases b2 <;> cases b3 <;> cases b4 <;> simp only [Bool.false_eq_true, if_false, if_true] <;> (try exact ⟨_, rfl, rfl⟩)
  split
  ·exact ⟨_, rfl, rfl⟩
  split
  ·exact ⟨_, rfl, rfl⟩
  ·exact ⟨_, rfl, rfl⟩
end Go.Proofs.YtjdjmddclfhpeaaGreatDoor.M
namespace Go.Proofs.YtjdjmddclfhpeaaGreatDoor.M
open Go Go.Pu
set_option linter.unusedSimpArgs false
set_option linter.unusedVariables false
theorem u8_lt {a b : UInt8} : a < b ↔ a.toNat < b.toNat := UInt8.lt_iff_toNat_lt
theorem cmpB_zero : ∀ a b : List UInt8, Go.Lib.compareBytes a b = 0 ↔ a = b
 | [], [] => by simp [Go.Lib.compareBytes]
 | [], _ :: _ => by simp [Go.Lib.compareBytes]
 | _ :: _, [] => by simp [Go.Lib.compareBytes]
 | a :: a1s, b :: bs => by
  rw [Go.Lib.compareBytes]
  by_cases h1 : a < b
  ·rw [if_pos h1]
   constructor
   ·intro h; cases h
   ·intro h; cases h; rw [u8_lt] at h1; omega
  ·rw [if_neg h1]
   by_cases h2 : b < a
   ·rw [if_pos h2]
    constructor
    ·intro h; cases h
    ·intro h; cases h; rw [u8_lt] at h2; omega
   ·rw [if_neg h2, cmpB_zero a1s bs]
    rw [u8_lt] at h1 h2
    have : a = b := UInt8.toNat_inj.1 (by omega)
    simp [this]
theorem cmpB_swap : ∀ a b : List UInt8, Go.Lib.compareBytes a b = -Go.Lib.compareBytes b a
 | [], [] => by simp [Go.Lib.compareBytes]
 | [], _ :: _ => by simp [Go.Lib.compareBytes]
 | _ :: _, [] => by simp [Go.Lib.compareBytes]
 | a :: a1s, b :: bs => by
  rw [Go.Lib.compareBytes, Go.Lib.compareBytes, cmpB_swap a1s bs]
  simp only [u8_lt]
  split <;> split <;> omega
theorem cmpB_trans : ∀ a b c : List UInt8, Go.Lib.compareBytes a b < 0 → Go.Lib.compareBytes b c < 0 → Go.Lib.compareBytes a c < 0
 | [], b, [], h1, h2 => by
  cases b with
  | nil => exact h1
  | cons b bs => simp [Go.Lib.compareBytes] at h2
 | [], _, _ :: _, _, _ => by simp [Go.Lib.compareBytes]
 | _ :: _, [], _, h1, _ => by simp [Go.Lib.compareBytes] at h1
 | _ :: _, _ :: _, [], _, h2 => by simp [Go.Lib.compareBytes] at h2
 | a :: a1s, b :: bs, c :: cs, h1, h2 => by
  rw [Go.Lib.compareBytes] at h1 h2 ⊢
  simp only [u8_lt] at h1 h2 ⊢
  by_cases h3 : a.toNat < b.toNat
  ·by_cases h4 : b.toNat < c.toNat
   ·rw [if_pos (by omega)]; decide
   ·rw [if_neg h4] at h2
    by_cases h5 : c.toNat < b.toNat
    ·rw [if_pos h5] at h2; omega
    ·rw [if_pos (by omega)]; decide
  ·rw [if_neg h3] at h1
   by_cases h4 : b.toNat < a.toNat
   ·rw [if_pos h4] at h1; omega
   ·rw [if_neg h4] at h1
    by_cases h5 : b.toNat < c.toNat
    ·rw [if_pos (by omega)]; decide
    ·rw [if_neg h5] at h2
     by_cases h6 : c.toNat < b.toNat
     ·rw [if_pos h6] at h2; omega
     ·rw [if_neg h6] at h2
      rw [if_neg (by omega), if_neg (by omega)]
      exact cmpB_trans a1s bs cs h1 h2
theorem less_cmp : ∀ a b : List UInt8, Op.bytesLess a b = decide (Go.Lib.compareBytes a b < 0)
 | [], [] => by simp [Go.Lib.compareBytes, Op.bytesLess]
 | [], _ :: _ => by simp [Go.Lib.compareBytes, Op.bytesLess]
 | _ :: _, [] => by simp [Go.Lib.compareBytes, Op.bytesLess]
 | a :: a1s, b :: bs => by
  rw [Go.Lib.compareBytes, Op.bytesLess, less_cmp a1s bs]
  simp only [u8_lt]
  by_cases h1 : a.toNat < b.toNat
  ·simp [h1]
  ·by_cases h2 : b.toNat < a.toNat
   ·have : a ≠ b := fun h => by subst h; omega
    simp [h1, h2, this]
   ·have : a = b := UInt8.toNat_inj.1 (by omega)
    simp [h1, h2, this]
def cmpS (a b : ByteArray) : Int := Go.Lib.compareBytes a.data.toList b.data.toList
theorem cmpS_zero (a b : ByteArray) : cmpS a b = 0 ↔ a = b := by
 unfold cmpS
 rw [cmpB_zero]
 constructor
 ·intro h
  apply ByteArray.ext
  rw [← Array.toList_inj]
  exact h
 ·rintro rfl; rfl
theorem cmpS_swap (a b : ByteArray) : cmpS a b = -cmpS b a := cmpB_swap _ _
theorem cmpS_trans {a b c : ByteArray} (h1 : cmpS a b < 0) (h2 : cmpS b c < 0) : cmpS a c < 0 := cmpB_trans _ _ _ h1 h2
theorem cmpS_self (a : ByteArray) : cmpS a a = 0 := (cmpS_zero a a).2 rfl
theorem strLt_cmp (a b : ByteArray) : strLt a b = decide (cmpS a b < 0) := by
 unfold strLt cmpS
 rw [ByteArray.toList_eq, ByteArray.toList_eq, less_cmp]
theorem strEq_cmp (a b : ByteArray) : strEq a b = decide (a = b) := by
 unfold strEq
 rw [ByteArray.toList_eq, ByteArray.toList_eq, Bool.eq_iff_iff, beq_iff_eq, decide_eq_true_eq]
 constructor
 ·intro h
  apply ByteArray.ext
  rw [← Array.toList_inj]
  exact h
 ·rintro rfl; rfl
end Go.Proofs.YtjdjmddclfhpeaaGreatDoor.M
namespace Go.Proofs.YtjdjmddclfhpeaaGreatDoor.M
open Go Go.Pu
set_option linter.unusedSimpArgs false
set_option linter.unusedVariables false
theorem mapGet_put_ {κ α : Type} [DecidableEq κ] (l : List (κ × α)) (k k' : κ) (v : α) : mapGet (mapPut l k v) k' = if k = k' then some v else mapGet l k' := by
 unfold mapPut
 by_cases h : ∃ p ∈ l, p.1 = k
 ·rw [if_pos h]
  induction l with
  | nil => obtain ⟨p, hp, _⟩ := h; simp at hp
  | cons p l ih =>
   rw [List.map_cons, mapGet, mapGet]
   by_cases hp : p.1 = k
   ·rw [if_pos hp]
    by_cases hk : k = k'
    ·rw [if_pos hk, if_pos hk]
    ·rw [if_neg hk, if_neg hk, if_neg (by rw [hp]; exact hk)]
     by_cases h2 : ∃ p ∈ l, p.1 = k
     ·rw [ih h2, if_neg hk]
     ·have : l.map (fun q => if q.1 = k then (k, v) else q) = l := by
       conv => rhs; rw [← List.map_id l]
       apply List.map_congr_left
       intro q hq
       rw [if_neg (fun e => h2 ⟨q, hq, e⟩)]
       rfl
      rw [this]
   ·rw [if_neg hp]
    have h2 : ∃ p ∈ l, p.1 = k := by
     obtain ⟨q, hq, e⟩ := h
     rcases List.mem_cons.1 hq with rfl | hq
     ·exact absurd e hp
     ·exact ⟨q, hq, e⟩
    by_cases hp' : p.1 = k'
    ·rw [if_pos hp', if_pos hp', if_neg (fun e => hp (hp'.trans e.symm))]
    ·rw [if_neg hp', if_neg hp', ih h2]
 ·rw [if_neg h]
  induction l with
  | nil => simp [mapGet]
  | cons p l ih =>
   have hp : p.1 ≠ k := fun e => h ⟨p, by simp, e⟩
   have h2 : ¬ ∃ p ∈ l, p.1 = k := fun ⟨q, hq, e⟩ => h ⟨q, by simp [hq], e⟩
   rw [List.cons_append, mapGet, mapGet, ih h2]
   by_cases hp' : p.1 = k'
   ·rw [if_pos hp', if_pos hp', if_neg (fun e => hp (hp'.trans e.symm))]
   ·rw [if_neg hp', if_neg hp']
end Go.Proofs.YtjdjmddclfhpeaaGreatDoor.M
namespace Go.Proofs.YtjdjmddclfhpeaaGreatDoor.M
open Go Go.Pu
set_option linter.unusedSimpArgs false
set_option linter.unusedVariables false
theorem mid_half (n : Nat) (hn : n ≤ 4000000000000000000) : Option.bind (shr .u64 (IntKind.wrap .u64 (w64 (n : Int))) 1) (fun x => some (IntKind.wrap .i64 x)) = some ((n / 2 : Nat) : Int) := by
 have h1 : w64 (n : Int) = (n : Int) := w64_id (by omega) (by omega)
 have h2 : IntKind.wrap .u64 (n : Int) = (n : Int) := by
  simp only [IntKind.wrap, IntKind.bits, IntKind.signed]
  simp
  omega
 have h3 : IntKind.wrap .i64 ((n : Int).fdiv 2) = ((n / 2 : Nat) : Int) := by
  have : (n : Int).fdiv 2 = ((n / 2 : Nat) : Int) := by
   rw [Int.fdiv_eq_ediv_of_nonneg _ (by decide)]
   omega
  rw [this]
  exact w64_id (by omega) (by omega)
 rw [h1, h2, shr, if_neg (by decide)]
 have e : (2 : Int) ^ (min (1 : Int).toNat IntKind.u64.bits) = 2 := by decide
 rw [e]
 simp only [Option.bind_some, h3]
theorem search_loop {α R : Type} {l : List α} (hl : l.length ≤ 2000000000000000000) (f : α → Option Bool) (lo : α → Bool) (hf : ∀ x ∈ l, f x = some (lo x)) (hm : ∀ (p q : Nat) (x y : α), p < q → l[p]? = some x → l[q]? = some y → lo y = true → lo x = true)
  (body : Int × Int → Option (Ctl (Int × Int) R)) (hbody : ∀ s : Int × Int, body s = if (decide (s.1 < s.2)) = true then Option.bind (shr .u64 (IntKind.wrap .u64 (w64 (s.1 + s.2))) 1) (fun v => Option.bind (idx l (IntKind.wrap .i64 v)) fun x => Option.bind (f x) fun b => if b = true then some (.nx (w64 ((IntKind.wrap .i64 v) + 1), s.2)) else some (.nx (s.1, IntKind.wrap .i64 v))) else some (.bk (s.1, s.2))) :
  ∃ a : Nat, a ≤ l.length ∧ whileB body (0, (l.length : Int)) = some (.fin ((a : Int), (a : Int))) ∧ (∀ q x, q < a → l[q]? = some x → lo x = true) ∧ ∀ q x, a ≤ q → l[q]? = some x → lo x = false := by
 obtain ⟨o, ho, a, rfl, ha, hlo, hhi⟩ := whileB_spec (R := R) (body := body)
  (fun s => ∃ a b : Nat, s = ((a : Int), (b : Int)) ∧ a ≤ b ∧ b ≤ l.length ∧ (∀ q x, q < a → l[q]? = some x → lo x = true) ∧ ∀ q x, b ≤ q → l[q]? = some x → lo x = false) (fun s => (s.2 - s.1).toNat)
  (fun o => ∃ a : Nat, o = .fin ((a : Int), (a : Int)) ∧ a ≤ l.length ∧ (∀ q x, q < a → l[q]? = some x → lo x = true) ∧ ∀ q x, a ≤ q → l[q]? = some x → lo x = false) (s := (0, (l.length : Int)))
  ⟨0, l.length, rfl, Nat.zero_le _, Nat.le_refl _, fun q x h => absurd h (Nat.not_lt_zero _), fun q x h hx => absurd (List.getElem?_eq_some_iff.1 hx).1 (by omega)⟩ (by
  rintro _ ⟨a, b, rfl, hab, hb, h1, h2⟩
  rw [hbody]
  simp only
  by_cases hlt : (a : Int) < (b : Int)
  ·have hm' := mid_half (a + b) (by omega)
   rw [if_pos (by simpa using hlt)]
   cases hsh : shr .u64 (IntKind.wrap .u64 (w64 ((a : Int) + (b : Int)))) 1 with
   | none => rw [show ((a + b : Nat) : Int) = (a : Int) + (b : Int) by omega, hsh] at hm'; simp at hm'
   | some v =>
    rw [show ((a + b : Nat) : Int) = (a : Int) + (b : Int) by omega, hsh] at hm'
    simp only [Option.bind_some, Option.some.injEq] at hm'
    have hmb : (a + b) / 2 < l.length := by omega
    have hx : l[(a + b) / 2]? = some l[(a + b) / 2] := List.getElem?_eq_getElem hmb
    generalize l[(a + b) / 2] = x at hx
    simp only [Option.bind_some, hm', idx_nat, hx, hf x (List.mem_of_getElem? hx)]
    cases hd : lo x with
    | true =>
     simp only [if_true]
     rw [w64_id (by omega) (by omega)]
     refine ⟨_, rfl, ⟨(a + b) / 2 + 1, b, by congr 1, by omega, hb, fun q y hq hy => ?_, h2⟩, by simp only; omega⟩
     rcases Nat.lt_or_eq_of_le (Nat.le_of_lt_succ hq) with h | rfl
     ·exact hm q _ y x h hy hx hd
     ·rw [hx] at hy; cases hy; exact hd
    | false =>
     simp only [Bool.false_eq_true, if_false]
     refine ⟨_, rfl, ⟨a, (a + b) / 2, rfl, by omega, by omega, h1, fun q y hq hy => ?_⟩, by simp only; omega⟩
     rcases Nat.lt_or_eq_of_le hq with h | rfl
     ·rw [← Bool.not_eq_true]
      intro hy'
      rw [hm _ q x y h hx hy hy'] at hd
      cases hd
     ·rw [hx] at hy; cases hy; exact hd
  ·rw [if_neg (by simpa using hlt)]
   obtain rfl : a = b := by omega
   exact ⟨_, rfl, a, rfl, hb, h1, h2⟩)
 exact ⟨a, ha, ho, hlo, hhi⟩
end Go.Proofs.YtjdjmddclfhpeaaGreatDoor.M
namespace Go.Proofs.YtjdjmddclfhpeaaGreatDoor.M
open Go Go.Pu
set_option linter.unusedSimpArgs false
set_option linter.unusedVariables false
theorem bytes_at (s : ByteArray) (k : Nat) : s[k]? = s.data.toList[k]? := by
 by_cases h : k < s.size
 ·rw [getElem?_pos s k h]
  have h2 : k < s.data.toList.length := h
  rw [List.getElem?_eq_getElem h2]
  rfl
 ·rw [getElem?_neg s k h, List.getElem?_eq_none (by simpa using h)]
theorem idxS_nat (s : ByteArray) (k : Nat) : idxS s (k : Int) = s.data.toList[k]? := by
 unfold idxS
 rw [if_pos (by omega), Int.toNat_natCast, bytes_at]
def lowb (b : UInt8) : Bool := decide ((b.toNat : Int) < 32) || ((b.toNat : Int) == 127)
theorem plain_val (s : ByteArray) (feeds : Bool) (hs : s.size ≤ 1000000) : know_plain s feeds = some (!(s.data.toList.any fun b => lowb b && (((b.toNat : Int) != 10) || (!feeds)))) := by
 unfold know_plain
 have hsz : s.data.toList.length = s.size := rfl
 obtain ⟨x, hx, hq⟩ := whileB_spec (R := Bool) (body := fun (s8 : Int) => if (decide (s8 < (s.size : Int))) = true then Option.bind (idxS s s8) fun x18 => Option.bind (if (decide ((x18.toNat : Int) < 32)) = true then (some true) else (some ((x18.toNat : Int) == 127))) fun s20 => Option.bind (if s20 = true then (some (((x18.toNat : Int) != 10) || (!feeds))) else (some false)) fun s22 => if s22 = true then some (.rt false) else some (.nx (w64 (s8 + 1))) else some (.bk s8))
  (fun i => ∃ k : Nat, i = (k : Int) ∧ k ≤ s.size ∧ ∀ j b, j < k → s.data.toList[j]? = some b → (lowb b && (((b.toNat : Int) != 10) || (!feeds))) = false) (fun i => s.size - i.toNat)
  (fun x => (x = .rt false ∧ (s.data.toList.any fun b => lowb b && (((b.toNat : Int) != 10) || (!feeds))) = true) ∨ (∃ t, x = .fin t ∧ (s.data.toList.any fun b => lowb b && (((b.toNat : Int) != 10) || (!feeds))) = false)) (s := 0)
  ⟨0, rfl, Nat.zero_le _, fun j b h => absurd h (Nat.not_lt_zero _)⟩
  (by
   rintro _ ⟨k, rfl, hk, hI⟩
   by_cases hlt : k < s.size
   ·have e : decide ((k : Int) < (s.size : Int)) = true := decide_eq_true (by omega)
    have hb : s.data.toList[k]? = some (s.data.toList[k]'(by omega)) := List.getElem?_eq_getElem (by omega)
    generalize s.data.toList[k]'(by omega) = b at hb
    have hw : w64 ((k : Int) + 1) = ((k + 1 : Nat) : Int) := by rw [w64_id (by omega) (by omega)]; omega
    have h1 : (if (decide ((b.toNat : Int) < 32)) = true then (some true) else (some ((b.toNat : Int) == 127))) = some (lowb b) := by
     unfold lowb
     by_cases h : (b.toNat : Int) < 32 <;> simp [h]
    have h2 : (if lowb b = true then (some (((b.toNat : Int) != 10) || (!feeds))) else (some false)) = some (lowb b && (((b.toNat : Int) != 10) || (!feeds))) := by
     cases lowb b <;> simp
    simp only [e, if_true, idxS_nat, hb, Option.bind_some, hw, h1, h2]
    by_cases hok : (lowb b && (((b.toNat : Int) != 10) || (!feeds))) = true
    ·rw [if_pos hok]
     refine ⟨_, rfl, .inl ⟨rfl, ?_⟩⟩
     rw [List.any_eq_true]
     exact ⟨b, List.mem_of_getElem? hb, hok⟩
    ·rw [if_neg hok]
     refine ⟨_, rfl, ⟨k + 1, rfl, by omega, fun j c hj hc => ?_⟩, by simp only [Int.toNat_natCast]; omega⟩
     rcases Nat.lt_or_eq_of_le (Nat.le_of_lt_succ hj) with h | rfl
     ·exact hI j c h hc
     ·rw [hb] at hc; cases hc; simpa using hok
   ·have e : decide ((k : Int) < (s.size : Int)) = false := decide_eq_false (by omega)
    simp only [e, Bool.false_eq_true, if_false]
    refine ⟨_, rfl, .inr ⟨_, rfl, ?_⟩⟩
    rw [List.any_eq_false]
    intro b hb
    obtain ⟨j, hj, rfl⟩ := List.mem_iff_getElem.1 hb
    rw [hI j _ (by omega) (List.getElem?_eq_getElem hj)]
    simp)
 rw [hx]
 rcases hq with ⟨rfl, h⟩ | ⟨t, rfl, h⟩
 ·rw [h]
  rfl
 ·rw [h]
  rfl
def textBad (v : know_Entry) : Int := if ((decide ((200 : Int) < (v.title.size : Int))) || (decide ((20000 : Int) < (v.body.size : Int)))) = true then 4 else if (v.title.data.toList.any lowb || (v.body.data.toList.any fun b => lowb b && (((b.toNat : Int) != 10) || (!true)))) = true then 9 else 0
theorem textBad_code (v : know_Entry) : know_checkText v.title v.body = some (textBad v) := by
 unfold know_checkText textBad
 by_cases h4 : ((decide ((200 : Int) < (v.title.size : Int))) || (decide ((20000 : Int) < (v.body.size : Int)))) = true
 ·rw [if_pos h4, if_pos h4]
 rw [if_neg h4, if_neg h4]
 have ht : v.title.size ≤ 200 ∧ v.body.size ≤ 20000 := by simp at h4; omega
 rw [plain_val v.title false (by omega), plain_val v.body true (by omega)]
 have e : (v.title.data.toList.any fun b => lowb b && (((b.toNat : Int) != 10) || (!false))) = v.title.data.toList.any lowb := by
  congr 1
  funext b
  simp
 rw [e]
 generalize (v.body.data.toList.any fun b => lowb b && (((b.toNat : Int) != 10) || (!true))) = bb
 cases v.title.data.toList.any lowb with
 | true => simp
 | false => cases bb <;> rfl
theorem textBad_size {v : know_Entry} (h : textBad v = 0) : v.title.size ≤ 200 ∧ v.body.size ≤ 20000 := by
 unfold textBad at h
 by_cases h4 : ((decide ((200 : Int) < (v.title.size : Int))) || (decide ((20000 : Int) < (v.body.size : Int)))) = true
 ·rw [if_pos h4] at h
  cases h
 ·simp at h4
  omega
end Go.Proofs.YtjdjmddclfhpeaaGreatDoor.M
namespace Go.Proofs.YtjdjmddclfhpeaaGreatDoor.M
open Go Go.Pu
set_option linter.unusedSimpArgs false
set_option linter.unusedVariables false
structure KeyOrd (α κ : Type) where
 key : α → κ
 lt : κ → κ → Prop
 irr : ∀ a, ¬ lt a a
 tr : ∀ a b c, lt a b → lt b c → lt a c
 tot : ∀ a b, lt a b ∨ a = b ∨ lt b a
section
variable {α κ : Type} (O : KeyOrd α κ)
def KeyOrd.Rise (l : List α) : Prop := l.Pairwise fun a b => O.lt (O.key a) (O.key b)
open Classical in
noncomputable def KeyOrd.mrg : List α → List α → List α
 | [], b => b
 | a :: a1, [] => a :: a1
 | a :: a1, b :: b1 => if O.lt (O.key a) (O.key b) then a :: KeyOrd.mrg a1 (b :: b1) else if O.key a = O.key b then b :: KeyOrd.mrg a1 b1 else b :: KeyOrd.mrg (a :: a1) b1
termination_by a b => a.length + b.length
variable {O}
theorem KeyOrd.mrg_nil (b : List α) : O.mrg [] b = b := by rw [KeyOrd.mrg]
theorem KeyOrd.mrg_nil2 (a : List α) : O.mrg a [] = a := by cases a <;> rw [KeyOrd.mrg]
theorem KeyOrd.mrg_len (n : Nat) : ∀ (a b : List α), a.length + b.length = n → (O.mrg a b).length ≤ a.length + b.length := by
 induction n using Nat.strongRecOn with
 | ind n ih =>
  intro a b hn
  cases a with
  | nil => rw [mrg_nil]; simp
  | cons x a =>
   cases b with
   | nil => rw [mrg_nil2]; simp
   | cons y b =>
    simp only [List.length_cons] at hn
    rw [KeyOrd.mrg]
    split
    ·have := ih (a.length + (y :: b).length) (by simp; omega) a (y :: b) rfl
     simp only [List.length_cons] at this ⊢
     omega
    ·split
     ·have := ih (a.length + b.length) (by omega) a b rfl
      simp only [List.length_cons] at this ⊢
      omega
     ·have := ih ((x :: a).length + b.length) (by simp; omega) (x :: a) b rfl
      simp only [List.length_cons] at this ⊢
      omega
theorem KeyOrd.mrg_spec (n : Nat) : ∀ (a b : List α), a.length + b.length = n → O.Rise a → O.Rise b → O.Rise (O.mrg a b) ∧ ∀ x, x ∈ O.mrg a b ↔ x ∈ b ∨ (x ∈ a ∧ ∀ y ∈ b, O.key y ≠ O.key x) := by
 induction n using Nat.strongRecOn with
 | ind n ih =>
  intro a b hn ha hb
  cases a with
  | nil =>
   rw [mrg_nil]
   exact ⟨hb, fun x => ⟨.inl, fun h => h.elim id fun h => nomatch h.1⟩⟩
  | cons p a =>
   cases b with
   | nil =>
    rw [mrg_nil2]
    exact ⟨ha, fun x => ⟨fun h => .inr ⟨h, fun y hy => nomatch hy⟩, fun h => h.elim (fun h => nomatch h) fun h => h.1⟩⟩
   | cons q b =>
    simp only [List.length_cons] at hn
    have ha' := List.pairwise_cons.1 ha
    have hb' := List.pairwise_cons.1 hb
    rw [KeyOrd.mrg]
    split
    ·rename_i hlt
     obtain ⟨h1, h2⟩ := ih (a.length + (q :: b).length) (by simp; omega) a (q :: b) rfl ha'.2 hb
     refine ⟨List.pairwise_cons.2 ⟨fun x hx => ?_, h1⟩, fun x => ?_⟩
     ·rcases (h2 x).1 hx with h3 | h3
      ·rcases List.mem_cons.1 h3 with rfl | h4
       ·exact hlt
       ·exact O.tr _ _ _ hlt (hb'.1 x h4)
      ·exact ha'.1 x h3.1
     ·rw [List.mem_cons, h2 x, List.mem_cons]
      have hp : ∀ y ∈ q :: b, O.key y ≠ O.key p := fun y hy e => by
       rcases List.mem_cons.1 hy with rfl | h4
       ·rw [e] at hlt; exact O.irr _ hlt
       ·have := O.tr _ _ _ hlt (hb'.1 y h4)
        rw [e] at this
        exact O.irr _ this
      constructor
      ·rintro (rfl | h3 | h3)
       ·exact .inr ⟨List.mem_cons_self, hp⟩
       ·exact .inl h3
       ·exact .inr ⟨List.mem_cons_of_mem _ h3.1, h3.2⟩
      ·rintro (h3 | ⟨h3, h4⟩)
       ·exact .inr (.inl h3)
       ·rcases List.mem_cons.1 h3 with rfl | h5
        ·exact .inl rfl
        ·exact .inr (.inr ⟨h5, h4⟩)
    ·rename_i hnlt
     split
     ·rename_i heq
      obtain ⟨h1, h2⟩ := ih (a.length + b.length) (by omega) a b rfl ha'.2 hb'.2
      refine ⟨List.pairwise_cons.2 ⟨fun x hx => ?_, h1⟩, fun x => ?_⟩
      ·rcases (h2 x).1 hx with h3 | h3
       ·exact hb'.1 x h3
       ·rw [← heq]; exact ha'.1 x h3.1
      ·rw [List.mem_cons, h2 x]
       constructor
       ·rintro (rfl | h3 | ⟨h3, h4⟩)
        ·exact .inl List.mem_cons_self
        ·exact .inl (List.mem_cons_of_mem _ h3)
        ·refine .inr ⟨List.mem_cons_of_mem _ h3, fun y hy e => ?_⟩
         rcases List.mem_cons.1 hy with rfl | h5
         ·have := ha'.1 x h3
          rw [heq, e] at this
          exact O.irr _ this
         ·exact h4 y h5 e
       ·rintro (h3 | ⟨h3, h4⟩)
        ·rcases List.mem_cons.1 h3 with rfl | h5
         ·exact .inl rfl
         ·exact .inr (.inl h5)
        ·rcases List.mem_cons.1 h3 with rfl | h5
         ·exact absurd heq.symm (h4 q List.mem_cons_self)
         ·exact .inr (.inr ⟨h5, fun y hy => h4 y (List.mem_cons_of_mem _ hy)⟩)
     ·rename_i hne
      have hgt : O.lt (O.key q) (O.key p) := by
       rcases O.tot (O.key p) (O.key q) with h | h | h
       ·exact absurd h hnlt
       ·exact absurd h hne
       ·exact h
      obtain ⟨h1, h2⟩ := ih ((p :: a).length + b.length) (by simp; omega) (p :: a) b rfl ha hb'.2
      refine ⟨List.pairwise_cons.2 ⟨fun x hx => ?_, h1⟩, fun x => ?_⟩
      ·rcases (h2 x).1 hx with h3 | h3
       ·exact hb'.1 x h3
       ·rcases List.mem_cons.1 h3.1 with rfl | h5
        ·exact hgt
        ·exact O.tr _ _ _ hgt (ha'.1 x h5)
      ·rw [List.mem_cons, h2 x]
       constructor
       ·rintro (rfl | h3 | ⟨h3, h4⟩)
        ·exact .inl List.mem_cons_self
        ·exact .inl (List.mem_cons_of_mem _ h3)
        ·refine .inr ⟨h3, fun y hy e => ?_⟩
         rcases List.mem_cons.1 hy with rfl | h5
         ·rcases List.mem_cons.1 h3 with rfl | h6
          ·exact hne e.symm
          ·have := O.tr _ _ _ hgt (ha'.1 x h6)
           rw [e] at this
           exact O.irr _ this
         ·exact h4 y h5 e
       ·rintro (h3 | ⟨h3, h4⟩)
        ·rcases List.mem_cons.1 h3 with rfl | h5
         ·exact .inl rfl
         ·exact .inr (.inl h5)
        ·exact .inr (.inr ⟨h3, fun y hy => h4 y (List.mem_cons_of_mem _ hy)⟩)
end
theorem merge_loop {α κ R : Type} (O : KeyOrd α κ) (cmp : α → α → Option Int) (lim : Nat) (hc : ∀ a b, ∃ c, cmp a b = some c ∧ (c < 0 ↔ O.lt (O.key a) (O.key b)) ∧ (c = 0 ↔ O.key a = O.key b)) (a b : List α) (hlen : a.length + b.length ≤ lim)
  (body : List α × List α × List α → Option (Ctl (List α × List α × List α) R))
  (hbody : ∀ s, body s = if ((decide ((0 : Int) < (s.1.length : Int))) && (decide ((0 : Int) < (s.2.1.length : Int)))) = true then Option.bind (Option.bind (idx s.1 0) fun x54 => Option.bind (idx s.2.1 0) fun x63 => Option.bind (cmp x54 x63) fun x72 => if (decide (x72 < 0)) = true then Option.bind (appendL lim s.2.2 ([x54] : List α)) fun x96 => Option.bind (sliceL s.1 (some 1) none) fun x102 => some (x102, s.2.1, x96) else Option.bind (if (x72 == 0) = true then Option.bind (sliceL s.1 (some 1) none) fun x115 => some x115 else some s.1) fun s107 => Option.bind (appendL lim s.2.2 ([x63] : List α)) fun x139 => Option.bind (sliceL s.2.1 (some 1) none) fun x145 => some (s107, x145, x139)) fun s41 => some (.nx (s41.1, s41.2.1, s41.2.2)) else some (.bk (s.1, s.2.1, s.2.2))) :
  ∃ s6 y, whileB body (a, b, []) = some (.fin s6) ∧ appendL lim s6.2.2 s6.1 = some y ∧ appendL lim y s6.2.1 = some (O.mrg a b) := by
 have tl : ∀ (x : α) (l : List α), sliceL (x :: l) (some 1) none = some l := fun x l => by
  unfold sliceL bounds
  simp
  omega
 have fin : ∀ (p : List α × List α × List α), p.2.2 ++ O.mrg p.1 p.2.1 = O.mrg a b → p.2.2.length + p.1.length + p.2.1.length ≤ lim → (p.1 = [] ∨ p.2.1 = []) → ∃ y, appendL lim p.2.2 p.1 = some y ∧ appendL lim y p.2.1 = some (O.mrg a b) := by
  rintro ⟨u, v, t⟩ h1 h2 h3
  dsimp only at h1 h2 h3 ⊢
  unfold appendL
  refine ⟨t ++ u, if_pos (by omega), ?_⟩
  rw [if_pos (by rw [List.length_append]; omega)]
  rcases h3 with rfl | rfl
  ·rw [← h1, KeyOrd.mrg_nil, List.append_nil]
  ·rw [← h1, KeyOrd.mrg_nil2, List.append_nil]
 obtain ⟨o, ho, p, rfl, h1, h2, h3⟩ := whileB_spec (R := R) (body := body) (fun s => s.2.2 ++ O.mrg s.1 s.2.1 = O.mrg a b ∧ s.2.2.length + s.1.length + s.2.1.length ≤ lim) (fun s => s.1.length + s.2.1.length)
  (fun o => ∃ p, o = .fin p ∧ p.2.2 ++ O.mrg p.1 p.2.1 = O.mrg a b ∧ p.2.2.length + p.1.length + p.2.1.length ≤ lim ∧ (p.1 = [] ∨ p.2.1 = [])) (s := (a, b, [])) ⟨rfl, by simpa using hlen⟩ (by
  rintro ⟨u, v, t⟩ ⟨i1, i2⟩
  dsimp only at i1 i2
  rw [hbody]
  dsimp only
  cases u with
  | nil =>
   rw [if_neg (by simp)]
   exact ⟨_, rfl, _, rfl, i1, i2, .inl rfl⟩
  | cons x u =>
   cases v with
   | nil =>
    rw [if_neg (by simp)]
    exact ⟨_, rfl, _, rfl, i1, i2, .inr rfl⟩
   | cons y v =>
    rw [if_pos (by simp <;> omega)]
    have ix : idx (x :: u) 0 = some x := rfl
    have iy : idx (y :: v) 0 = some y := rfl
    obtain ⟨c, c1, c2, c3⟩ := hc x y
    simp only [List.length_cons] at i2
    have ap : ∀ z : α, appendL lim t [z] = some (t ++ [z]) := fun z => by
     unfold appendL
     rw [if_pos (by rw [List.length_singleton]; omega)]
    simp only [ix, iy, Option.bind_some, c1, tl, ap]
    by_cases h : c < 0
    ·rw [if_pos (decide_eq_true h)]
     refine ⟨_, rfl, ⟨?_, by simp <;> omega⟩, by simp <;> omega⟩
     dsimp only
     rw [← i1, KeyOrd.mrg, if_pos (c2.1 h)]
     simp
    ·rw [if_neg (by simpa using h)]
     by_cases h0 : c = 0
     ·have e0 : (c == 0) = true := by simpa using h0
      simp only [e0, if_true, Option.bind_some]
      refine ⟨_, rfl, ⟨?_, by simp <;> omega⟩, by simp <;> omega⟩
      dsimp only
      rw [← i1, KeyOrd.mrg, if_neg (fun h5 => h (c2.2 h5)), if_pos (c3.1 h0)]
      simp
     ·have e0 : (c == 0) = false := by simpa using h0
      simp only [e0, Bool.false_eq_true, if_false, Option.bind_some]
      refine ⟨_, rfl, ⟨?_, by simp <;> omega⟩, by simp <;> omega⟩
      dsimp only
      rw [← i1, KeyOrd.mrg, if_neg (fun h5 => h (c2.2 h5)), if_neg (fun h5 => h0 (c3.2 h5))]
      simp)
 obtain ⟨y, y1, y2⟩ := fin p h1 h2 h3
 exact ⟨p, y, ho, y1, y2⟩
end Go.Proofs.YtjdjmddclfhpeaaGreatDoor.M
namespace Go.Proofs.YtjdjmddclfhpeaaGreatDoor.M
open Go Go.Pu
set_option linter.unusedSimpArgs false
set_option linter.unusedVariables false
noncomputable def stemF (w : ByteArray) : ByteArray := (know_Stem w).getD w
theorem stemF_val (w : ByteArray) (hw : w.size ≤ 1000000000000) : know_Stem w = some (stemF w) ∧ portref2_StemOf w = some (stemF w) := by
 obtain ⟨r, h1, h2⟩ := stem_eq w hw
 have : stemF w = r := by unfold stemF; rw [h1]; rfl
 rw [this]
 exact ⟨h1, h2⟩
theorem wordsF_small : ∀ (n : Nat) (l : List UInt8), ∀ w ∈ wordsF n l, w.size ≤ 30
 | 0, _, w, h => by cases h
 | n + 1, [], w, h => by cases h
 | n + 1, b :: l, w, h => by
  rw [wordsF] at h
  rcases List.mem_append.1 h with h1 | h1
  ·unfold headW at h1
   split at h1
   ·rename_i hc
    rw [List.mem_singleton] at h1
    subst h1
    unfold lowL
    show (List.map low8 (List.takeWhile wb (b :: l))).toArray.size ≤ 30
    rw [List.size_toArray, List.length_map]
    exact hc.2
   ·cases h1
  ·exact wordsF_small n _ w h1
theorem words_small (l : List UInt8) : ∀ w ∈ wordsL l, w.size ≤ 30 := wordsF_small _ _
theorem words_len (l : List UInt8) : (wordsL l).length ≤ l.length := wordsF_length _ _
noncomputable def stemsL (s : ByteArray) : List ByteArray := (wordsL s.data.toList).map stemF
theorem stemsL_len (s : ByteArray) : (stemsL s).length ≤ s.size := by
 unfold stemsL
 rw [List.length_map]
 exact words_len _
open Classical in
noncomputable def pos (S : List ByteArray) (s : ByteArray) (k : Nat) : List Int := ((List.range k).filter fun i => S[i]? = some s).map fun (i : Nat) => (i : Int)
theorem pos_zero (S : List ByteArray) (s : ByteArray) : pos S s 0 = [] := rfl
theorem pos_succ (S : List ByteArray) (s : ByteArray) (k : Nat) : pos S s (k + 1) = if S[k]? = some s then pos S s k ++ [(k : Int)] else pos S s k := by
 unfold pos
 rw [List.range_succ, List.filter_append, List.map_append]
 by_cases h : S[k]? = some s
 ·rw [if_pos h]
  simp [h]
 ·rw [if_neg h]
  simp [h]
theorem pos_len (S : List ByteArray) (s : ByteArray) (k : Nat) : (pos S s k).length ≤ k := by
 unfold pos
 rw [List.length_map]
 exact Nat.le_trans (List.length_filter_le _ _) (by simp)
theorem pos_ne {S : List ByteArray} {s : ByteArray} {k : Nat} : pos S s k ≠ [] ↔ ∃ i, i < k ∧ S[i]? = some s := by
 unfold pos
 rw [Ne, List.map_eq_nil_iff, List.filter_eq_nil_iff]
 simp
theorem pos_bnd {S : List ByteArray} {s : ByteArray} {k : Nat} {n : Int} (h : n ∈ pos S s k) : ∃ i : Nat, n = (i : Int) ∧ i < k ∧ S[i]? = some s := by
 unfold pos at h
 obtain ⟨i, hi, rfl⟩ := List.mem_map.1 h
 rw [List.mem_filter] at hi
 exact ⟨i, rfl, by simpa using hi.1, by simpa using hi.2⟩
theorem pos_rise (S : List ByteArray) (s : ByteArray) (k : Nat) : (pos S s k).Pairwise (· < ·) := by
 unfold pos
 rw [List.pairwise_map]
 refine List.Pairwise.filter _ ?_
 exact List.pairwise_lt_range.imp fun h => by omega
noncomputable def postAt (v : know_Entry) (kt kb : Nat) (s : ByteArray) : know_Posting := ⟨v.id_, pos (stemsL v.title) s kt, pos (stemsL v.body) s kb⟩
def postE (p : know_Posting) : Prop := p.title = [] ∧ p.body = []
instance (p : know_Posting) : Decidable (postE p) := inferInstanceAs (Decidable (p.title = [] ∧ p.body = []))
noncomputable def postOf (v : know_Entry) (s : ByteArray) : know_Posting := postAt v (stemsL v.title).length (stemsL v.body).length s
def hasS (v : know_Entry) (s : ByteArray) : Prop := ¬ postE (postOf v s)
theorem hasS_iff (v : know_Entry) (s : ByteArray) : hasS v s ↔ s ∈ stemsL v.title ∨ s ∈ stemsL v.body := by
 unfold hasS postE postOf postAt
 dsimp only
 have e : ∀ S : List ByteArray, pos S s S.length ≠ [] ↔ s ∈ S := fun S => by
  rw [pos_ne, List.mem_iff_getElem?]
  exact ⟨fun ⟨i, _, h⟩ => ⟨i, h⟩, fun ⟨i, h⟩ => ⟨i, (List.getElem?_eq_some_iff.1 h).1, h⟩⟩
 rw [← e (stemsL v.title), ← e (stemsL v.body)]
 by_cases h1 : pos (stemsL v.title) s (stemsL v.title).length = []
 ·by_cases h2 : pos (stemsL v.body) s (stemsL v.body).length = []
  ·simp [h1, h2]
  ·simp [h1, h2]
 ·simp [h1]
theorem mapPut_keys {κ α : Type} [DecidableEq κ] (l : List (κ × α)) (k : κ) (v : α) : (mapPut l k v).map (·.1) = if (mapGet l k).isSome = true then l.map (·.1) else l.map (·.1) ++ [k] := by
 have hg : (mapGet l k).isSome = true ↔ ∃ p ∈ l, p.1 = k := by
  induction l with
  | nil => simp [mapGet]
  | cons p l ih =>
   rw [mapGet]
   by_cases h : p.1 = k
   ·rw [if_pos h]
    exact ⟨fun _ => ⟨p, List.mem_cons_self, h⟩, fun _ => rfl⟩
   ·rw [if_neg h, ih]
    constructor
    ·rintro ⟨q, hq, e⟩
     exact ⟨q, List.mem_cons_of_mem _ hq, e⟩
    ·rintro ⟨q, hq, e⟩
     rcases List.mem_cons.1 hq with rfl | hq
     ·exact absurd e h
     ·exact ⟨q, hq, e⟩
 unfold mapPut
 by_cases h : ∃ p ∈ l, p.1 = k
 ·rw [if_pos h, if_pos (hg.2 h), List.map_map]
  refine List.map_congr_left fun q _ => ?_
  by_cases hq : q.1 = k
  ·simp [hq]
  ·simp [hq]
 ·rw [if_neg h, if_neg fun e => h (hg.1 e), List.map_append]
  rfl
theorem mapGet_mem {κ α : Type} [DecidableEq κ] {l : List (κ × α)} {k : κ} : (mapGet l k).isSome = true ↔ k ∈ l.map (·.1) := by
 induction l with
 | nil => simp [mapGet]
 | cons p l ih =>
  rw [mapGet, List.map_cons, List.mem_cons]
  by_cases h : p.1 = k
  ·rw [if_pos h]
   exact ⟨fun _ => .inl h.symm, fun _ => rfl⟩
  ·rw [if_neg h, ih]
   exact ⟨.inr, fun h2 => h2.elim (fun e => absurd e.symm h) id⟩
theorem nodup_snoc {α : Type} {l : List α} {x : α} (h : l.Nodup) (hx : x ∉ l) : (l ++ [x]).Nodup := by
 rw [List.nodup_append]
 refine ⟨h, by simp, fun a ha b hb e => ?_⟩
 rw [List.mem_singleton] at hb
 subst hb
 exact hx (e ▸ ha)
structure Noted (v : know_Entry) (kt kb : Nat) (s : List (ByteArray × know_Posting) × List ByteArray) : Prop where
 get : ∀ t, mapGet s.1 t = if postE (postAt v kt kb t) then none else some (postAt v kt kb t)
 keys : s.2 = s.1.map (·.1)
 nod : s.2.Nodup
 len : s.2.length ≤ kt + kb
theorem Noted.getD {v : know_Entry} {kt kb : Nat} {s : List (ByteArray × know_Posting) × List ByteArray} (h : Noted v kt kb s) (t : ByteArray) : (mapGet s.1 t).getD ⟨v.id_, [], []⟩ = postAt v kt kb t := by
 rw [h.get]
 split
 ·rename_i he
  obtain ⟨h1, h2⟩ := he
  show (⟨v.id_, [], []⟩ : know_Posting) = postAt v kt kb t
  unfold postAt at h1 h2 ⊢
  dsimp only at h1 h2
  rw [h1, h2]
 ·rfl
theorem note_round (v : know_Entry) (title : Bool) (hl : (stemsL v.title).length ≤ 1000000 ∧ (stemsL v.body).length ≤ 1000000) (kt kb : Nat) (hkt : kt ≤ (stemsL v.title).length) (hkb : kb ≤ (stemsL v.body).length) (hlt : if title = true then kt < (stemsL v.title).length else kb < (stemsL v.body).length)
  (s : List (ByteArray × know_Posting) × List ByteArray) (hs : Noted v kt kb s) : ∃ s', idxNote v.id_ title (wordsL (if title = true then v.title else v.body).data.toList) (if title = true then kt else kb) s = some (.nx s') ∧ Noted v (if title = true then kt + 1 else kt) (if title = true then kb else kb + 1) s' := by
 unfold idxNote
 have key : ∀ (tx : ByteArray) (k : Nat), k < (stemsL tx).length → ∃ w, (wordsL tx.data.toList)[k]? = some w ∧ know_Stem w = some (stemF w) ∧ (stemsL tx)[k]? = some (stemF w) := fun tx k hk => by
  unfold stemsL at hk ⊢
  rw [List.length_map] at hk
  refine ⟨(wordsL tx.data.toList)[k], List.getElem?_eq_getElem hk, (stemF_val _ ?_).1, by simp [hk]⟩
  have := words_small tx.data.toList _ (List.getElem_mem hk)
  omega
 obtain ⟨w, h1, h2, h3⟩ := key (if title = true then v.title else v.body) (if title = true then kt else kb) (by cases title <;> simpa using hlt)
 generalize stemF w = t at h2 h3
 rw [idx_nat, h1, Option.bind_some, h2, Option.bind_some]
 have hq : ∃ q, (if (mapGet s.1 t).isSome = true then some s.2 else appendL 8796093022208 s.2 [t]) = some q ∧ q = (if (mapGet s.1 t).isSome = true then s.2 else s.2 ++ [t]) ∧ q.Nodup ∧ q.length ≤ kt + kb + 1 := by
  by_cases hi : (mapGet s.1 t).isSome = true
  ·rw [if_pos hi, if_pos hi]
   exact ⟨_, rfl, rfl, hs.nod, by have := hs.len; omega⟩
  ·rw [if_neg hi, if_neg hi]
   unfold appendL
   have := hs.len
   rw [if_pos (by rw [List.length_singleton]; omega)]
   refine ⟨_, rfl, rfl, nodup_snoc hs.nod ?_, by rw [List.length_append, List.length_singleton]; omega⟩
   rw [hs.keys]
   exact fun hm => hi (mapGet_mem.2 hm)
 obtain ⟨q, q1, q2, q3, q4⟩ := hq
 rw [q1, Option.bind_some]
 unfold idxPut
 rw [hs.getD t]
 have fin : ∀ (kt' kb' : Nat) (p : know_Posting), p = postAt v kt' kb' t → ¬ postE p → (∀ t', t' ≠ t → postAt v kt' kb' t' = postAt v kt kb t') → kt + kb + 1 ≤ kt' + kb' → Noted v kt' kb' (mapPut s.1 t p, q) := fun kt' kb' p hp hne ho hle => by
  refine ⟨fun t' => ?_, ?_, q3, by dsimp only; omega⟩
  ·dsimp only
   rw [mapGet_put_]
   by_cases he : t = t'
   ·subst he
    rw [if_pos rfl, ← hp, if_neg hne]
   ·rw [if_neg he, hs.get, ho t' (Ne.symm he)]
  ·dsimp only
   rw [mapPut_keys, q2, hs.keys]
 cases title with
 | true =>
  simp only [if_true] at h3 hlt ⊢
  have hlp := pos_len (stemsL v.title) t kt
  unfold appendL
  rw [if_pos (by show (pos (stemsL v.title) t kt).length + _ ≤ _; rw [List.length_singleton]; omega), Option.bind_some, Option.bind_some]
  refine ⟨_, rfl, fin (kt + 1) kb _ ?_ ?_ (fun t' hne => ?_) (by omega)⟩
  ·unfold postAt
   dsimp only
   rw [pos_succ, if_pos h3]
  ·rintro ⟨e, _⟩
   simp at e
  ·unfold postAt
   rw [pos_succ, if_neg]
   rw [h3]
   exact fun e => hne (Option.some.inj e).symm
 | false =>
  simp only [Bool.false_eq_true, if_false] at h3 hlt ⊢
  have hlp := pos_len (stemsL v.body) t kb
  unfold appendL
  rw [if_pos (by show (pos (stemsL v.body) t kb).length + _ ≤ _; rw [List.length_singleton]; omega), Option.bind_some, Option.bind_some]
  refine ⟨_, rfl, fin kt (kb + 1) _ ?_ ?_ (fun t' hne => ?_) (by omega)⟩
  ·unfold postAt
   dsimp only
   rw [pos_succ, if_pos h3]
  ·rintro ⟨_, e⟩
   simp at e
  ·unfold postAt
   rw [pos_succ (stemsL v.body), if_neg]
   rw [h3]
   exact fun e => hne (Option.some.inj e).symm
def Sorted (l : List ByteArray) : Prop := l.Pairwise fun a b => cmpS a b < 0
theorem le_cmp : ∀ a b : List UInt8, a ≤ b ↔ Go.Lib.compareBytes a b ≤ 0
 | [], [] => by simp [Go.Lib.compareBytes]
 | [], _ :: _ => by simp [Go.Lib.compareBytes]
 | _ :: _, [] => by simp [Go.Lib.compareBytes]
 | a :: x, b :: y => by
  rw [Go.Lib.compareBytes, List.cons_le_cons_iff, le_cmp x y]
  by_cases h1 : a < b
  ·simp [h1]
  ·rw [if_neg h1]
   by_cases h2 : b < a
   ·rw [if_pos h2]
    have : ¬ a = b := fun e => by rw [u8_lt, e] at h2; omega
    simp [h1, this]
   ·rw [if_neg h2]
    have : a = b := UInt8.toNat_inj.1 (by rw [u8_lt] at h1 h2; omega)
    simp [this]
theorem sortStrs_val {l : List ByteArray} (hl : l.length < 4611686018427387904) (hn : l.Nodup) : ∃ q, sortStrsL l = some q ∧ Sorted q ∧ ∀ s, s ∈ q ↔ s ∈ l := by
 unfold sortStrsL
 rw [if_pos hl]
 have hp := List.mergeSort_perm (bytesOf l) fun x y => decide (x ≤ y)
 have hw := List.pairwise_mergeSort (le := fun x y : List UInt8 => decide (x ≤ y)) (fun a b c h1 h2 => by simp only [decide_eq_true_eq] at *; exact List.le_trans h1 h2) (fun a b => by simp only [Bool.or_eq_true, decide_eq_true_eq]; exact List.le_total a b) (bytesOf l)
 generalize (bytesOf l).mergeSort (fun x y => decide (x ≤ y)) = m at hp hw
 have hps : (strsOf m).Perm l := by
  have := hp.map fun b => (⟨b.toArray⟩ : ByteArray)
  have h2 := strsOf_bytes l
  unfold strsOf at h2
  rw [h2] at this
  exact this
 refine ⟨_, rfl, ?_, fun s => hps.mem_iff⟩
 have hn2 := hps.nodup_iff.2 hn
 unfold Sorted
 have h3 : (strsOf m).Pairwise fun a b => cmpS a b ≤ 0 := by
  unfold strsOf
  rw [List.pairwise_map]
  refine hw.imp fun {a b} h => ?_
  have h4 : a ≤ b := by simpa using h
  have := (le_cmp a b).1 h4
  unfold cmpS
  simpa using this
 have := h3.and hn2
 refine this.imp fun {a b} h => ?_
 have h5 : cmpS a b ≠ 0 := fun e => h.2 ((cmpS_zero a b).1 e)
 have := h.1
 omega
theorem postings_val (v : know_Entry) (ht : v.title.size ≤ 200) (hb : v.body.size ≤ 20000) :
  ∃ q, know_postings v = some (q.map fun s => (⟨s, [postOf v s]⟩ : know_Term), ((stemsL v.title).length : Int) + ((stemsL v.body).length : Int)) ∧ Sorted q ∧ (∀ s, s ∈ q ↔ hasS v s) ∧ q.length ≤ 20200 := by
 have lt := stemsL_len v.title
 have lb := stemsL_len v.body
 have wl : ∀ s : ByteArray, (wordsL s.data.toList).length = (stemsL s).length := fun s => by unfold stemsL; rw [List.length_map]
 unfold know_postings know_postings_note
 obtain ⟨s1, h1, i1⟩ := rangeB_inv (R := Empty) (b := idxNote v.id_ true (wordsL v.title.data.toList)) (stemsL v.title).length (fun k s => k ≤ (stemsL v.title).length ∧ Noted v k 0 s) (s := ([], []))
  ⟨Nat.zero_le _, ⟨fun t => by unfold postE postAt; simp [mapGet, pos_zero], rfl, List.nodup_nil, Nat.zero_le _⟩⟩ (fun k s hk hI => by
   obtain ⟨s', e1, e2⟩ := note_round v true (by omega) k 0 (by omega) (by omega) (by simpa using hk) s hI.2
   exact ⟨s', by simpa using e1, by omega, by simpa using e2⟩)
 rw [know_Words_val v.title (by omega), Option.bind_some, wl, h1]
 simp only [Option.bind_some, Lp.andThen_fin]
 obtain ⟨s2, h2, i2⟩ := rangeB_inv (R := Empty) (b := idxNote v.id_ false (wordsL v.body.data.toList)) (stemsL v.body).length (fun k s => k ≤ (stemsL v.body).length ∧ Noted v (stemsL v.title).length k s) (s := s1)
  ⟨Nat.zero_le _, i1.2⟩ (fun k s hk hI => by
   obtain ⟨s', e1, e2⟩ := note_round v false (by omega) (stemsL v.title).length k (by omega) (by omega) (by simpa using hk) s hI.2
   exact ⟨s', by simpa using e1, by omega, by simpa using e2⟩)
 rw [know_Words_val v.body (by omega), Option.bind_some, wl, h2]
 simp only [Option.bind_some, Lp.andThen_fin]
 have hN := i2.2
 have hlen := hN.len
 obtain ⟨q, hq, q1, q2⟩ := sortStrs_val (by omega) hN.nod
 rw [hq, Option.bind_some]
 have hmem : ∀ s, s ∈ q ↔ hasS v s := fun s => by
  rw [q2, hN.keys, ← mapGet_mem, hN.get]
  unfold hasS postOf
  split <;> simp [*]
 have hql : q.length = s2.2.length := by
  unfold sortStrsL at hq
  rw [if_pos (by omega)] at hq
  have := congrArg List.length (Option.some.inj hq)
  rw [← this]
  unfold strsOf bytesOf
  rw [List.length_map, List.length_mergeSort, List.length_map]
 obtain ⟨L, h3, i3⟩ := rangeB_inv (R := Empty) (b := fun k s => Option.bind (idx q (k : Int)) fun t => Option.bind (mapGet s2.1 t) fun p => Option.bind (appendL 3518437208883 s [(⟨t, [p]⟩ : know_Term)]) fun x => some (.nx x)) q.length (fun k s => s = (q.take k).map fun s => (⟨s, [postOf v s]⟩ : know_Term)) (s := []) rfl (fun k s hk hI => by
  subst hI
  have hx : q[k]? = some q[k] := List.getElem?_eq_getElem hk
  have hm := (hmem q[k]).1 (List.getElem_mem hk)
  generalize q[k] = t at hx hm
  rw [idx_nat, hx, Option.bind_some, hN.get, show postAt v (stemsL v.title).length (stemsL v.body).length t = postOf v t from rfl, if_neg hm, Option.bind_some]
  unfold appendL
  rw [if_pos (by rw [List.length_map, List.length_take, List.length_singleton]; omega), Option.bind_some]
  refine ⟨_, rfl, ?_⟩
  rw [List.take_add_one, hx, List.map_append]
  rfl)
 rw [h3, Option.bind_some, Lp.andThen_fin, i3, List.take_length, w64_id (by omega) (by omega)]
 exact ⟨q, rfl, q1, hmem, by omega⟩
end Go.Proofs.YtjdjmddclfhpeaaGreatDoor.M
namespace Go.Proofs.YtjdjmddclfhpeaaGreatDoor.M
open Go Go.Pu
set_option linter.unusedSimpArgs false
set_option linter.unusedVariables false
theorem cmpS_tot (a b : ByteArray) : cmpS a b < 0 ∨ a = b ∨ cmpS b a < 0 := by
 have h1 := cmpS_swap a b
 have h2 := cmpS_zero a b
 by_cases h : cmpS a b = 0
 ·exact .inr (.inl (h2.1 h))
 ·omega
def wordO : KeyOrd know_Term ByteArray := ⟨fun t => t.word, fun a b => cmpS a b < 0, fun a h => by rw [cmpS_self] at h; omega, fun _ _ _ h1 h2 => cmpS_trans h1 h2, cmpS_tot⟩
def idO : KeyOrd know_Posting Int := ⟨fun p => p.id_, fun a b => a < b, fun a h => by omega, fun _ _ _ h1 h2 => by omega, fun a b => by omega⟩
structure Terms (has : ByteArray → Prop) (lst : ByteArray → List know_Posting) (T : List know_Term) : Prop where
 rise : wordO.Rise T
 mem : ∀ t : know_Term, t ∈ T ↔ has t.word ∧ t.list_ = lst t.word
theorem Terms.cong {has has' : ByteArray → Prop} {lst lst' : ByteArray → List know_Posting} {T : List know_Term} (h : Terms has lst T) (e1 : ∀ s, has s ↔ has' s) (e2 : ∀ s, has s → lst s = lst' s) : Terms has' lst' T :=
 ⟨h.rise, fun t => by
  rw [h.mem]
  constructor
  ·rintro ⟨h1, h2⟩
   exact ⟨(e1 _).1 h1, h2.trans (e2 _ h1)⟩
  ·rintro ⟨h1, h2⟩
   exact ⟨(e1 _).2 h1, h2.trans (e2 _ ((e1 _).2 h1)).symm⟩⟩
theorem byWord_val (a b : know_Term) : know_byWord a b = some (cmpS a.word b.word) := rfl
theorem compare_ii (x y : Int) : cmp_Compare_int x y = (if x < y then -1 else if y < x then 1 else 0) := by
 unfold cmp_Compare_int cmp_isNaN_int
 simp
theorem int_ord (a b : Int) : (cmp_Compare_int a b < 0 ↔ a < b) ∧ (cmp_Compare_int a b = 0 ↔ a = b) := by
 rw [compare_ii]
 by_cases h1 : a < b
 ·rw [if_pos h1]; omega
 ·rw [if_neg h1]
  by_cases h2 : b < a
  ·rw [if_pos h2]; omega
  ·rw [if_neg h2]; omega
theorem mergeP_val (a b : List know_Posting) (h : a.length + b.length ≤ 2513169434916) : know_merged_know_Posting a b (fun y136 y137 => know_byId y136 y137) = some (idO.mrg a b) := by
 obtain ⟨s6, y, h1, h2, h3⟩ := merge_loop (R := List know_Posting) idO (fun y136 y137 => know_byId y136 y137) 2513169434916 (fun a b => ⟨_, rfl, int_ord a.id_ b.id_⟩) a b h _ fun s => rfl
 unfold know_merged_know_Posting
 rw [h1, Option.bind_some, Lp.andThen_fin, h2, Option.bind_some, h3]
 rfl
theorem mergeT_val (a b : List know_Term) (h : a.length + b.length ≤ 3518437208883) : know_merged_know_Term a b (fun y264 y265 => know_byWord y264 y265) = some (wordO.mrg a b) := by
 obtain ⟨s6, y, h1, h2, h3⟩ := merge_loop (R := List know_Term) wordO (fun y264 y265 => know_byWord y264 y265) 3518437208883 (fun a b => ⟨_, byWord_val a b, Iff.rfl, cmpS_zero a.word b.word⟩) a b h _ fun s => rfl
 unfold know_merged_know_Term
 rw [h1, Option.bind_some, Lp.andThen_fin, h2, Option.bind_some, h3]
 rfl
theorem bfind_val {T : List know_Term} (hT : wordO.Rise T) (hl : T.length ≤ 2000000000000000000) (t : know_Term) : ∃ (a : Nat) (b : Bool), slices_BinarySearchFunc_Lknow_Term_know_Term_know_Term T t (fun y90 y91 => know_byWord y90 y91) = some ((a : Int), b) ∧ (b = true → ∃ u, T[a]? = some u ∧ u.word = t.word) ∧ (b = false → ∀ u ∈ T, u.word ≠ t.word) := by
 have hT2 : ∀ (p q : Nat) (x y : know_Term), p < q → T[p]? = some x → T[q]? = some y → cmpS x.word y.word < 0 := fun p q x y hpq hx hy => by
  obtain ⟨hp, rfl⟩ := List.getElem?_eq_some_iff.1 hx
  obtain ⟨hq, rfl⟩ := List.getElem?_eq_some_iff.1 hy
  exact List.pairwise_iff_getElem.1 hT p q hp hq hpq
 obtain ⟨a, ha, ho, hlo, hhi⟩ := search_loop (R := Int × Bool) hl (fun x => some (decide (cmpS x.word t.word < 0))) (fun x => decide (cmpS x.word t.word < 0)) (fun _ _ => rfl) (fun p q x y hpq hx hy hd => by
  rw [decide_eq_true_eq] at hd ⊢
  exact cmpS_trans (hT2 p q x y hpq hx hy) hd)
  (fun s20 => if (decide (s20.1 < s20.2)) = true then Option.bind (Option.bind (shr .u64 (IntKind.wrap .u64 (w64 (s20.1 + s20.2))) 1) fun x40 => Option.bind (idx T (IntKind.wrap .i64 x40)) fun x41 => Option.bind (know_byWord x41 t) fun x51 => Option.bind (if (decide (x51 < 0)) = true then some (w64 ((IntKind.wrap .i64 x40) + 1), s20.2) else some (s20.1, IntKind.wrap .i64 x40)) fun s56 => some (s56.1, s56.2)) fun s33 => some (.nx (s33.1, s33.2)) else some (.bk (s20.1, s20.2)))
  (fun s => by
   split
   ·cases shr .u64 (IntKind.wrap .u64 (w64 (s.1 + s.2))) 1 with
    | none => rfl
    | some v =>
     simp only [Option.bind_some]
     cases idx T (IntKind.wrap .i64 v) with
     | none => rfl
     | some x =>
      simp only [Option.bind_some, byWord_val]
      split <;> rfl
   ·rfl)
 unfold slices_BinarySearchFunc_Lknow_Term_know_Term_know_Term
 rw [ho, Option.bind_some, Lp.andThen_fin]
 dsimp only
 by_cases hlt : a < T.length
 ·rw [if_pos (decide_eq_true (show (a : Int) < (T.length : Int) by omega)), idx_nat, List.getElem?_eq_getElem hlt]
  simp only [Option.bind_some, byWord_val]
  refine ⟨a, _, rfl, fun h => ⟨T[a], List.getElem?_eq_getElem hlt, (cmpS_zero _ _).1 (by simpa using h)⟩, fun h u hu e => ?_⟩
  have h0 : cmpS T[a].word t.word ≠ 0 := by simpa using h
  have h1 := hhi a T[a] (Nat.le_refl _) (List.getElem?_eq_getElem hlt)
  have h2 : ¬ cmpS T[a].word t.word < 0 := by simpa using h1
  obtain ⟨i, hi, rfl⟩ := List.mem_iff_getElem.1 hu
  have e0 : cmpS T[i].word t.word = 0 := by rw [e]; exact cmpS_self _
  rcases Nat.lt_trichotomy i a with h3 | rfl | h3
  ·have := hlo i T[i] h3 (List.getElem?_eq_getElem hi)
   rw [decide_eq_true_eq] at this
   omega
  ·exact h0 e0
  ·have h4 := hT2 a i T[a] T[i] h3 (List.getElem?_eq_getElem hlt) (List.getElem?_eq_getElem hi)
   rw [e] at h4
   exact h2 h4
 ·rw [if_neg (by simp; omega)]
  refine ⟨a, false, rfl, (fun h => by cases h), fun _ u hu e => ?_⟩
  obtain ⟨i, hi, rfl⟩ := List.mem_iff_getElem.1 hu
  have := hlo i T[i] (by omega) (List.getElem?_eq_getElem hi)
  rw [decide_eq_true_eq, e, cmpS_self] at this
  omega
theorem bint_val {l : List Int} (hl : l.length ≤ 2000000000000000000) (hs : l.Pairwise (· < ·)) (v : Int) : ∃ (a : Nat) (b : Bool), slices_BinarySearch_Lint_int l v = some ((a : Int), b) ∧ a ≤ l.length ∧ (∀ q x, q < a → l[q]? = some x → x < v) ∧ (∀ q x, a ≤ q → l[q]? = some x → v ≤ x) ∧ (b = true ↔ v ∈ l) := by
 have hs2 : ∀ (p q : Nat) (x y : Int), p < q → l[p]? = some x → l[q]? = some y → x < y := fun p q x y hpq hx hy => by
  obtain ⟨hp, rfl⟩ := List.getElem?_eq_some_iff.1 hx
  obtain ⟨hq, rfl⟩ := List.getElem?_eq_some_iff.1 hy
  exact List.pairwise_iff_getElem.1 hs p q hp hq hpq
 have less : ∀ a b : Int, cmp_Less_int a b = decide (a < b) := fun a b => by
  unfold cmp_Less_int
  by_cases h : a < b <;> simp [h, cmp_isNaN_int]
 obtain ⟨a, ha, ho, hlo, hhi⟩ := search_loop (R := Int × Bool) hl (fun x => some (decide (x < v))) (fun x => decide (x < v)) (fun _ _ => rfl) (fun p q x y hpq hx hy hd => by
  rw [decide_eq_true_eq] at hd ⊢
  have := hs2 p q x y hpq hx hy
  omega)
  (fun s10 => if (decide (s10.1 < s10.2)) = true then Option.bind (Option.bind (shr .u64 (IntKind.wrap .u64 (w64 (s10.1 + s10.2))) 1) fun x26 => Option.bind (idx l (IntKind.wrap .i64 x26)) fun x27 => Option.bind (if (cmp_Less_int x27 v) = true then some (w64 ((IntKind.wrap .i64 x26) + 1), s10.2) else some (s10.1, IntKind.wrap .i64 x26)) fun s32 => some (s32.1, s32.2)) fun s21 => some (.nx (s21.1, s21.2)) else some (.bk (s10.1, s10.2)))
  (fun s => by
   split
   ·cases shr .u64 (IntKind.wrap .u64 (w64 (s.1 + s.2))) 1 with
    | none => rfl
    | some v =>
     simp only [Option.bind_some]
     cases idx l (IntKind.wrap .i64 v) with
     | none => rfl
     | some x =>
      simp only [Option.bind_some, less]
      split <;> rfl
   ·rfl)
 unfold slices_BinarySearch_Lint_int
 rw [ho, Option.bind_some, Lp.andThen_fin]
 dsimp only
 have up : ∀ q x, a ≤ q → l[q]? = some x → v ≤ x := fun q x h1 h2 => by
  have := hhi q x h1 h2
  rw [decide_eq_false_iff_not] at this
  omega
 have low : ∀ q x, q < a → l[q]? = some x → x < v := fun q x h1 h2 => by
  have := hlo q x h1 h2
  rwa [decide_eq_true_eq] at this
 by_cases hlt : a < l.length
 ·rw [if_pos (decide_eq_true (show (a : Int) < (l.length : Int) by omega)), idx_nat, List.getElem?_eq_getElem hlt]
  simp only [Option.bind_some]
  by_cases he : l[a] = v
  ·have : (l[a] == v) = true := by simpa using he
   simp only [this, if_true, Option.bind_some]
   exact ⟨a, true, rfl, ha, low, up, fun _ => by rw [← he]; exact List.getElem_mem hlt, fun _ => rfl⟩
  ·have : (l[a] == v) = false := by simpa using he
   simp only [this, Bool.false_eq_true, if_false, Option.bind_some, slices_isNaN_int, bne_self_eq_false, Bool.and_self]
   refine ⟨a, false, rfl, ha, low, up, (fun h => by cases h), fun hv => ?_⟩
   exfalso
   obtain ⟨i, hi, rfl⟩ := List.mem_iff_getElem.1 hv
   rcases Nat.lt_trichotomy i a with h3 | rfl | h3
   ·have := low i _ h3 (List.getElem?_eq_getElem hi); omega
   ·exact he rfl
   ·have := hs2 a i _ _ h3 (List.getElem?_eq_getElem hlt) (List.getElem?_eq_getElem hi)
    have := up a _ (Nat.le_refl _) (List.getElem?_eq_getElem hlt)
    omega
 ·rw [if_neg (by simp; omega)]
  refine ⟨a, false, rfl, ha, low, up, (fun h => by cases h), fun hv => ?_⟩
  exfalso
  obtain ⟨i, hi, rfl⟩ := List.mem_iff_getElem.1 hv
  have := low i _ (by omega) (List.getElem?_eq_getElem hi)
  omega
open Classical in
theorem with_val {x : know_Index} {v : know_Entry} {has : ByteArray → Prop} {lst : ByteArray → List know_Posting} (hT : Terms has lst x.terms) (hz : ∀ s, ¬ has s → lst s = []) (hids : x.ids.Pairwise (· < ·)) (hl : x.terms.length ≤ 1000000000) (hll : ∀ t ∈ x.terms, t.list_.length ≤ 1000000000) (hil : x.ids.length ≤ 1000000) (hsl : x.sizes.length = x.ids.length)
  (ht : v.title.size ≤ 200) (hb : v.body.size ≤ 20000) :
  ∃ (k : Nat) (T' : List know_Term), k ≤ x.ids.length ∧ (∀ q a, q < k → x.ids[q]? = some a → a < v.id_) ∧ (∀ q a, k ≤ q → x.ids[q]? = some a → v.id_ ≤ a) ∧
   know_Index_with x v = some ⟨x.ids.take k ++ [v.id_] ++ x.ids.drop k, x.sizes.take k ++ [((stemsL v.title).length : Int) + ((stemsL v.body).length : Int)] ++ x.sizes.drop k, T'⟩ ∧
   Terms (fun s => has s ∨ hasS v s) (fun s => if hasS v s then idO.mrg (lst s) [postOf v s] else lst s) T' ∧ T'.length ≤ x.terms.length + 20200 := by
 obtain ⟨q, hp, hq1, hq2, hq3⟩ := postings_val v ht hb
 obtain ⟨k, b, hk, hk1, hk2, hk3, _⟩ := bint_val (l := x.ids) (by omega) hids v.id_
 let F : know_Term → know_Term := fun t => if has t.word then ⟨t.word, idO.mrg (lst t.word) t.list_⟩ else t
 have hF : ∀ s, F ⟨s, [postOf v s]⟩ = ⟨s, idO.mrg (lst s) [postOf v s]⟩ := fun s => by
  show (if has s then (⟨s, idO.mrg (lst s) [postOf v s]⟩ : know_Term) else ⟨s, [postOf v s]⟩) = _
  split
  ·rfl
  ·rename_i h
   rw [hz s h, KeyOrd.mrg_nil]
 have hLl : (q.map fun s => (⟨s, [postOf v s]⟩ : know_Term)).length = q.length := List.length_map _
 obtain ⟨L', hL, hL2⟩ := rangeB_inv (R := know_Index) (b := fun k35 s43 => Option.bind (Option.bind (idx s43 (k35 : Int)) fun x68 => Option.bind (slices_BinarySearchFunc_Lknow_Term_know_Term_know_Term x.terms x68 (fun y90 y91 => know_byWord y90 y91)) fun x92 => Option.bind (if x92.2 = true then Option.bind (idx x.terms x92.1) fun x124 => Option.bind (know_merged_know_Posting x124.list_ x68.list_ (fun y136 y137 => know_byId y136 y137)) fun x138 => Option.bind (setI s43 (k35 : Int) ({ (x68 : know_Term) with list_ := x138 })) fun x176 => some x176 else some s43) fun s111 => some s111) fun s59 => some (.nx s59))
  q.length (fun k s => s = (q.take k).map (fun s => F ⟨s, [postOf v s]⟩) ++ (q.drop k).map fun s => (⟨s, [postOf v s]⟩ : know_Term)) (s := q.map fun s => (⟨s, [postOf v s]⟩ : know_Term)) (by simp) (fun k s hk hs => by
  subst hs
  have hx : q[k]? = some q[k] := List.getElem?_eq_getElem hk
  have hd : q.drop k = q[k] :: q.drop (k + 1) := List.drop_eq_getElem_cons hk
  have htk : q.take (k + 1) = q.take k ++ [q[k]] := by rw [List.take_add_one, hx]; rfl
  rw [hd, htk]
  generalize q[k] = s at hx
  have hlen : ((q.take k).map (fun s => F ⟨s, [postOf v s]⟩)).length = k := by rw [List.length_map, List.length_take]; omega
  have hix : idx ((q.take k).map (fun s => F ⟨s, [postOf v s]⟩) ++ (s :: q.drop (k + 1)).map fun s => (⟨s, [postOf v s]⟩ : know_Term)) (k : Int) = some ⟨s, [postOf v s]⟩ := by
   rw [idx_nat, List.getElem?_append_right (by omega), hlen, Nat.sub_self]
   rfl
  have hset : ∀ y : know_Term, setI ((q.take k).map (fun s => F ⟨s, [postOf v s]⟩) ++ (s :: q.drop (k + 1)).map fun s => (⟨s, [postOf v s]⟩ : know_Term)) (k : Int) y = some ((q.take k).map (fun s => F ⟨s, [postOf v s]⟩) ++ y :: (q.drop (k + 1)).map fun s => (⟨s, [postOf v s]⟩ : know_Term)) := fun y => by
   have hlt : k < ((q.take k).map (fun s => F ⟨s, [postOf v s]⟩) ++ (s :: q.drop (k + 1)).map fun s => (⟨s, [postOf v s]⟩ : know_Term)).length := by
    rw [List.length_append, hlen]
    simp
   rw [setI, if_pos ⟨by omega, by rw [Int.toNat_natCast]; exact hlt⟩, Int.toNat_natCast, List.set_append_right _ _ (by omega), hlen, Nat.sub_self]
   rfl
  obtain ⟨a, b, hb1, hb2, hb3⟩ := bfind_val hT.rise (by omega) ⟨s, [postOf v s]⟩
  rw [hix, Option.bind_some, hb1, Option.bind_some]
  dsimp only
  cases b with
  | true =>
   obtain ⟨u, hu, hw⟩ := hb2 rfl
   dsimp only at hw
   have hum := List.mem_of_getElem? hu
   obtain ⟨g1, g2⟩ := (hT.mem u).1 hum
   rw [hw] at g1 g2
   rw [if_pos rfl, idx_nat, hu, Option.bind_some, mergeP_val _ _ (by have := hll u hum; simp; omega), Option.bind_some, hset]
   refine ⟨_, rfl, ?_⟩
   rw [List.map_append, List.append_assoc]
   congr 1
   show _ :: _ = F ⟨s, [postOf v s]⟩ :: _
   rw [hF, g2]
   rfl
  | false =>
   rw [if_neg (by decide)]
   refine ⟨_, rfl, ?_⟩
   have hno : ¬ has s := fun h => hb3 rfl ⟨s, lst s⟩ ((hT.mem _).2 ⟨h, rfl⟩) rfl
   rw [List.map_append, List.append_assoc]
   congr 1
   show _ :: _ = F ⟨s, [postOf v s]⟩ :: _
   rw [hF, hz s hno, KeyOrd.mrg_nil]
   rfl)
 rw [List.take_length, List.drop_length, List.map_nil, List.append_nil] at hL2
 have hL3 : L' = q.map fun s => (⟨s, idO.mrg (lst s) [postOf v s]⟩ : know_Term) := by
  rw [hL2]
  exact List.map_congr_left fun s _ => hF s
 have hLr : wordO.Rise L' := by
  rw [hL3]
  show List.Pairwise _ _
  rw [List.pairwise_map]
  exact hq1
 have hspec := KeyOrd.mrg_spec (O := wordO) _ x.terms L' rfl hT.rise hLr
 have hmlen := KeyOrd.mrg_len (O := wordO) _ x.terms L' rfl
 have hLlen : L'.length = q.length := by rw [hL3, List.length_map]
 refine ⟨k, wordO.mrg x.terms L', hk1, hk2, hk3, ?_, ⟨hspec.1, fun t => ?_⟩, by omega⟩
 ·unfold know_Index_with
  rw [hp, Option.bind_some]
  dsimp only
  rw [hLl, hL, Option.bind_some, Lp.andThen_fin, hk, Option.bind_some]
  have hc : ∀ l : List Int, l.length ≤ 1000000 → slices_Clone_Lint_int l = some l := fun l h => by
   unfold slices_Clone_Lint_int appendL
   rw [if_pos (by simp; omega)]
   rfl
  have hi : ∀ (l : List Int) (z : Int), l.length = x.ids.length → slices_Insert_Lint_int l (k : Int) [z] = some (l.take k ++ [z] ++ l.drop k) := fun l z h => by
   unfold slices_Insert_Lint_int
   rw [if_pos ⟨by omega, by omega, by simp, by rw [List.length_singleton]; omega⟩, Int.toNat_natCast]
  dsimp only
  rw [hc _ hil, Option.bind_some, hi _ _ rfl, Option.bind_some, hc _ (by omega), Option.bind_some, hi _ _ hsl, Option.bind_some, mergeT_val _ _ (by omega), Option.bind_some]
 ·rw [hspec.2]
  have hmem : t ∈ L' ↔ hasS v t.word ∧ t.list_ = idO.mrg (lst t.word) [postOf v t.word] := by
   rw [hL3, List.mem_map]
   constructor
   ·rintro ⟨s, hs, rfl⟩
    exact ⟨(hq2 s).1 hs, rfl⟩
   ·rintro ⟨h1, h2⟩
    exact ⟨t.word, (hq2 _).2 h1, by rw [← h2]⟩
  have hno : (∀ y ∈ L', wordO.key y ≠ wordO.key t) ↔ ¬ hasS v t.word := by
   constructor
   ·intro h1 h2
    exact h1 ⟨t.word, idO.mrg (lst t.word) [postOf v t.word]⟩ (by rw [hL3]; exact List.mem_map.2 ⟨t.word, (hq2 _).2 h2, rfl⟩) rfl
   ·intro h1 y hy e
    rw [hL3] at hy
    obtain ⟨s, hs, rfl⟩ := List.mem_map.1 hy
    have e2 : s = t.word := e
    rw [← e2] at h1
    exact h1 ((hq2 s).1 hs)
  rw [hmem, hno, hT.mem]
  by_cases hh : hasS v t.word
  ·simp [hh]
  ·simp [hh]
end Go.Proofs.YtjdjmddclfhpeaaGreatDoor.M
namespace Go.Proofs.YtjdjmddclfhpeaaGreatDoor.M
open Go Go.Pu
set_option linter.unusedSimpArgs false
set_option linter.unusedVariables false
open Classical in
noncomputable def pairsOf (l : List know_Entry) (s : ByteArray) : List (Int × know_Posting) := (l.filter fun v => decide (hasS v s)).map fun v => (v.id_, postOf v s)
noncomputable def lstOf (l : List know_Entry) (s : ByteArray) : List know_Posting := (pairsOf l s).map (·.2)
def anyS (l : List know_Entry) (s : ByteArray) : Prop := ∃ v ∈ l, hasS v s
theorem pairs_snoc (l : List know_Entry) (v : know_Entry) (s : ByteArray) : pairsOf (l ++ [v]) s = pairsOf l s ++ (if postE (postOf v s) then [] else [(v.id_, postOf v s)]) := by
 unfold pairsOf
 rw [List.filter_append, List.map_append]
 congr 1
 by_cases h : postE (postOf v s)
 ·have h2 : ¬ hasS v s := fun e => e h
  rw [if_pos h]
  simp [h2]
 ·have h2 : hasS v s := h
  rw [if_neg h]
  simp [h2]
theorem lst_snoc (l : List know_Entry) (v : know_Entry) (s : ByteArray) : lstOf (l ++ [v]) s = lstOf l s ++ (if postE (postOf v s) then [] else [postOf v s]) := by
 unfold lstOf
 rw [pairs_snoc, List.map_append]
 congr 1
 split <;> rfl
theorem any_snoc (l : List know_Entry) (v : know_Entry) (s : ByteArray) : anyS (l ++ [v]) s ↔ anyS l s ∨ hasS v s := by
 unfold anyS
 constructor
 ·rintro ⟨u, hu, h⟩
  rcases List.mem_append.1 hu with hu | hu
  ·exact .inl ⟨u, hu, h⟩
  ·rw [List.mem_singleton] at hu
   subst hu
   exact .inr h
 ·rintro (⟨u, hu, h⟩ | h)
  ·exact ⟨u, List.mem_append_left _ hu, h⟩
  ·exact ⟨v, List.mem_append_right _ (List.mem_singleton.2 rfl), h⟩
theorem pairs_len (l : List know_Entry) (s : ByteArray) : (pairsOf l s).length ≤ l.length := by
 unfold pairsOf
 rw [List.length_map]
 exact List.length_filter_le _ _
theorem lst_len (l : List know_Entry) (s : ByteArray) : (lstOf l s).length ≤ l.length := by
 unfold lstOf
 rw [List.length_map]
 exact pairs_len l s
theorem pairs_nil {l : List know_Entry} {s : ByteArray} : pairsOf l s = [] ↔ ¬ anyS l s := by
 unfold pairsOf anyS
 rw [List.map_eq_nil_iff, List.filter_eq_nil_iff]
 simp
theorem lst_nil {l : List know_Entry} {s : ByteArray} (h : ¬ anyS l s) : lstOf l s = [] := by
 unfold lstOf
 rw [pairs_nil.2 h]
 rfl
theorem pairs_id {l : List know_Entry} {s : ByteArray} {p : Int × know_Posting} (h : p ∈ pairsOf l s) : ∃ v ∈ l, p.1 = v.id_ ∧ p.2 = postOf v s := by
 unfold pairsOf at h
 obtain ⟨v, hv, rfl⟩ := List.mem_map.1 h
 exact ⟨v, (List.mem_filter.1 hv).1, rfl, rfl⟩
theorem lst_rise {l : List know_Entry} (hl : l.Pairwise fun a b => a.id_ < b.id_) (s : ByteArray) : (lstOf l s).Pairwise fun a b : know_Posting => a.id_ < b.id_ := by
 unfold lstOf pairsOf
 rw [List.map_map, List.pairwise_map]
 exact hl.filter _
noncomputable def curOf (l : List know_Entry) (v : know_Entry) (kt kb : Nat) (s : ByteArray) : List (Int × know_Posting) := pairsOf l s ++ (if postE (postAt v kt kb s) then [] else [(v.id_, postAt v kt kb s)])
structure Atd (l : List know_Entry) (v : know_Entry) (kt kb : Nat) (m : List (ByteArray × List (Int × know_Posting))) : Prop where
 get : ∀ s, mapGet m s = if curOf l v kt kb s = [] then none else some (curOf l v kt kb s)
 nod : (m.map (·.1)).Nodup
 len : m.length ≤ 20200 * l.length + kt + kb
noncomputable def sizeOfE (v : know_Entry) : Int := ((stemsL v.title).length : Int) + ((stemsL v.body).length : Int)
structure Table (l : List know_Entry) (m : List (ByteArray × List (Int × know_Posting))) : Prop where
 get : ∀ s, mapGet m s = if pairsOf l s = [] then none else some (pairsOf l s)
 nod : (m.map (·.1)).Nodup
 len : m.length ≤ 20200 * l.length
end Go.Proofs.YtjdjmddclfhpeaaGreatDoor.M
