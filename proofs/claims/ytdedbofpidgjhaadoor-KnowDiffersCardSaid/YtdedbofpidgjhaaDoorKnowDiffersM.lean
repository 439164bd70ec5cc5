/-
  Written by program (gen.py) from the IR of the dump: plain models of the functions.
-/
import Derived.Test.YtdedbofpidgjhaaDoorPu
import Derived.Lib.Split
namespace Go.Proofs.YtdedbofpidgjhaaDoor.M
open Go Go.Pu
set_option linter.unusedVariables false
set_option linter.unusedSimpArgs false

structure know_Edit where
  at_ : Int
  drop : Int
  add : (List ByteArray)

/-- strings.genSplit -/
def strings_genSplit (s : ByteArray) (sep : ByteArray) (sepSave : Int) (n : Int) : Option (List ByteArray) :=
  if s.size < 4294967281 ∧ 1 ≤ sep.size ∧ 0 ≤ sepSave ∧ sepSave ≤ (sep.size : Int) ∧ n = -1 then some (Go.Lib.splitB sep sepSave.toNat (min (Go.Lib.countB s sep + 1) (s.size + 1) - 1) s) else none

/-- strings SplitAfter -/
def strings_SplitAfter (s : ByteArray) (sep : ByteArray) : Option (List ByteArray) :=
  Option.bind (strings_genSplit s sep (sep.size : Int) (-1)) fun x1 =>
  some x1

/-- porterslodge know lines -/
def know_lines (body : ByteArray) : Option (List ByteArray) :=
  Option.bind (strings_SplitAfter body (⟨#[10]⟩ : ByteArray)) fun x1 =>
  Option.bind (idx x1 (w64 ((x1.length : Int) - 1))) fun x7 =>
  Option.bind (if (strEq x7 (⟨#[]⟩ : ByteArray)) = true then Option.bind (sliceL x1 none (some (w64 ((x1.length : Int) - 1)))) fun x21 => some x21 else some x1) fun s12 =>
  some s12

/-- porterslodge know checkBody -/
def know_checkBody (s : ByteArray) : Option Int :=
  Option.bind (if (decide ((20000 : Int) < (s.size : Int))) = true then (some true) else (Option.bind (know_lines s) fun x11 => some (decide ((2000 : Int) < (x11.length : Int))))) fun s2 =>
  if s2 = true then
    some 4
  else
    some 0

/-- cmp Or porterslodge api Errno -/
def cmp_Or_api_Errno (vals : (List Int)) : Option Int :=
  Option.bind (rangeB (fun k6 _ => Option.bind (idx vals (k6 : Int)) fun x21 => if (x21 != 0) = true then some (.rt x21) else some (.nx ())) vals.length 0 ()) fun o3 => o3.andThen (fun y => some y) fun s4 =>
  some 0

/-- porterslodge know common -/
noncomputable def know_common (a_ : (List ByteArray)) (b : (List ByteArray)) : Option (List (List Int)) :=
  Option.bind (makeL 11728124029610 (w64 ((a_.length : Int) + 1)) ([] : (List Int))) fun x5 =>
  Option.bind (makeL 35184372088832 (w64 ((b.length : Int) + 1)) (0 : Int)) fun x11 =>
  Option.bind (idx x5 (a_.length : Int)) fun x17 =>
  Option.bind (setI x5 (a_.length : Int) x11) fun x22 =>
  Option.bind (whileB (fun s37 => if (decide ((0 : Int) ≤ s37.2)) = true then Option.bind (Option.bind (makeL 35184372088832 (w64 ((b.length : Int) + 1)) (0 : Int)) fun x61 => Option.bind (idx s37.1 s37.2) fun x67 => Option.bind (setI s37.1 s37.2 x61) fun x72 => Option.bind (whileB (R := Empty) (fun s87 => if (decide ((0 : Int) ≤ s87.2)) = true then Option.bind (Option.bind (idx a_ s37.2) fun x111 => Option.bind (idx b s87.2) fun x115 => Option.bind (if (strEq x111 x115) = true then Option.bind (idx s87.1 s37.2) fun x135 => Option.bind (idx s87.1 (w64 (s37.2 + 1))) fun x143 => Option.bind (idx x143 (w64 (s87.2 + 1))) fun x151 => Option.bind (idx x135 s87.2) fun x155 => Option.bind (setI x135 s87.2 (w64 (x151 + 1))) fun x163 => Option.bind (setI s87.1 s37.2 x163) fun x167 => some x167 else Option.bind (idx s87.1 s37.2) fun x171 => Option.bind (idx s87.1 (w64 (s37.2 + 1))) fun x179 => Option.bind (idx x179 s87.2) fun x187 => Option.bind (idx x171 (w64 (s87.2 + 1))) fun x196 => Option.bind (idx x171 s87.2) fun x200 => Option.bind (setI x171 s87.2 (if x187 < x196 then x196 else x187)) fun x208 => Option.bind (setI s87.1 s37.2 x208) fun x212 => some x212) fun s123 => some s123) fun s102 => some (.nx (s102, w64 (s87.2 - 1))) else some (.bk (s87.1, s87.2))) (x72, w64 ((b.length : Int) - 1))) fun o76 => o76.andThen (fun y => y.elim) fun s77 => some s77.1) fun s52 => some (.nx (s52, w64 (s37.2 - 1))) else some (.bk (s37.1, s37.2))) (x22, w64 ((a_.length : Int) - 1))) fun o26 => o26.andThen (fun y => some y) fun s27 =>
  some s27.1

/-- slices Clone string string -/
def slices_Clone_Lstring_string (s : (List ByteArray)) : Option (List ByteArray) :=
  Option.bind (appendL 8796093022208 ([] : List ByteArray) s) fun x8 =>
  some x8

/-- porterslodge know Differ 1 -/
def know_Differ_1 (k_ : Int) (l : Int) (p2 : Int) (p3 : Int) (p4 : (List know_Edit)) (p5 : (List ByteArray)) : Option (Int × Int × (List know_Edit)) :=
  Option.bind (if ((decide (p2 < k_)) || (decide (p3 < l))) = true then Option.bind (sliceL p5 (some p3) (some l)) fun x23 => Option.bind (slices_Clone_Lstring_string x23) fun x26 => Option.bind (appendL 3518437208883 p4 ([(⟨p2, w64 (k_ - p2), x26⟩ : know_Edit)] : List know_Edit)) fun x51 => some x51 else some p4) fun s6 =>
  some (w64 (k_ + 1), w64 (l + 1), s6)

/-- porterslodge know Differ -/
noncomputable def know_Differ (a_ : ByteArray) (b : ByteArray) : Option ((List know_Edit) × Int) :=
  Option.bind (know_checkBody a_) fun x1 =>
  Option.bind (know_checkBody b) fun x5 =>
  Option.bind (cmp_Or_api_Errno ([x1, x5] : List Int)) fun x14 =>
  if (x14 != 0) = true then
    some (([] : (List know_Edit)), x14)
  else
    Option.bind (know_lines a_) fun x16 =>
    Option.bind (know_lines b) fun x22 =>
    Option.bind (know_common x16 x22) fun x45 =>
    Option.bind (whileB (fun s84 => if (decide (s84.1 < (x16.length : Int))) = true then Option.bind (if ((decide (s84.2.2.1 ≤ (x16.length : Int))) && (decide (s84.2.1 ≤ (x22.length : Int)))) = true then Option.bind (idx x45 s84.2.2.1) fun x112 => Option.bind (idx x112 s84.2.1) fun x120 => some x120 else some 0) fun s104 => if (s104 == 0) = true then some (.bk (s84.1, s84.2.1, s84.2.2.1, s84.2.2.2)) else Option.bind (whileB (fun s140 => Option.bind (if (decide (s140 < (x22.length : Int))) = true then (Option.bind (idx x22 s140) fun x159 => Option.bind (idx x16 s84.1) fun x163 => some (!(strEq x159 x163))) else (some false)) fun s155 => if s155 = true then some (.nx (w64 (s140 + 1))) else some (.bk s140)) s84.2.1) fun o131 => o131.andThen (fun y => some (.rt y)) fun s132 => Option.bind (if (decide (s132 < (x22.length : Int))) = true then (Option.bind (idx x45 (w64 (s84.1 + 1))) fun x179 => Option.bind (idx x179 (w64 (s132 + 1))) fun x187 => some ((w64 (x187 + 1)) == s104)) else (some false)) fun s178 => Option.bind (if s178 = true then Option.bind (know_Differ_1 s84.1 s132 s84.2.2.1 s84.2.1 s84.2.2.2 x22) fun x202 => some (x202.2.1, x202.1, x202.2.2) else some (s84.2.1, s84.2.2.1, s84.2.2.2)) fun s192 => some (.nx (w64 (s84.1 + 1), s192.1, s192.2.1, s192.2.2)) else some (.bk (s84.1, s84.2.1, s84.2.2.1, s84.2.2.2))) (0, 0, 0, ([] : (List know_Edit)))) fun o73 => o73.andThen (fun y => some y) fun s74 =>
    Option.bind (know_Differ_1 (x16.length : Int) (x22.length : Int) s74.2.2.1 s74.2.1 s74.2.2.2 x22) fun x217 =>
    some (x217.2.2, 0)

/-- porterslodge portref2 bodyLines -/
def portref2_bodyLines (s : ByteArray) : Option (List ByteArray) :=
  Option.bind (strings_SplitAfter s (⟨#[10]⟩ : ByteArray)) fun x1 =>
  Option.bind (idx x1 (w64 ((x1.length : Int) - 1))) fun x7 =>
  Option.bind (if (strEq x7 (⟨#[]⟩ : ByteArray)) = true then Option.bind (sliceL x1 none (some (w64 ((x1.length : Int) - 1)))) fun x21 => some x21 else some x1) fun s12 =>
  some s12

/-- porterslodge portref2 bodyFault -/
def portref2_bodyFault (s : ByteArray) : Option Int :=
  Option.bind (if (decide ((20000 : Int) < (s.size : Int))) = true then (some true) else (Option.bind (portref2_bodyLines s) fun x11 => some (decide ((2000 : Int) < (x11.length : Int))))) fun s2 =>
  if s2 = true then
    some 4
  else
    some 0

/-- porterslodge portref2 DifferOf -/
noncomputable def portref2_DifferOf (a_ : ByteArray) (b : ByteArray) : Option ((List know_Edit) × Int) :=
  Option.bind (rangeB (fun k9 _ => Option.bind (idx ([a_, b] : List ByteArray) (k9 : Int)) fun x29 => Option.bind (portref2_bodyFault x29) fun x33 => if (x33 != 0) = true then some (.rt (([] : (List know_Edit)), x33)) else some (.nx ())) (([a_, b] : List ByteArray).length) 0 ()) fun o6 => o6.andThen (fun y => some y) fun s7 =>
  Option.bind (portref2_bodyLines a_) fun x41 =>
  Option.bind (portref2_bodyLines b) fun x47 =>
  Option.bind (makeL 11728124029610 (w64 ((x41.length : Int) + 1)) ([] : (List Int))) fun x53 =>
  Option.bind (rangeB (fun k62 s70 => Option.bind (makeL 35184372088832 (w64 ((x47.length : Int) + 1)) (0 : Int)) fun x85 => Option.bind (idx s70 (k62 : Int)) fun x91 => Option.bind (setI s70 (k62 : Int) x85) fun x96 => some (.nx x96)) x53.length 0 x53) fun o59 => o59.andThen (fun y => some y) fun s60 =>
  Option.bind (whileB (fun s114 => if (decide ((0 : Int) ≤ s114.2)) = true then Option.bind (Option.bind (whileB (R := Empty) (fun s149 => if (decide ((0 : Int) ≤ s149.2)) = true then Option.bind (Option.bind (idx s149.1 s114.2) fun x175 => Option.bind (idx s149.1 (w64 (s114.2 + 1))) fun x183 => Option.bind (idx x183 s149.2) fun x191 => Option.bind (idx x175 (w64 (s149.2 + 1))) fun x200 => Option.bind (idx x175 s149.2) fun x204 => Option.bind (setI x175 s149.2 (if x191 < x200 then x200 else x191)) fun x212 => Option.bind (setI s149.1 s114.2 x212) fun x216 => Option.bind (idx x41 s114.2) fun x217 => Option.bind (idx x47 s149.2) fun x221 => Option.bind (if (strEq x217 x221) = true then Option.bind (idx x216 s114.2) fun x241 => Option.bind (idx x241 s149.2) fun x254 => Option.bind (idx x216 (w64 (s114.2 + 1))) fun x258 => Option.bind (idx x258 (w64 (s149.2 + 1))) fun x266 => Option.bind (setI x241 s149.2 (if x254 < w64 (1 + x266) then w64 (1 + x266) else x254)) fun x277 => Option.bind (setI x216 s114.2 x277) fun x281 => some x281 else some x216) fun s229 => some s229) fun s164 => some (.nx (s164, w64 (s149.2 - 1))) else some (.bk (s149.1, s149.2))) (s114.1, w64 ((x47.length : Int) - 1))) fun o138 => o138.andThen (fun y => y.elim) fun s139 => some s139.1) fun s129 => some (.nx (s129, w64 (s114.2 - 1))) else some (.bk (s114.1, s114.2))) (s60, w64 ((x41.length : Int) - 1))) fun o103 => o103.andThen (fun y => some y) fun s104 =>
  Option.bind (whileB (fun s305 => Option.bind (idx s104.1 s305.2.2.1) fun x320 => Option.bind (idx x320 s305.2.2.2) fun x328 => if (decide ((0 : Int) < x328)) = true then Option.bind (Option.bind (whileB (R := Empty) (fun s358 => if (decide (s358.2.2.2 < (x47.length : Int))) = true then Option.bind (idx x41 s305.2.2.1) fun x374 => Option.bind (idx x47 s358.2.2.2) fun x378 => Option.bind (if (strEq x374 x378) = true then (Option.bind (idx s104.1 (w64 (s305.2.2.1 + 1))) fun x384 => Option.bind (idx x384 (w64 (s358.2.2.2 + 1))) fun x392 => Option.bind (idx x320 s358.2.2.1) fun x403 => some ((w64 (1 + x392)) == x403)) else (some false)) fun s383 => if s383 = true then Option.bind (appendL 17592186044416 s358.1 ([s305.2.2.1] : List Int)) fun x416 => Option.bind (appendL 17592186044416 s358.2.1 ([s358.2.2.2] : List Int)) fun x427 => some (.bk (x416, x427, w64 (s358.2.2.2 + 1), 0)) else some (.nx (s358.1, s358.2.1, s358.2.2.1, w64 (s358.2.2.2 + 1))) else some (.bk (s358.1, s358.2.1, s358.2.2.1, s358.2.2.2))) (s305.1, s305.2.1, s305.2.2.2, s305.2.2.2)) fun o345 => o345.andThen (fun y => y.elim) fun s346 => some (s346.1, s346.2.1, s346.2.2.1)) fun s334 => some (.nx (s334.1, s334.2.1, w64 (s305.2.2.1 + 1), s334.2.2)) else some (.bk (s305.1, s305.2.1, s305.2.2.1, s305.2.2.2))) (([] : (List Int)), ([] : (List Int)), 0, 0)) fun o292 => o292.andThen (fun y => some y) fun s293 =>
  Option.bind (whileB (fun s452 => if (decide (s452.2.2.2 ≤ (s293.1.length : Int))) = true then Option.bind (if (decide (s452.2.2.2 < (s293.1.length : Int))) = true then Option.bind (idx s293.1 s452.2.2.2) fun x475 => Option.bind (idx s293.2.1 s452.2.2.2) fun x480 => some (x475, x480) else some ((x41.length : Int), (x47.length : Int))) fun s467 => Option.bind (if ((decide (s452.2.1 < s467.1)) || (decide (s452.2.2.1 < s467.2))) = true then Option.bind (sliceL x47 (some s452.2.2.1) (some s467.2)) fun x503 => Option.bind (slices_Clone_Lstring_string x503) fun x506 => Option.bind (appendL 3518437208883 s452.1 ([(⟨s452.2.1, w64 (s467.1 - s452.2.1), x506⟩ : know_Edit)] : List know_Edit)) fun x531 => some x531 else some s452.1) fun s493 => some (.nx (s493, w64 (s467.1 + 1), w64 (s467.2 + 1), w64 (s452.2.2.2 + 1))) else some (.bk (s452.1, s452.2.1, s452.2.2.1, s452.2.2.2))) (([] : (List know_Edit)), 0, 0, 0)) fun o441 => o441.andThen (fun y => some y) fun s442 =>
  some (s442.1, 0)

/-- slices EqualFunc porterslodge know Edit porterslodge know Edit porterslodge know Edit porterslodge know Edit -/
def slices_EqualFunc_Lknow_Edit_Lknow_Edit_know_Edit_know_Edit (s1 : (List know_Edit)) (s2 : (List know_Edit)) (eq : know_Edit → know_Edit → Option Bool) : Option Bool :=
  if ((s1.length : Int) != (s2.length : Int)) = true then
    some false
  else
    Option.bind (rangeB (fun k9 _ => Option.bind (idx s1 (k9 : Int)) fun x29 => Option.bind (idx s2 (k9 : Int)) fun x47 => Option.bind (eq x29 x47) fun x71 => if (!x71) = true then some (.rt false) else some (.nx ())) s1.length 0 ()) fun o6 => o6.andThen (fun y => some y) fun s7 =>
    some true

/-- slices Equal string string -/
def slices_Equal_Lstring_string (s1 : (List ByteArray)) (s2 : (List ByteArray)) : Option Bool :=
  if ((s1.length : Int) != (s2.length : Int)) = true then
    some false
  else
    Option.bind (rangeB (fun k9 _ => Option.bind (idx s1 (k9 : Int)) fun x29 => Option.bind (idx s2 (k9 : Int)) fun x33 => if (!(strEq x29 x33)) = true then some (.rt false) else some (.nx ())) s1.length 0 ()) fun o6 => o6.andThen (fun y => some y) fun s7 =>
    some true

/-- porterslodge portref2 Alike 3 -/
def portref2_Alike_3 (a_ : know_Edit) (b : know_Edit) : Option Bool :=
  Option.bind (if (a_.at_ == b.at_) = true then (if (a_.drop == b.drop) = true then (Option.bind (slices_Equal_Lstring_string a_.add b.add) fun x39 => some x39) else (some false)) else (if false = true then (Option.bind (slices_Equal_Lstring_string a_.add b.add) fun x54 => some x54) else (some false))) fun s18 =>
  some s18

/-- porterslodge portref2 Alike -/
def portref2_Alike (a_ : (List know_Edit)) (b : (List know_Edit)) : Option Bool :=
  Option.bind (if true = true then (Option.bind (slices_EqualFunc_Lknow_Edit_Lknow_Edit_know_Edit_know_Edit a_ b (fun y15 y16 => portref2_Alike_3 y15 y16)) fun x17 => some x17) else (some false)) fun s6 =>
  some s6

/-- porterslodge portlaw2 KnowDiffers -/
noncomputable def portlaw2_KnowDiffers (a_ : ByteArray) (b : ByteArray) : Option Bool :=
  Option.bind (know_Differ a_ b) fun x1 =>
  Option.bind (portref2_DifferOf a_ b) fun x8 =>
  Option.bind (if (x1.2 == x8.2) = true then (Option.bind (portref2_Alike x1.1 x8.1) fun x34 => some x34) else (some false)) fun s26 =>
  some s26

end Go.Proofs.YtdedbofpidgjhaaDoor.M
