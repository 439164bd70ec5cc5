/-
  Written by program (gen.py) from the IR of the dump: plain models of the functions.
-/
import Derived.Test.YtcebkcahemiaoaaPu
import Derived.Test.YtcebkcahemiaoaaPq
import Derived.Test.YtcebkcahemiaoaaPr
import Derived.Lib.SlicesCompact
namespace Go.Proofs.Ytcebkcahemiaoaa.M
open Go Go.Pu
set_option linter.unusedVariables false
set_option linter.unusedSimpArgs false

structure cal_Span where
  from_ : Int
  to_ : Int

structure cal_edge where
  at_ : Int
  list_ : Int
  by_ : Int

def sortIntsL (l : List Int) : Option (List Int) := if l.length < 4611686018427387904 then some (l.mergeSort fun x y => decide (x ≤ y)) else none

/-- porterslodge cal within -/
def cal_within (n : Int) (low : Int) (high : Int) : Bool :=
  ((decide (low ≤ n)) && (decide (n ≤ high)))

/-- porterslodge cal checkSpan -/
def cal_checkSpan (s : cal_Span) : Option Int :=
  if ((!(cal_within s.from_ 0 3000000)) || (!(cal_within s.to_ 0 3000001))) = true then
    some 2
  else
    if (decide (s.to_ ≤ s.from_)) = true then
      some 1
    else
      some 0

/-- porterslodge cal CheckSpans -/
def cal_CheckSpans (l : (List cal_Span)) : Option Int :=
  if (decide ((50000 : Int) < (l.length : Int))) = true then
    some 4
  else
    Option.bind (rangeB (fun k7 _ => Option.bind (idx l (k7 : Int)) fun x27 => Option.bind (cal_checkSpan x27) fun x41 => if (x41 != 0) = true then some (.rt x41) else Option.bind (if (decide ((0 : Int) < (k7 : Int))) = true then (Option.bind (idx l (w64 ((k7 : Int) - 1))) fun x49 => some (decide (x27.from_ ≤ x49.to_))) else (some false)) fun s47 => if s47 = true then some (.rt 5) else some (.nx ())) l.length 0 ()) fun o4 => o4.andThen (fun y => some y) fun s5 =>
    some 0

/-- cmp Or porterslodge api Errno -/
def cmp_Or_api_Errno (vals : (List Int)) : Option Int :=
  Option.bind (rangeB (fun k6 _ => Option.bind (idx vals (k6 : Int)) fun x21 => if (x21 != 0) = true then some (.rt x21) else some (.nx ())) vals.length 0 ()) fun o3 => o3.andThen (fun y => some y) fun s4 =>
  some 0

/-- cmp isNaN int -/
def cmp_isNaN_int (x : Int) : Bool :=
  x != x

/-- cmp Compare int -/
def cmp_Compare_int (x : Int) (y : Int) : Int :=
  if (cmp_isNaN_int x) = true then
    if (cmp_isNaN_int y) = true then
      0
    else
      (-1)
  else
    if (cmp_isNaN_int y) = true then
      1
    else
      if (decide (x < y)) = true then
        (-1)
      else
        if (decide (y < x)) = true then
          1
        else
          0

/-- porterslodge cal swept 1 -/
def cal_swept_1 (a_ : cal_edge) (b : cal_edge) : Option Int :=
  some (cmp_Compare_int a_.at_ b.at_)

instance : Inhabited cal_edge := ⟨⟨0, 0, 0⟩⟩

/-- porterslodge cal swept -/
noncomputable def cal_swept (lists : (List (List cal_Span))) (wanted : (List Int) → Option Bool) : Option (List cal_Span) :=
  Option.bind (rangeB (fun k6 s14 => Option.bind (Option.bind (idx lists (k6 : Int)) fun x39 => Option.bind (rangeB (R := Empty) (fun k49 s57 => Option.bind (idx x39 (k49 : Int)) fun x72 => Option.bind (appendL 5864062014805 s57 ([(⟨x72.from_, (k6 : Int), 1⟩ : cal_edge), (⟨x72.to_, (k6 : Int), (-1)⟩ : cal_edge)] : List cal_edge)) fun x94 => some (.nx x94)) x39.length 0 s14) fun o46 => o46.andThen (fun y => y.elim) fun s47 => some s47) fun s30 => some (.nx s30)) lists.length 0 ([] : (List cal_edge))) fun o3 => o3.andThen (fun y => some y) fun s4 =>
  Option.bind (sortFuncP (fun y1 y2 => (cal_swept_1 y1 y2).getD 0) s4) fun x107 =>
  Option.bind (makeL 35184372088832 (lists.length : Int) (0 : Int)) fun x111 =>
  Option.bind (whileB (fun s130 => if (decide (s130.2.2 < (x107.length : Int))) = true then Option.bind (Option.bind (idx x107 s130.2.2) fun x158 => Option.bind (whileB (R := Empty) (fun s175 => Option.bind (if (decide (s175.2 < (x107.length : Int))) = true then (Option.bind (idx x107 s175.2) fun x190 => some (x190.at_ == x158.at_)) else (some false)) fun s189 => if s189 = true then Option.bind (idx x107 s175.2) fun x197 => Option.bind (idx s175.1 x197.list_) fun x203 => Option.bind (setI s175.1 x197.list_ (w64 (x203 + x197.by_))) fun x220 => some (.nx (x220, w64 (s175.2 + 1))) else some (.bk (s175.1, s175.2))) (s130.1, s130.2.2)) fun o164 => o164.andThen (fun y => y.elim) fun s165 => Option.bind (if (s165.2 == (x107.length : Int)) = true then (some true) else (Option.bind (wanted s165.1) fun x237 => some (!x237))) fun s228 => if s228 = true then some (s165.1, s130.2.1, s165.2) else Option.bind (idx x107 s165.2) fun x244 => Option.bind (if (decide ((0 : Int) < (s130.2.1.length : Int))) = true then (Option.bind (idx s130.2.1 (w64 ((s130.2.1.length : Int) - 1))) fun x260 => some (x260.to_ == ((⟨x158.at_, x244.at_⟩ : cal_Span).from_))) else (some false)) fun s259 => Option.bind (if s259 = true then Option.bind (idx s130.2.1 (w64 ((s130.2.1.length : Int) - 1))) fun x282 => Option.bind (setI s130.2.1 (w64 ((s130.2.1.length : Int) - 1)) ({ (x282 : cal_Span) with to_ := (⟨x158.at_, x244.at_⟩ : cal_Span).to_ })) fun x288 => some x288 else Option.bind (appendL 8796093022208 s130.2.1 ([(⟨x158.at_, x244.at_⟩ : cal_Span)] : List cal_Span)) fun x301 => some x301) fun s271 => some (s165.1, s271, s165.2)) fun s147 => some (.nx (s147.1, s147.2.1, s147.2.2)) else some (.bk (s130.1, s130.2.1, s130.2.2))) (x111, ([] : (List cal_Span)), 0)) fun o117 => o117.andThen (fun y => some y) fun s118 =>
  some s118.2.1

/-- porterslodge cal limited -/
def cal_limited (l : (List cal_Span)) : ((List cal_Span) × Int) :=
  if (decide ((50000 : Int) < (l.length : Int))) = true then
    (([] : (List cal_Span)), 4)
  else
    (l, 0)

/-- porterslodge cal combined -/
noncomputable def cal_combined (a_ : (List cal_Span)) (b : (List cal_Span)) (wanted : (List Int) → Option Bool) : Option ((List cal_Span) × Int) :=
  Option.bind (cal_CheckSpans a_) fun x5 =>
  Option.bind (cal_CheckSpans b) fun x9 =>
  Option.bind (cmp_Or_api_Errno ([x5, x9] : List Int)) fun x18 =>
  if (x18 != 0) = true then
    some (([] : (List cal_Span)), x18)
  else
    Option.bind (cal_swept ([a_, b] : List (List cal_Span)) wanted) fun x31 =>
    some ((cal_limited x31).1, (cal_limited x31).2)

/-- porterslodge cal Union 1 -/
def cal_Union_1 (n : (List Int)) : Option Bool :=
  Option.bind (idx n 0) fun x3 =>
  Option.bind (idx n 1) fun x7 =>
  some (decide ((0 : Int) < (w64 (x3 + x7))))

/-- porterslodge cal Union -/
noncomputable def cal_Union (a_ : (List cal_Span)) (b : (List cal_Span)) : Option ((List cal_Span) × Int) :=
  Option.bind (cal_combined a_ b (fun y5 => cal_Union_1 y5)) fun x6 =>
  some (x6.1, x6.2)

/-- porterslodge cal Meet 1 -/
def cal_Meet_1 (n : (List Int)) : Option Bool :=
  Option.bind (idx n 0) fun x3 =>
  Option.bind (if (decide ((0 : Int) < x3)) = true then (Option.bind (idx n 1) fun x9 => some (decide ((0 : Int) < x9))) else (some false)) fun s8 =>
  some s8

/-- porterslodge cal Meet -/
noncomputable def cal_Meet (a_ : (List cal_Span)) (b : (List cal_Span)) : Option ((List cal_Span) × Int) :=
  Option.bind (cal_combined a_ b (fun y5 => cal_Meet_1 y5)) fun x6 =>
  some (x6.1, x6.2)

/-- porterslodge cal Minus 1 -/
def cal_Minus_1 (n : (List Int)) : Option Bool :=
  Option.bind (idx n 0) fun x3 =>
  Option.bind (if (decide ((0 : Int) < x3)) = true then (Option.bind (idx n 1) fun x9 => some (x9 == 0)) else (some false)) fun s8 =>
  some s8

/-- porterslodge cal Minus -/
noncomputable def cal_Minus (a_ : (List cal_Span)) (b : (List cal_Span)) : Option ((List cal_Span) × Int) :=
  Option.bind (cal_combined a_ b (fun y5 => cal_Minus_1 y5)) fun x6 =>
  some (x6.1, x6.2)

/-- porterslodge portref2 IsEnd -/
def portref2_IsEnd (m : Int) : Bool :=
  ((decide ((0 : Int) ≤ m)) && (decide (m ≤ 3000001)))

/-- porterslodge portref2 IsMoment -/
def portref2_IsMoment (m : Int) : Bool :=
  ((decide ((0 : Int) ≤ m)) && (decide (m ≤ 3000000)))

/-- porterslodge portref2 spanFault -/
def portref2_spanFault (s : cal_Span) : Option Int :=
  if ((!(portref2_IsMoment s.from_)) || (!(portref2_IsEnd s.to_))) = true then
    some 2
  else
    if (decide (s.to_ ≤ s.from_)) = true then
      some 1
    else
      some 0

/-- porterslodge portref2 SpansFault -/
def portref2_SpansFault (l : (List cal_Span)) : Option Int :=
  if (decide ((50000 : Int) < (l.length : Int))) = true then
    some 4
  else
    Option.bind (rangeB (fun k7 _ => Option.bind (idx l (k7 : Int)) fun x27 => Option.bind (portref2_spanFault x27) fun x41 => if (x41 != 0) = true then some (.rt x41) else Option.bind (if (decide ((0 : Int) < (k7 : Int))) = true then (Option.bind (idx l (w64 ((k7 : Int) - 1))) fun x49 => some (decide (x27.from_ ≤ x49.to_))) else (some false)) fun s47 => if s47 = true then some (.rt 5) else some (.nx ())) l.length 0 ()) fun o4 => o4.andThen (fun y => some y) fun s5 =>
    some 0

def compactIntsL (l : List Int) : Option (List Int) := if l.length ≤ 9223372036854775807 then some (Go.Lib.compact l) else none

/-- porterslodge portref2 merged -/
noncomputable def portref2_merged (holds : Int → Option Bool) (lists : (List (List cal_Span))) : Option (List cal_Span) :=
  Option.bind (rangeB (fun k6 s14 => Option.bind (Option.bind (idx lists (k6 : Int)) fun x39 => Option.bind (rangeB (R := Empty) (fun k49 s57 => Option.bind (idx x39 (k49 : Int)) fun x72 => Option.bind (appendL 17592186044416 s57 ([x72.from_, x72.to_] : List Int)) fun x92 => some (.nx x92)) x39.length 0 s14) fun o46 => o46.andThen (fun y => y.elim) fun s47 => some s47) fun s30 => some (.nx s30)) lists.length 0 ([] : (List Int))) fun o3 => o3.andThen (fun y => some y) fun s4 =>
  Option.bind (sortIntsL s4) fun x105 =>
  Option.bind (compactIntsL x105) fun x109 =>
  Option.bind (whileB (fun s125 => if (decide ((w64 (s125.2 + 1)) < (x109.length : Int))) = true then Option.bind (Option.bind (idx x109 s125.2) fun x149 => Option.bind (holds x149) fun x154 => if (!x154) = true then some s125.1 else Option.bind (if (decide ((0 : Int) < (s125.1.length : Int))) = true then (Option.bind (idx s125.1 (w64 ((s125.1.length : Int) - 1))) fun x163 => some (x163.to_ == x149)) else (some false)) fun s162 => Option.bind (if s162 = true then Option.bind (idx x109 (w64 (s125.2 + 1))) fun x187 => Option.bind (idx s125.1 (w64 ((s125.1.length : Int) - 1))) fun x192 => Option.bind (setI s125.1 (w64 ((s125.1.length : Int) - 1)) ({ (x192 : cal_Span) with to_ := x187 })) fun x198 => some x198 else Option.bind (idx x109 (w64 (s125.2 + 1))) fun x210 => Option.bind (appendL 8796093022208 s125.1 ([(⟨x149, x210⟩ : cal_Span)] : List cal_Span)) fun x220 => some x220) fun s177 => some s177) fun s140 => some (.nx (s140, w64 (s125.2 + 1))) else some (.bk (s125.1, s125.2))) (([] : (List cal_Span)), 0)) fun o114 => o114.andThen (fun y => some y) fun s115 =>
  some s115.1

/-- slices IndexFunc porterslodge cal Span porterslodge cal Span -/
def slices_IndexFunc_Lcal_Span_cal_Span (s : (List cal_Span)) (f : cal_Span → Option Bool) : Option Int :=
  Option.bind (rangeB (fun k6 _ => Option.bind (idx s (k6 : Int)) fun x25 => Option.bind (f x25) fun x30 => if x30 = true then some (.rt (k6 : Int)) else some (.nx ())) s.length 0 ()) fun o3 => o3.andThen (fun y => some y) fun s4 =>
  some (-1)

/-- slices ContainsFunc porterslodge cal Span porterslodge cal Span -/
def slices_ContainsFunc_Lcal_Span_cal_Span (s : (List cal_Span)) (f : cal_Span → Option Bool) : Option Bool :=
  Option.bind (slices_IndexFunc_Lcal_Span_cal_Span s f) fun x3 =>
  some (decide ((0 : Int) ≤ x3))

/-- porterslodge portref2 within 1 -/
def portref2_within_1 (s : cal_Span) (p1 : Int) : Option Bool :=
  some ((decide (s.from_ ≤ p1)) && (decide (p1 < s.to_)))

/-- porterslodge portref2 within -/
def portref2_within (l : (List cal_Span)) (m : Int) : Option Bool :=
  Option.bind (slices_ContainsFunc_Lcal_Span_cal_Span l (fun y9 => portref2_within_1 y9 m)) fun x10 =>
  some x10

/-- porterslodge portref2 SetOf 1 -/
def portref2_SetOf_1 (m : Int) (p1 : (List cal_Span)) (p2 : (List cal_Span)) (p3 : ByteArray) : Option Bool :=
  Option.bind (portref2_within p1 m) fun x4 =>
  Option.bind (portref2_within p2 m) fun x8 =>
  if (strEq p3 (⟨#[117, 110, 105, 111, 110]⟩ : ByteArray)) = true then
    some (x4 || x8)
  else
    if (strEq p3 (⟨#[109, 101, 101, 116]⟩ : ByteArray)) = true then
      some (x4 && x8)
    else
      some (x4 && (!x8))

/-- porterslodge portref2 SetOf -/
noncomputable def portref2_SetOf (op : ByteArray) (a_ : (List cal_Span)) (b : (List cal_Span)) : Option ((List cal_Span) × Int) :=
  Option.bind (rangeB (fun k49 _ => Option.bind (idx ([a_, b] : List (List cal_Span)) (k49 : Int)) fun x68 => Option.bind (portref2_SpansFault x68) fun x75 => if (x75 != 0) = true then some (.rt (([] : (List cal_Span)), x75)) else some (.nx ())) (([a_, b] : List (List cal_Span)).length) 0 ()) fun o46 => o46.andThen (fun y => some y) fun s47 =>
  Option.bind (portref2_merged (fun y100 => portref2_SetOf_1 y100 a_ b op) ([a_, b] : List (List cal_Span))) fun x101 =>
  if (decide ((50000 : Int) < (x101.length : Int))) = true then
    some (([] : (List cal_Span)), 4)
  else
    some (x101, 0)

/-- slices Equal porterslodge cal Span porterslodge cal Span -/
def slices_Equal_Lcal_Span_cal_Span (s1 : (List cal_Span)) (s2 : (List cal_Span)) : Option Bool :=
  if ((s1.length : Int) != (s2.length : Int)) = true then
    some false
  else
    Option.bind (rangeB (fun k9 _ => Option.bind (idx s1 (k9 : Int)) fun x29 => Option.bind (idx s2 (k9 : Int)) fun x34 => if (!(x29.from_ == x34.from_ && (x29.to_ == x34.to_))) = true then some (.rt false) else some (.nx ())) s1.length 0 ()) fun o6 => o6.andThen (fun y => some y) fun s7 =>
    some true

def setsOk (x y : (List cal_Span) × Int) : Option Unit := if (x.2 == y.2) = true then Option.bind (slices_Equal_Lcal_Span_cal_Span x.1 y.1) fun q => if q = true then some () else none else none
/-- porterslodge/portlaw2.CalSets -/
noncomputable def portlaw2_CalSets (a_ b : List cal_Span) : Option Bool :=
  Option.bind (cal_Union a_ b) fun x1 => Option.bind (portref2_SetOf ⟨#[117, 110, 105, 111, 110]⟩ a_ b) fun y1 => Option.bind (setsOk x1 y1) fun _ =>
  Option.bind (cal_Meet a_ b) fun x2 => Option.bind (portref2_SetOf ⟨#[109, 101, 101, 116]⟩ a_ b) fun y2 => Option.bind (setsOk x2 y2) fun _ =>
  Option.bind (cal_Minus a_ b) fun x3 => Option.bind (portref2_SetOf ⟨#[109, 105, 110, 117, 115]⟩ a_ b) fun y3 => Option.bind (setsOk x3 y3) fun _ => some true

end Go.Proofs.Ytcebkcahemiaoaa.M
