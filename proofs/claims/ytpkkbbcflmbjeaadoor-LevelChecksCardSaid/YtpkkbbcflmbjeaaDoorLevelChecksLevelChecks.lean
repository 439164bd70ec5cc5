/-
  CheckPolicy and PolicyText are their documents: plain part.
-/
import Derived.Test.YtpkkbbcflmbjeaaDoorLevelChecksLvlOk
import Derived.Test.YtpkkbbcflmbjeaaDoorLevelChecksTextLines
namespace Go.Proofs.YtpkkbbcflmbjeaaDoor.M
open Go Go.Pu
set_option linter.unusedSimpArgs false
set_option linter.unusedVariables false

abbrev sp_ : ByteArray := ⟨#[32]⟩
abbrev nl_ : ByteArray := ⟨#[10]⟩
abbrev when_ : ByteArray := ⟨#[119, 104, 101, 110]⟩
theorem when_sp : (⟨#[119, 104, 101, 110, 32]⟩ : ByteArray) = when_ ++ sp_ := rfl
theorem cat_ok (s t : ByteArray) (h : s.size + t.size ≤ 100000000000) : catS s t = some (s ++ t) := (cat_val s t (by omega) (by omega)).1
theorem write_ok (s t : ByteArray) (h : s.size + t.size ≤ 100000000000) : strings_Builder_WriteString s t = some ((t.size : Int), (), s ++ t) := by
  unfold strings_Builder_WriteString
  rw [if_pos (by omega)]
theorem join2 (a b : ByteArray) : lineB [a, b] = (a ++ sp_ ++ b) ++ nl_ := by
  have := joinB_snoc a [] b sp_
  rw [joinB_single] at this
  unfold lineB
  rw [show [a, b] = a :: ([] ++ [b]) from rfl, this]
  apply ByteArray.ext; apply Array.toList_inj.1
  simp [ByteArray.data_append]
theorem join3 (a b c : ByteArray) : lineB [a, b, c] = (a ++ sp_ ++ b ++ sp_ ++ c) ++ nl_ := by
  have h1 := joinB_snoc a [b] c sp_
  have h2 := joinB_snoc a [] b sp_
  rw [joinB_single] at h2
  unfold lineB
  rw [show [a, b, c] = a :: ([b] ++ [c]) from rfl, h1, show [a, b] = a :: ([] ++ [b]) from rfl, h2]
  apply ByteArray.ext; apply Array.toList_inj.1
  simp [ByteArray.data_append]
theorem join4 (a b c d : ByteArray) : lineB [a, b, c, d] = (a ++ sp_ ++ b ++ sp_ ++ c ++ sp_ ++ d) ++ nl_ := by
  have h0 := joinB_snoc a [b, c] d sp_
  have h1 := joinB_snoc a [b] c sp_
  have h2 := joinB_snoc a [] b sp_
  rw [joinB_single] at h2
  unfold lineB
  rw [show [a, b, c, d] = a :: ([b, c] ++ [d]) from rfl, h0, show [a, b, c] = a :: ([b] ++ [c]) from rfl, h1, show [a, b] = a :: ([] ++ [b]) from rfl, h2]
  apply ByteArray.ext; apply Array.toList_inj.1
  simp [ByteArray.data_append]
theorem words_same : level_kindWords = some portref2_valueWords := rfl
theorem word_at (k : Int) (h0 : 0 ≤ k) (h6 : k ≤ 6) : ∃ w, idx portref2_valueWords k = some w ∧ w.size ≤ 6 ∧ (k = 0 → w = ⟨#[110, 105, 108]⟩) ∧ (k = 3 → w = ⟨#[116, 101, 120, 116]⟩) := by
  have : k = 0 ∨ k = 1 ∨ k = 2 ∨ k = 3 ∨ k = 4 ∨ k = 5 ∨ k = 6 := by omega
  rcases this with rfl | rfl | rfl | rfl | rfl | rfl | rfl
  · exact ⟨_, rfl, by decide, fun _ => rfl, fun h => by omega⟩
  · exact ⟨_, rfl, by decide, fun h => by omega, fun h => by omega⟩
  · exact ⟨_, rfl, by decide, fun h => by omega, fun h => by omega⟩
  · exact ⟨_, rfl, by decide, fun h => by omega, fun h => rfl⟩
  · exact ⟨_, rfl, by decide, fun h => by omega, fun h => by omega⟩
  · exact ⟨_, rfl, by decide, fun h => by omega, fun h => by omega⟩
  · exact ⟨_, rfl, by decide, fun h => by omega, fun h => by omega⟩
theorem target_at (k : Int) (h0 : 1 ≤ k) (h6 : k ≤ 3) : ∃ w, idx portref2_targetWords k = some w ∧ w.size ≤ 6 ∧ Option.bind level_targetWords (fun x => idx x (w64 (k - 1))) = some w := by
  have : k = 1 ∨ k = 2 ∨ k = 3 := by omega
  rcases this with rfl | rfl | rfl
  · exact ⟨_, rfl, by decide, rfl⟩
  · exact ⟨_, rfl, by decide, rfl⟩
  · exact ⟨_, rfl, by decide, rfl⟩
theorem i64 {n : Int} (h1 : -999999999999999999 ≤ n) (h2 : n ≤ 999999999999999999) : I64 n := ⟨by omega, by omega⟩
theorem nl_size : nl_.size = 1 := rfl
theorem sp_size : sp_.size = 1 := rfl
theorem when_size : when_.size = 4 := rfl
theorem num_small {t : level_Test} (h : portref2_testFault t = some 0) (hk : t.value.kind ≠ 2) : -999999999999999999 ≤ t.value.int ∧ t.value.int ≤ 999999999999999999 := by
  obtain ⟨h1, h2, h3, _⟩ := testFault_ok h
  have : t.value.kind = 0 ∨ t.value.kind = 1 ∨ t.value.kind = 3 ∨ t.value.kind = 4 ∨ t.value.kind = 5 ∨ t.value.kind = 6 := by omega
  unfold numOk at h3
  rcases this with e | e | e | e | e | e
  · have := h2; omega
  · simp [e, level_within] at h3; omega
  · have := h2; omega
  · simp [e, level_within] at h3; omega
  · simp [e, level_within] at h3; omega
  · simp [e, level_within] at h3; omega
/-- a test's line, by the code and by the document -/
theorem test_line (t : level_Test) (hf : -1 ≤ t.field ∧ t.field < 20) (ht : portref2_testFault t = some 0) (hi : -999999999999999999 ≤ t.value.int ∧ t.value.int ≤ 999999999999999999) :
    ∃ X, level_testText t = some X ∧ X.size ≤ 500 ∧ (t.value.kind = 0 → portref2_line [.str when_, .int t.field, .str ⟨#[110, 105, 108]⟩] = some (X ++ nl_)) ∧
      (t.value.kind = 3 → X = when_ ++ sp_ ++ itoaB t.field ++ ⟨#[32, 116, 101, 120, 116, 32]⟩ ++ t.value.text) ∧
      (t.value.kind ≠ 0 → t.value.kind ≠ 3 → ∃ w, idx portref2_valueWords t.value.kind = some w ∧ portref2_line [.str when_, .int t.field, .str w, .int t.value.int] = some (X ++ nl_)) := by
  obtain ⟨⟨k0, k6⟩, _, _, htx⟩ := testFault_ok ht
  obtain ⟨w, hw, hws, hw0, hw3⟩ := word_at _ k0 k6
  have hF : I64 t.field := ⟨by omega, by omega⟩
  have hI := i64 hi.1 hi.2
  have z1 := itoaB_size hF
  have z2 := itoaB_size hI
  have y1 : ((when_ ++ sp_) ++ itoaB t.field).size = 5 + (itoaB t.field).size := by rw [ByteArray.size_append, ByteArray.size_append, when_size, sp_size]
  have y2 : (((when_ ++ sp_) ++ itoaB t.field) ++ sp_).size = 6 + (itoaB t.field).size := by rw [ByteArray.size_append, y1, sp_size]; omega
  have y3 : ((((when_ ++ sp_) ++ itoaB t.field) ++ sp_) ++ w).size = 6 + (itoaB t.field).size + w.size := by rw [ByteArray.size_append, y2]
  have y4 : (((((when_ ++ sp_) ++ itoaB t.field) ++ sp_) ++ w) ++ sp_).size = 7 + (itoaB t.field).size + w.size := by rw [ByteArray.size_append, y3, sp_size]; omega
  unfold level_testText
  rw [itoa_some hF, Option.bind_some, when_sp, cat_ok _ _ (by rw [ByteArray.size_append, when_size, sp_size]; omega), Option.bind_some, cat_ok _ sp_ (by rw [y1, sp_size]; omega), Option.bind_some, words_same, Option.bind_some, hw, Option.bind_some, cat_ok _ w (by rw [y2]; omega), Option.bind_some]
  by_cases e0 : t.value.kind = 0
  · rw [if_pos (by simpa using e0)]
    refine ⟨_, rfl, by rw [y3]; omega, fun _ => ?_, fun h => by omega, fun h => absurd e0 h⟩
    rw [hw0 e0, line_some 21 _ (by omega) (by omega) (by
      intro x hx
      simp only [List.mem_cons, List.not_mem_nil, or_false] at hx
      rcases hx with rfl | rfl | rfl
      · show _ ≤ 21; decide
      · exact hF
      · show _ ≤ 21; decide) (by simp)]
    simp only [List.map_cons, List.map_nil, AnyT]
    rw [join3]
  rw [if_neg (by simpa using e0)]
  by_cases e3 : t.value.kind = 3
  · rw [if_pos (by simpa using e3), cat_ok _ sp_ (by rw [y3, sp_size]; omega), Option.bind_some, cat_ok _ _ (by rw [y4]; omega), Option.bind_some]
    refine ⟨_, rfl, by rw [ByteArray.size_append, y4]; omega, fun h => absurd h e0, fun _ => ?_, fun _ h => absurd e3 h⟩
    rw [hw3 e3]
    apply ByteArray.ext; apply Array.toList_inj.1
    simp [ByteArray.data_append]
  · rw [if_neg (by simpa using e3), cat_ok _ sp_ (by rw [y3, sp_size]; omega), Option.bind_some, itoa_some hI, Option.bind_some, cat_ok _ _ (by rw [y4]; omega), Option.bind_some]
    refine ⟨_, rfl, by rw [ByteArray.size_append, y4]; omega, fun h => absurd h e0, fun h => absurd h e3, fun _ _ => ⟨w, rfl, ?_⟩⟩
    rw [line_some 21 _ (by omega) (by omega) (by
      intro x hx
      simp only [List.mem_cons, List.not_mem_nil, or_false] at hx
      rcases hx with rfl | rfl | rfl | rfl
      · show _ ≤ 21; decide
      · exact hF
      · show _ ≤ 21; omega
      · exact hI) (by simp)]
    simp only [List.map_cons, List.map_nil, AnyT]
    rw [join4]
theorem text_eq (p : level_Policy) (hn : ∀ l ∈ p.levels, l.name.size ≤ 9223372036854775807 ∧ l.targets.length ≤ 9223372036854775807) (hp : p.pauses.length ≤ 9223372036854775807) : ∃ r, level_PolicyText p = some r ∧ portref2_PolicyString p = some r := by
  obtain ⟨e, h1, h2, _⟩ := policy_eq p hn hp
  unfold level_PolicyText portref2_PolicyString
  rw [h1, h2, Option.bind_some, Option.bind_some]
  by_cases he : e = 0
  rotate_left
  · have : (e != 0) = true := by simpa using he
    rw [if_pos this, if_pos this]
    exact ⟨_, rfl, rfl⟩
  subst he
  simp only [bne_self_eq_false, Bool.false_eq_true, if_false]
  obtain ⟨⟨p4, pv⟩, l20, lok⟩ := policyFault_ok h2 (fun l hl => (hn l hl).2) hp
  rw [write_ok _ _ (by decide), Option.bind_some]
  have hstart : ByteArray.empty ++ (⟨#[112, 97, 117, 115, 101]⟩ : ByteArray) = ⟨#[112, 97, 117, 115, 101]⟩ := rfl
  simp only [hstart]
  -- the pauses
  rcases rangeB_sim (R := ByteArray × Int) (b := fun k38 s44 => Option.bind (idx p.pauses (k38 : Int)) fun x57 => Option.bind (strconv_Itoa x57) fun x61 => Option.bind (catS (⟨#[32]⟩ : ByteArray) x61) fun x65 => Option.bind (strings_Builder_WriteString s44 x65) fun x66 => some (.nx x66.2.2)) (b' := fun k28 s34 => Option.bind (idx p.pauses (k28 : Int)) fun x47 => Option.bind (strconv_Itoa x47) fun x51 => Option.bind (catS (⟨#[32]⟩ : ByteArray) x51) fun x55 => Option.bind (catS s34 x55) fun x56 => some (.nx x56)) p.pauses.length (fun _ => False) (fun k s s' => s = s' ∧ s.size ≤ 5 + 22 * k) (s := (⟨#[112, 97, 117, 115, 101]⟩ : ByteArray)) (s' := (⟨#[112, 97, 117, 115, 101]⟩ : ByteArray)) ⟨rfl, by decide⟩ (by
    rintro k s _ hk ⟨rfl, hs⟩
    right
    have hv := pv _ (List.getElem_mem hk)
    have hI : I64 p.pauses[k] := ⟨by omega, by omega⟩
    have z := itoaB_size hI
    have z2 : (sp_ ++ itoaB p.pauses[k]).size = 1 + (itoaB p.pauses[k]).size := by rw [ByteArray.size_append, sp_size]
    simp only [idx_lt _ _ hk, Option.bind_some, itoa_some hI]
    rw [cat_ok _ _ (by rw [show (⟨#[32]⟩ : ByteArray).size = 1 from rfl]; omega), Option.bind_some, Option.bind_some, write_ok _ _ (by rw [z2]; omega), cat_ok _ _ (by rw [z2]; omega)]
    exact ⟨_, _, rfl, rfl, rfl, by rw [ByteArray.size_append, z2]; omega⟩) with ⟨_, _, _, h⟩ | ⟨s1, _, e1, e2, rfl, hs1⟩
  · exact h.elim
  rw [e1, e2]
  simp only [Option.bind_some, Lp.andThen_fin]
  have hs1n : (s1 ++ nl_).size ≤ 200 := by rw [ByteArray.size_append, nl_size]; omega
  have hwb : strings_Builder_WriteByte s1 (10 : UInt8) = some ((), s1 ++ nl_) := by
    unfold strings_Builder_WriteByte
    rw [if_pos (by omega)]
  rw [hwb, cat_ok _ nl_ (by rw [nl_size]; omega), Option.bind_some, Option.bind_some]
  simp only
  generalize s1 ++ nl_ = s2 at hs1n
  rcases rangeB_sim (R := ByteArray × Int) (b := fun k86 s92 => Option.bind (α := Lp _ _) (Option.bind (idx p.levels (k86 : Int)) fun x113 => Option.bind (catS (⟨#[108, 101, 118, 101, 108, 32]⟩ : ByteArray) x113.name) fun x137 => Option.bind (catS x137 (⟨#[10]⟩ : ByteArray)) fun x138 => Option.bind (strings_Builder_WriteString s92 x138) fun x139 => Option.bind (rangeB (fun k151 s157 => Option.bind (idx x113.tests (k151 : Int)) fun x170 => if (!(level_within x170.value.int (-999999999999999999) 999999999999999999)) = true then some (.rt ((⟨#[]⟩ : ByteArray), 2)) else Option.bind (level_testText x170) fun x187 => Option.bind (catS x187 (⟨#[10]⟩ : ByteArray)) fun x191 => Option.bind (strings_Builder_WriteString s157 x191) fun x192 => some (.nx x192.2.2)) x113.tests.length 0 x139.2.2) fun o148 => o148.andThen (fun y => some (.rt y)) fun s149 => Option.bind (rangeB (fun k207 s213 => Option.bind (idx x113.targets (k207 : Int)) fun x226 => Option.bind (level_targetWords) fun x245 => Option.bind (idx x245 (w64 (x226.kind - 1))) fun x253 => Option.bind (catS x253 (⟨#[32]⟩ : ByteArray)) fun x258 => Option.bind (strconv_Itoa x226.minutes) fun x259 => Option.bind (catS x258 x259) fun x263 => Option.bind (catS x263 (⟨#[32]⟩ : ByteArray)) fun x264 => Option.bind (strconv_Itoa x226.calendar) fun x265 => Option.bind (catS x264 x265) fun x269 => Option.bind (catS x269 (⟨#[10]⟩ : ByteArray)) fun x270 => Option.bind (strings_Builder_WriteString s213 x270) fun x271 => some (.nx x271.2.2)) x113.targets.length 0 s149) fun o204 => o204.andThen (fun y => some (.rt y)) fun s205 => some (.fin s205)) fun o105 => o105.andThen (fun y => some (.rt y)) fun s106 => some (.nx s106)) (b' := fun k68 s74 => Option.bind (α := Lp _ _) (Option.bind (idx p.levels (k68 : Int)) fun x95 => Option.bind (portref2_line ([(AnyV.str (⟨#[108, 101, 118, 101, 108]⟩ : ByteArray)), (AnyV.str x95.name)] : List AnyV)) fun x124 => Option.bind (catS s74 x124) fun x128 => Option.bind (rangeB (fun k136 s142 => Option.bind (α := Lp _ _) (Option.bind (idx x95.tests (k136 : Int)) fun x163 => Option.bind (α := Lp _ _) (Option.bind (α := Lp _ _) (if ((x163.value.kind == 2) && ((decide (x163.value.int < (-999999999999999999))) || (decide ((999999999999999999 : Int) < x163.value.int)))) = true then some (.rt ((⟨#[]⟩ : ByteArray), 2)) else Option.bind (if (x163.value.kind == 0) = true then Option.bind (portref2_line ([(AnyV.str (⟨#[119, 104, 101, 110]⟩ : ByteArray)), (AnyV.int x163.field), (AnyV.str (⟨#[110, 105, 108]⟩ : ByteArray))] : List AnyV)) fun x226 => Option.bind (catS s142 x226) fun x230 => some x230 else Option.bind (if (x163.value.kind == 3) = true then Option.bind (strconv_Itoa x163.field) fun x243 => Option.bind (catS (⟨#[119, 104, 101, 110, 32]⟩ : ByteArray) x243) fun x244 => Option.bind (catS x244 (⟨#[32, 116, 101, 120, 116, 32]⟩ : ByteArray)) fun x245 => Option.bind (catS x245 x163.value.text) fun x247 => Option.bind (catS x247 (⟨#[10]⟩ : ByteArray)) fun x248 => Option.bind (catS s142 x248) fun x249 => some x249 else Option.bind (idx portref2_valueWords x163.value.kind) fun x262 => Option.bind (portref2_line ([(AnyV.str (⟨#[119, 104, 101, 110]⟩ : ByteArray)), (AnyV.int x163.field), (AnyV.str x262), (AnyV.int x163.value.int)] : List AnyV)) fun x272 => Option.bind (catS s142 x272) fun x276 => some x276) fun s234 => some s234) fun s212 => some (.fin s212)) fun o201 => o201.andThen (fun y => some (.rt y)) fun s202 => some (.fin s202)) fun o186 => o186.andThen (fun y => some (.rt y)) fun s187 => some (.fin s187)) fun o155 => o155.andThen (fun y => some (.rt y)) fun s156 => some (.nx s156)) x95.tests.length 0 x128) fun o133 => o133.andThen (fun y => some (.rt y)) fun s134 => Option.bind (rangeB (fun k292 s298 => Option.bind (idx x95.targets (k292 : Int)) fun x311 => Option.bind (idx portref2_targetWords x311.kind) fun x331 => Option.bind (portref2_line ([(AnyV.str x331), (AnyV.int x311.minutes), (AnyV.int x311.calendar)] : List AnyV)) fun x342 => Option.bind (catS s298 x342) fun x346 => some (.nx x346)) x95.targets.length 0 s134) fun o289 => o289.andThen (fun y => some (.rt y)) fun s290 => some (.fin s290)) fun o87 => o87.andThen (fun y => some (.rt y)) fun s88 => some (.nx s88)) p.levels.length (fun _ => True) (fun k s s' => s = s' ∧ s.size ≤ 200 + 20000 * k) (s := s2) (s' := s2) ⟨rfl, by omega⟩ (by
    rintro k s _ hk ⟨rfl, hs⟩
    have hL := lok _ (List.getElem_mem hk)
    simp only [idx_lt _ _ hk, Option.bind_some]
    generalize p.levels[k] = l at hL
    have hlev : (⟨#[108, 101, 118, 101, 108, 32]⟩ : ByteArray) = ⟨#[108, 101, 118, 101, 108]⟩ ++ sp_ := rfl
    have hnm := hL.name
    have y0 : ((⟨#[108, 101, 118, 101, 108]⟩ : ByteArray) ++ sp_).size = 6 := rfl
    have y1 : ((⟨#[108, 101, 118, 101, 108]⟩ : ByteArray) ++ sp_ ++ l.name).size = 6 + l.name.size := by rw [ByteArray.size_append, y0]
    have y2 : ((⟨#[108, 101, 118, 101, 108]⟩ : ByteArray) ++ sp_ ++ l.name ++ nl_).size = 7 + l.name.size := by rw [ByteArray.size_append, y1, nl_size]; omega
    have hline : portref2_line ([(AnyV.str (⟨#[108, 101, 118, 101, 108]⟩ : ByteArray)), (AnyV.str l.name)] : List AnyV) = some ((⟨#[108, 101, 118, 101, 108]⟩ : ByteArray) ++ sp_ ++ l.name ++ nl_) := by
      rw [line_some 21 _ (by omega) (by omega) (by
        intro x hx
        simp only [List.mem_cons, List.not_mem_nil, or_false] at hx
        rcases hx with rfl | rfl
        · show _ ≤ 21; decide
        · show _ ≤ 21; omega) (by simp)]
      simp only [List.map_cons, List.map_nil, AnyT]
      rw [join2]
    rw [hlev, cat_ok _ _ (by rw [y0]; omega), Option.bind_some, cat_ok _ nl_ (by rw [y1, nl_size]; omega), Option.bind_some, write_ok _ _ (by rw [y2]; omega), Option.bind_some, hline, Option.bind_some, cat_ok _ _ (by rw [y2]; omega), Option.bind_some]
    simp only
    have hs3 : (s ++ ((⟨#[108, 101, 118, 101, 108]⟩ : ByteArray) ++ sp_ ++ l.name ++ nl_)).size ≤ 300 + 20000 * k := by rw [ByteArray.size_append, y2]; omega
    generalize s ++ ((⟨#[108, 101, 118, 101, 108]⟩ : ByteArray) ++ sp_ ++ l.name ++ nl_) = s3 at hs3
    rcases rangeB_sim (R := ByteArray × Int) (b := fun k151 s157 => Option.bind (idx l.tests (k151 : Int)) fun x170 => if (!(level_within x170.value.int (-999999999999999999) 999999999999999999)) = true then some (.rt ((⟨#[]⟩ : ByteArray), 2)) else Option.bind (level_testText x170) fun x187 => Option.bind (catS x187 (⟨#[10]⟩ : ByteArray)) fun x191 => Option.bind (strings_Builder_WriteString s157 x191) fun x192 => some (.nx x192.2.2)) (b' := fun k136 s142 => Option.bind (α := Lp _ _) (Option.bind (idx l.tests (k136 : Int)) fun x163 => Option.bind (α := Lp _ _) (Option.bind (α := Lp _ _) (if ((x163.value.kind == 2) && ((decide (x163.value.int < (-999999999999999999))) || (decide ((999999999999999999 : Int) < x163.value.int)))) = true then some (.rt ((⟨#[]⟩ : ByteArray), 2)) else Option.bind (if (x163.value.kind == 0) = true then Option.bind (portref2_line ([(AnyV.str (⟨#[119, 104, 101, 110]⟩ : ByteArray)), (AnyV.int x163.field), (AnyV.str (⟨#[110, 105, 108]⟩ : ByteArray))] : List AnyV)) fun x226 => Option.bind (catS s142 x226) fun x230 => some x230 else Option.bind (if (x163.value.kind == 3) = true then Option.bind (strconv_Itoa x163.field) fun x243 => Option.bind (catS (⟨#[119, 104, 101, 110, 32]⟩ : ByteArray) x243) fun x244 => Option.bind (catS x244 (⟨#[32, 116, 101, 120, 116, 32]⟩ : ByteArray)) fun x245 => Option.bind (catS x245 x163.value.text) fun x247 => Option.bind (catS x247 (⟨#[10]⟩ : ByteArray)) fun x248 => Option.bind (catS s142 x248) fun x249 => some x249 else Option.bind (idx portref2_valueWords x163.value.kind) fun x262 => Option.bind (portref2_line ([(AnyV.str (⟨#[119, 104, 101, 110]⟩ : ByteArray)), (AnyV.int x163.field), (AnyV.str x262), (AnyV.int x163.value.int)] : List AnyV)) fun x272 => Option.bind (catS s142 x272) fun x276 => some x276) fun s234 => some s234) fun s212 => some (.fin s212)) fun o201 => o201.andThen (fun y => some (.rt y)) fun s202 => some (.fin s202)) fun o186 => o186.andThen (fun y => some (.rt y)) fun s187 => some (.fin s187)) fun o155 => o155.andThen (fun y => some (.rt y)) fun s156 => some (.nx s156)) l.tests.length (fun _ => True) (fun j s s' => s = s' ∧ s.size ≤ 300 + 20000 * k + 1000 * j) (s := s3) (s' := s3) ⟨rfl, by omega⟩ (by
      rintro j s _ hj ⟨rfl, hs⟩
      have hT := hL.test _ (List.getElem_mem hj)
      have h8 := hL.tests
      simp only [idx_lt _ _ hj, Option.bind_some]
      generalize l.tests[j] = t at hT
      by_cases hin : -999999999999999999 ≤ t.value.int ∧ t.value.int ≤ 999999999999999999
      rotate_left
      · have hk2 : t.value.kind = 2 := by
          by_cases h : t.value.kind = 2
          · exact h
          · exact absurd (num_small hT.2 h) hin
        have c1 : (!(level_within t.value.int (-999999999999999999) 999999999999999999)) = true := by unfold level_within; simp; omega
        have c2 : ((t.value.kind == 2) && ((decide (t.value.int < (-999999999999999999))) || (decide ((999999999999999999 : Int) < t.value.int)))) = true := by simp [hk2]; omega
        left
        rw [if_pos c1, if_pos c2]
        exact ⟨_, rfl, rfl, trivial⟩
      right
      have c1 : (!(level_within t.value.int (-999999999999999999) 999999999999999999)) = false := by unfold level_within; simp; omega
      have c2 : ((t.value.kind == 2) && ((decide (t.value.int < (-999999999999999999))) || (decide ((999999999999999999 : Int) < t.value.int)))) = false := by simp; omega
      obtain ⟨X, hX, hXs, q0, q3, q9⟩ := test_line t hT.1 hT.2 hin
      have hXn : (X ++ nl_).size = X.size + 1 := by rw [ByteArray.size_append, nl_size]
      simp only [c1, c2, Bool.false_eq_true, if_false, hX, Option.bind_some]
      rw [cat_ok X nl_ (by rw [nl_size]; omega), Option.bind_some, write_ok _ _ (by rw [hXn]; omega), Option.bind_some]
      have hcat := cat_ok s (X ++ nl_) (by rw [hXn]; omega)
      refine ⟨_, _, rfl, ?_, rfl, by simp only; rw [ByteArray.size_append, hXn]; omega⟩
      by_cases e0 : t.value.kind = 0
      · rw [if_pos (by simpa using e0), q0 e0, Option.bind_some, hcat]
        rfl
      rw [if_neg (by simpa using e0)]
      by_cases e3 : t.value.kind = 3
      · have hF : I64 t.field := ⟨by omega, by omega⟩
        have z1 := itoaB_size hF
        obtain ⟨_, _, _, htx⟩ := testFault_ok hT.2
        have y1 : ((when_ ++ sp_) ++ itoaB t.field).size = 5 + (itoaB t.field).size := by rw [ByteArray.size_append, ByteArray.size_append, when_size, sp_size]
        have y6 : (⟨#[32, 116, 101, 120, 116, 32]⟩ : ByteArray).size = 6 := rfl
        have y2 : (((when_ ++ sp_) ++ itoaB t.field) ++ (⟨#[32, 116, 101, 120, 116, 32]⟩ : ByteArray)).size = 11 + (itoaB t.field).size := by rw [ByteArray.size_append, y1, y6]; omega
        rw [if_pos (by simpa using e3), itoa_some hF, Option.bind_some, when_sp, cat_ok _ _ (by rw [ByteArray.size_append, when_size, sp_size]; omega), Option.bind_some, cat_ok _ _ (by rw [y1, y6]; omega), Option.bind_some, cat_ok _ _ (by rw [y2]; omega), Option.bind_some, ← q3 e3, cat_ok X nl_ (by rw [nl_size]; omega), Option.bind_some, hcat]
        rfl
      · obtain ⟨w, hw, hl⟩ := q9 e0 e3
        rw [if_neg (by simpa using e3), hw, Option.bind_some, hl, Option.bind_some, hcat]
        rfl) with ⟨r, f1, f2, _⟩ | ⟨s4, _, f1, f2, rfl, hs4⟩
    · left
      rw [f1, f2]
      exact ⟨r, rfl, rfl, trivial⟩
    right
    rw [f1, f2]
    simp only [Option.bind_some, Lp.andThen_fin]
    have h8 := hL.tests
    have h3 := hL.targets
    rcases rangeB_sim (R := ByteArray × Int) (b := fun k207 s213 => Option.bind (idx l.targets (k207 : Int)) fun x226 => Option.bind (level_targetWords) fun x245 => Option.bind (idx x245 (w64 (x226.kind - 1))) fun x253 => Option.bind (catS x253 (⟨#[32]⟩ : ByteArray)) fun x258 => Option.bind (strconv_Itoa x226.minutes) fun x259 => Option.bind (catS x258 x259) fun x263 => Option.bind (catS x263 (⟨#[32]⟩ : ByteArray)) fun x264 => Option.bind (strconv_Itoa x226.calendar) fun x265 => Option.bind (catS x264 x265) fun x269 => Option.bind (catS x269 (⟨#[10]⟩ : ByteArray)) fun x270 => Option.bind (strings_Builder_WriteString s213 x270) fun x271 => some (.nx x271.2.2)) (b' := fun k292 s298 => Option.bind (idx l.targets (k292 : Int)) fun x311 => Option.bind (idx portref2_targetWords x311.kind) fun x331 => Option.bind (portref2_line ([(AnyV.str x331), (AnyV.int x311.minutes), (AnyV.int x311.calendar)] : List AnyV)) fun x342 => Option.bind (catS s298 x342) fun x346 => some (.nx x346)) l.targets.length (fun _ => False) (fun j s s' => s = s' ∧ s.size ≤ 10000 + 20000 * k + 100 * j) (s := s4) (s' := s4) ⟨rfl, by omega⟩ (by
      rintro j s _ hj ⟨rfl, hs⟩
      right
      have hT := hL.target _ (List.getElem_mem hj)
      simp only [idx_lt _ _ hj, Option.bind_some]
      generalize l.targets[j] = t at hT
      obtain ⟨w, hw, hws, hw2⟩ := target_at t.kind hT.1.1 hT.1.2
      obtain ⟨tw, htw, hw3⟩ := Option.bind_eq_some_iff.1 hw2
      have hM : I64 t.minutes := ⟨by omega, by omega⟩
      have hC : I64 t.calendar := ⟨by omega, by omega⟩
      have z1 := itoaB_size hM
      have z2 := itoaB_size hC
      have y1 : (w ++ sp_).size = w.size + 1 := by rw [ByteArray.size_append, sp_size]
      have y2 : (w ++ sp_ ++ itoaB t.minutes).size = w.size + 1 + (itoaB t.minutes).size := by rw [ByteArray.size_append, y1]
      have y3 : (w ++ sp_ ++ itoaB t.minutes ++ sp_).size = w.size + 2 + (itoaB t.minutes).size := by rw [ByteArray.size_append, y2, sp_size]; omega
      have y4 : (w ++ sp_ ++ itoaB t.minutes ++ sp_ ++ itoaB t.calendar).size = w.size + 2 + (itoaB t.minutes).size + (itoaB t.calendar).size := by rw [ByteArray.size_append, y3]
      have y5 : (w ++ sp_ ++ itoaB t.minutes ++ sp_ ++ itoaB t.calendar ++ nl_).size = w.size + 3 + (itoaB t.minutes).size + (itoaB t.calendar).size := by rw [ByteArray.size_append, y4, nl_size]; omega
      rw [htw, Option.bind_some, hw3, Option.bind_some, cat_ok w sp_ (by rw [sp_size]; omega), Option.bind_some, itoa_some hM, Option.bind_some, cat_ok _ _ (by rw [y1]; omega), Option.bind_some, cat_ok _ sp_ (by rw [y2, sp_size]; omega), Option.bind_some, itoa_some hC, Option.bind_some, cat_ok _ _ (by rw [y3]; omega), Option.bind_some, cat_ok _ nl_ (by rw [y4, nl_size]; omega), Option.bind_some, write_ok _ _ (by rw [y5]; omega), hw, Option.bind_some, Option.bind_some, line_some 21 _ (by omega) (by omega) (by
        intro x hx
        simp only [List.mem_cons, List.not_mem_nil, or_false] at hx
        rcases hx with rfl | rfl | rfl
        · show _ ≤ 21; omega
        · exact hM
        · exact hC) (by simp)]
      simp only [List.map_cons, List.map_nil, AnyT, Option.bind_some]
      rw [join3, cat_ok _ _ (by rw [y5]; omega)]
      exact ⟨_, _, rfl, rfl, rfl, by rw [ByteArray.size_append, y5]; omega⟩) with ⟨_, _, _, h⟩ | ⟨s5, _, g1, g2, rfl, hs5⟩
    · exact h.elim
    rw [g1, g2]
    exact ⟨_, _, rfl, rfl, rfl, by omega⟩) with ⟨r, e3, e4, _⟩ | ⟨s6, _, e3, e4, rfl, _⟩
  · rw [e3, e4]
    exact ⟨r, rfl, rfl⟩
  · rw [e3, e4]
    exact ⟨_, rfl, rfl⟩
theorem checks_true (p : level_Policy) (hn : ∀ l ∈ p.levels, l.name.size ≤ 9223372036854775807 ∧ l.targets.length ≤ 9223372036854775807) (hp : p.pauses.length ≤ 9223372036854775807) : portlaw2_LevelChecks p = some true := by
  obtain ⟨r, h1, h2⟩ := text_eq p hn hp
  obtain ⟨e, h3, h4, _⟩ := policy_eq p hn hp
  unfold portlaw2_LevelChecks
  rw [h1, h2, h3, h4]
  simp [strEq_self]
end Go.Proofs.YtpkkbbcflmbjeaaDoor.M
