/-
  TemplateFills: the plain part.
-/
import Derived.Test.YtfdhiclmjfkflaaDoorTemplateFillsTplPairs
import Derived.Test.YtfdhiclmjfkflaaDoorTemplateFillsJoinBase
namespace Go.Proofs.YtfdhiclmjfkflaaDoor.M
open Go Go.Pu
set_option linter.unusedSimpArgs false
set_option linter.unusedVariables false

theorem rd_len (st bd : UInt8 → Bool) (ok b : List UInt8) (i : Nat) : (rd st bd ok b i).1.length ≤ b.length - i := by
  induction i using rd.induct st bd ok b with
  | case1 i h h1 => rw [rd_stop (List.getElem?_eq_getElem h) h1]; exact Nat.zero_le _
  | case2 i h h1 h2 h3 ih =>
    have hc : b[i]? = some 92 := by rw [List.getElem?_eq_getElem h, h2]
    have hst : st 92 = false := by rw [← h2]; simpa using h1
    rw [rd_escK hc hst h3, esc_right h3]
    have : (esc b ok i).1.length ≤ 1 := by
      unfold esc
      split
      · split
        · exact Nat.le_refl _
        · exact Nat.zero_le _
      · exact Nat.zero_le _
    show ((esc b ok i).1 ++ _).length ≤ _
    rw [List.length_append]
    omega
  | case3 i h h1 h2 h3 =>
    have hc : b[i]? = some 92 := by rw [List.getElem?_eq_getElem h, h2]
    have hst : st 92 = false := by rw [← h2]; simpa using h1
    rw [rd_escB hc hst (by simpa using h3)]
    exact Nat.zero_le _
  | case4 i h h1 h2 h3 => rw [rd_bad (List.getElem?_eq_getElem h) (by simpa using h1) h2 h3]; exact Nat.zero_le _
  | case5 i h h1 h2 h3 ih =>
    rw [rd_byte (List.getElem?_eq_getElem h) (by simpa using h1) h2 (by simpa using h3)]
    show ([b[i]] ++ _).length ≤ _
    rw [List.length_append, List.length_cons, List.length_nil]
    omega
  | case6 i h => rw [rd_fin (List.getElem?_eq_none (by omega))]; exact Nat.zero_le _
theorem rdC_size (ends : List UInt8) (s : ByteArray) (i : Nat) : (toB (rdC ends s.data.toList i).1).size ≤ s.size := by
  have := rd_len (fun c => ends.contains c) bdC [125, 58, 124, 123, 92] s.data.toList i
  rw [toB_size]
  rw [t_len] at this
  show (rd _ _ _ _ _).1.length ≤ _
  omega
theorem fld_size (s : ByteArray) (i : Nat) : (fld s i).1.one.size ≤ s.size ∧ (fld s i).1.two.size ≤ s.size := by
  have e : (ByteArray.empty : ByteArray).size ≤ s.size := by show 0 ≤ _; omega
  unfold fld
  split
  · split
    · exact ⟨e, e⟩
    · split
      · exact ⟨e, e⟩
      · split
        · split
          · rw [fdF_fst]; exact ⟨rdC_size _ _ _, e⟩
          · exact ⟨e, e⟩
        · split
          · split
            · split
              · rw [fdF_fst]; exact ⟨rdC_size _ _ _, rdC_size _ _ _⟩
              · exact ⟨e, e⟩
            · exact ⟨e, e⟩
          · rw [fdF_fst]; exact ⟨e, e⟩
  · exact ⟨e, e⟩
theorem prs_size (s : ByteArray) (i : Nat) : (∀ p ∈ (prs s i).1, p.1.length ≤ s.size ∧ p.2.one.size ≤ s.size ∧ p.2.two.size ≤ s.size) ∧ (prs s i).2.1.length ≤ s.size := by
  have ht : ∀ i, (rdT s.data.toList i).1.length ≤ s.size := fun i => by
    have := rd_len stT (fun _ => false) [123, 92] s.data.toList i
    rw [t_len] at this
    show (rd _ _ _ _ _).1.length ≤ _
    omega
  induction i using prs.induct s with
  | case1 i h1 h2 => rw [prs, if_pos h1, if_pos h2]; exact ⟨fun p hp => (by cases hp), ht i⟩
  | case2 i h1 h2 h3 h4 ih =>
    rw [prs, if_pos h1, if_neg h2, if_pos h3, dif_pos h4]
    refine ⟨fun p hp => ?_, ih.2⟩
    rcases List.mem_cons.1 hp with rfl | hp
    · exact ⟨ht i, fld_size s _⟩
    · exact ih.1 p hp
  | case3 i h1 h2 h3 h4 => rw [prs, if_pos h1, if_neg h2, if_pos h3, dif_neg h4]; exact ⟨fun p hp => (by cases hp), Nat.zero_le _⟩
  | case4 i h1 h2 h3 => rw [prs, if_pos h1, if_neg h2, if_neg h3]; exact ⟨fun p hp => (by cases hp), Nat.zero_le _⟩
  | case5 i h1 => rw [prs, if_neg h1]; exact ⟨fun p hp => (by cases hp), Nat.zero_le _⟩
/-- what stands for a field -/
def pw (m : List (ByteArray × ByteArray)) (f : know_field) : Option ByteArray :=
  if f.kind = 124 then some (if strEq ((mapGet m f.name).getD ByteArray.empty) (⟨#[]⟩ : ByteArray) = true then f.one else (mapGet m f.name).getD ByteArray.empty)
  else if f.kind = 63 then some (if strEq ((mapGet m f.name).getD ByteArray.empty) (⟨#[]⟩ : ByteArray) = true then f.two else f.one)
  else if (mapGet m f.name).isSome = true then some ((mapGet m f.name).getD ByteArray.empty) else none
def outs (m : List (ByteArray × ByteArray)) : List (List UInt8 × know_field) → Option (List ByteArray)
  | [] => some []
  | p :: L => match pw m p.2 with
    | none => none
    | some x => (outs m L).map fun r => toB p.1 :: x :: r
def cat (xs : List ByteArray) : ByteArray := toB (xs.map (·.data.toList)).flatten
theorem cat_cons (x : ByteArray) (xs : List ByteArray) : cat (x :: xs) = x ++ cat xs := by
  unfold cat
  rw [List.map_cons, List.flatten_cons, ← toB_app, toB_of]
theorem cat_nil (b : ByteArray) : b ++ cat [] = b := by
  unfold cat
  conv => lhs; lhs; rw [← toB_of b]
  rw [toB_app]
  simp only [List.map_nil, List.flatten_nil, List.append_nil]
  exact toB_of b
theorem ba_assoc (a b c : ByteArray) : (a ++ b) ++ c = a ++ (b ++ c) := by
  apply ByteArray.ext
  simp only [ByteArray.data_append, Array.append_assoc]
theorem pw_size {m : List (ByteArray × ByteArray)} (hm : ∀ k v, mapGet m k = some v → v.size ≤ 20000) {f : know_field} (h1 : f.one.size ≤ 20000) (h2 : f.two.size ≤ 20000) {x : ByteArray} (h : pw m f = some x) : x.size ≤ 20000 := by
  have hv : ((mapGet m f.name).getD ByteArray.empty).size ≤ 20000 := by
    cases hg : mapGet m f.name with
    | none => show 0 ≤ _; omega
    | some v => exact hm _ _ hg
  unfold pw at h
  split at h
  · have := Option.some.inj h
    subst this
    split
    · exact h1
    · exact hv
  · split at h
    · have := Option.some.inj h
      subst this
      split
      · exact h2
      · exact h1
    · split at h
      · have := Option.some.inj h
        subst this
        exact hv
      · cases h
/-- the code's loop -/
theorem code_loop (m : List (ByteArray × ByteArray)) (hm : ∀ k v, mapGet m k = some v → v.size ≤ 20000) (t : List UInt8) (ht : t.length ≤ 20000) : ∀ (L : List (List UInt8 × know_field)) (k : Nat) (b : ByteArray), (∀ p ∈ L, good p.2) → (∀ p ∈ L, p.1.length ≤ 20000 ∧ p.2.one.size ≤ 20000 ∧ p.2.two.size ≤ 20000) → b.size + 40000 * L.length ≤ 100000000 →
    forL (R := ByteArray × Int) (fun (_ : Nat) (x530 : know_field) (s31 : ByteArray) => Option.bind (α := Lp _ _) (Option.bind (some x530) fun x53 => Option.bind (α := Lp _ _) (Option.bind (α := Lp _ _) (if (((strEq x53.name (⟨#[]⟩ : ByteArray)) || (((x53.kind.toNat : Int) == 124) && (strEq ((mapGet m x53.name).getD ByteArray.empty) (⟨#[]⟩ : ByteArray)))) || (((x53.kind.toNat : Int) == 63) && (!(strEq ((mapGet m x53.name).getD ByteArray.empty) (⟨#[]⟩ : ByteArray))))) = true then Option.bind (strings_Builder_WriteString s31 x53.one) fun x96 => some (.fin x96.2.2) else Option.bind (α := Lp _ _) (if ((x53.kind.toNat : Int) == 63) = true then Option.bind (strings_Builder_WriteString s31 x53.two) fun x113 => some (.fin x113.2.2) else if (!((mapGet m x53.name).isSome)) = true then some (.rt ((⟨#[]⟩ : ByteArray), 7)) else Option.bind (strings_Builder_WriteString s31 ((mapGet m x53.name).getD ByteArray.empty)) fun x120 => some (.fin x120.2.2)) fun o103 => o103.andThen (fun y => some (.rt y)) fun s104 => some (.fin s104)) fun o86 => o86.andThen (fun y => some (.rt y)) fun s87 => some (.fin s87)) fun o67 => o67.andThen (fun y => some (.rt y)) fun s68 => some (.fin s68)) fun o45 => o45.andThen (fun y => some (.rt y)) fun s46 => some (.nx s46)) (flt L ++ txt t) k b = some (match outs m L with | none => .rt ((⟨#[]⟩ : ByteArray), 7) | some xs => .fin (b ++ cat (xs ++ [toB t]))) := by
  have ht1 : ∀ (t : List UInt8) (ht : t.length ≤ 20000) (rest : List know_field) (k : Nat) (b : ByteArray), b.size ≤ 100000000 → forL (R := ByteArray × Int) (fun (_ : Nat) (x530 : know_field) (s31 : ByteArray) => Option.bind (α := Lp _ _) (Option.bind (some x530) fun x53 => Option.bind (α := Lp _ _) (Option.bind (α := Lp _ _) (if (((strEq x53.name (⟨#[]⟩ : ByteArray)) || (((x53.kind.toNat : Int) == 124) && (strEq ((mapGet m x53.name).getD ByteArray.empty) (⟨#[]⟩ : ByteArray)))) || (((x53.kind.toNat : Int) == 63) && (!(strEq ((mapGet m x53.name).getD ByteArray.empty) (⟨#[]⟩ : ByteArray))))) = true then Option.bind (strings_Builder_WriteString s31 x53.one) fun x96 => some (.fin x96.2.2) else Option.bind (α := Lp _ _) (if ((x53.kind.toNat : Int) == 63) = true then Option.bind (strings_Builder_WriteString s31 x53.two) fun x113 => some (.fin x113.2.2) else if (!((mapGet m x53.name).isSome)) = true then some (.rt ((⟨#[]⟩ : ByteArray), 7)) else Option.bind (strings_Builder_WriteString s31 ((mapGet m x53.name).getD ByteArray.empty)) fun x120 => some (.fin x120.2.2)) fun o103 => o103.andThen (fun y => some (.rt y)) fun s104 => some (.fin s104)) fun o86 => o86.andThen (fun y => some (.rt y)) fun s87 => some (.fin s87)) fun o67 => o67.andThen (fun y => some (.rt y)) fun s68 => some (.fin s68)) fun o45 => o45.andThen (fun y => some (.rt y)) fun s46 => some (.nx s46)) (txt t ++ rest) k b = forL (R := ByteArray × Int) (fun (_ : Nat) (x530 : know_field) (s31 : ByteArray) => Option.bind (α := Lp _ _) (Option.bind (some x530) fun x53 => Option.bind (α := Lp _ _) (Option.bind (α := Lp _ _) (if (((strEq x53.name (⟨#[]⟩ : ByteArray)) || (((x53.kind.toNat : Int) == 124) && (strEq ((mapGet m x53.name).getD ByteArray.empty) (⟨#[]⟩ : ByteArray)))) || (((x53.kind.toNat : Int) == 63) && (!(strEq ((mapGet m x53.name).getD ByteArray.empty) (⟨#[]⟩ : ByteArray))))) = true then Option.bind (strings_Builder_WriteString s31 x53.one) fun x96 => some (.fin x96.2.2) else Option.bind (α := Lp _ _) (if ((x53.kind.toNat : Int) == 63) = true then Option.bind (strings_Builder_WriteString s31 x53.two) fun x113 => some (.fin x113.2.2) else if (!((mapGet m x53.name).isSome)) = true then some (.rt ((⟨#[]⟩ : ByteArray), 7)) else Option.bind (strings_Builder_WriteString s31 ((mapGet m x53.name).getD ByteArray.empty)) fun x120 => some (.fin x120.2.2)) fun o103 => o103.andThen (fun y => some (.rt y)) fun s104 => some (.fin s104)) fun o86 => o86.andThen (fun y => some (.rt y)) fun s87 => some (.fin s87)) fun o67 => o67.andThen (fun y => some (.rt y)) fun s68 => some (.fin s68)) fun o45 => o45.andThen (fun y => some (.rt y)) fun s46 => some (.nx s46)) rest (k + (txt t).length) (b ++ toB t) := by
    intro t ht rest k b hb
    by_cases h0 : t = []
    · subst h0
      have : b ++ toB [] = b := cat_nil b
      rw [this]
      rfl
    · unfold txt
      rw [if_neg h0]
      show forL _ (_ :: rest) k b = _
      rw [forL]
      have e0 : strEq (ByteArray.empty : ByteArray) (⟨#[]⟩ : ByteArray) = true := by unfold strEq; exact beq_self_eq_true _
      simp only [e0, Bool.true_or, if_true, Option.bind_some, Lp.andThen_fin]
      rw [bad_write _ _ (by rw [toB_size]; omega)]
      simp only [Option.bind_some, Lp.andThen_fin]
      rfl
  intro L
  induction L with
  | nil =>
    intro k b _ _ hb
    have : flt [] ++ txt t = txt t ++ [] := by simp [flt]
    rw [this, ht1 t ht [] k b (by simp only [List.length_nil] at hb; omega), forL]
    simp only [outs, List.nil_append]
    rw [cat_cons, cat_nil]
  | cons p L ih =>
    intro k b hg hs hb
    obtain ⟨pt, f⟩ := p
    obtain ⟨s1, s2, s3⟩ := hs (pt, f) List.mem_cons_self
    obtain ⟨g1, g2⟩ := hg (pt, f) List.mem_cons_self
    simp only at s1 s2 s3 g1 g2
    have : flt ((pt, f) :: L) ++ txt t = txt pt ++ (f :: (flt L ++ txt t)) := by simp [flt]
    rw [List.length_cons] at hb
    rw [this, ht1 pt s1 _ k b (by omega), forL]
    have e0 : strEq f.name (⟨#[]⟩ : ByteArray) = false := by
      have := nmOf_good ⟨g1, g2⟩
      unfold nmOf at this
      split at this
      · rename_i h; simpa using h
      · cases this
    have hbs : (b ++ toB pt).size ≤ b.size + 20000 := by rw [ByteArray.size_append, toB_size]; omega
    simp only [e0, Bool.false_or, Option.bind_some]
    have fin : ∀ x : ByteArray, pw m f = some x → (match (Option.bind (strings_Builder_WriteString (b ++ toB pt) x) fun x96 => (some (.nx x96.2.2) : Option (Ctl ByteArray (ByteArray × Int)))) with
        | none => none
        | some (.nx s') => forL (R := ByteArray × Int) (fun (_ : Nat) (x530 : know_field) (s31 : ByteArray) => Option.bind (α := Lp _ _) (Option.bind (some x530) fun x53 => Option.bind (α := Lp _ _) (Option.bind (α := Lp _ _) (if (((strEq x53.name (⟨#[]⟩ : ByteArray)) || (((x53.kind.toNat : Int) == 124) && (strEq ((mapGet m x53.name).getD ByteArray.empty) (⟨#[]⟩ : ByteArray)))) || (((x53.kind.toNat : Int) == 63) && (!(strEq ((mapGet m x53.name).getD ByteArray.empty) (⟨#[]⟩ : ByteArray))))) = true then Option.bind (strings_Builder_WriteString s31 x53.one) fun x96 => some (.fin x96.2.2) else Option.bind (α := Lp _ _) (if ((x53.kind.toNat : Int) == 63) = true then Option.bind (strings_Builder_WriteString s31 x53.two) fun x113 => some (.fin x113.2.2) else if (!((mapGet m x53.name).isSome)) = true then some (.rt ((⟨#[]⟩ : ByteArray), 7)) else Option.bind (strings_Builder_WriteString s31 ((mapGet m x53.name).getD ByteArray.empty)) fun x120 => some (.fin x120.2.2)) fun o103 => o103.andThen (fun y => some (.rt y)) fun s104 => some (.fin s104)) fun o86 => o86.andThen (fun y => some (.rt y)) fun s87 => some (.fin s87)) fun o67 => o67.andThen (fun y => some (.rt y)) fun s68 => some (.fin s68)) fun o45 => o45.andThen (fun y => some (.rt y)) fun s46 => some (.nx s46)) (flt L ++ txt t) (k + (txt pt).length + 1) s'
        | some (.bk s') => some (.fin s')
        | some (.rt r) => some (.rt r)) = some (match outs m ((pt, f) :: L) with | none => .rt ((⟨#[]⟩ : ByteArray), 7) | some xs => .fin (b ++ cat (xs ++ [toB t]))) := by
      intro x hx
      have hxs := pw_size hm s2 s3 hx
      rw [bad_write _ _ (by omega), Option.bind_some]
      simp only
      rw [ih _ _ (fun q hq => hg q (List.mem_cons_of_mem _ hq)) (fun q hq => hs q (List.mem_cons_of_mem _ hq)) (by rw [ByteArray.size_append]; omega)]
      rw [outs]
      simp only [hx]
      cases outs m L with
      | none => rfl
      | some xs =>
        simp only [Option.map_some, List.cons_append]
        rw [cat_cons, cat_cons, ba_assoc, ba_assoc]
    rw [show ((f.kind.toNat : Int) == 124) = (f.kind == 124) from u8_eq f.kind 124 (by omega), show ((f.kind.toNat : Int) == 63) = (f.kind == 63) from u8_eq f.kind 63 (by omega)]
    rcases g2 with hk | hk | hk
    · have k1 : (f.kind == 124) = false := by rw [hk]; rfl
      have k2 : (f.kind == 63) = false := by rw [hk]; rfl
      simp only [k1, k2, Bool.false_and, Bool.or_false, Bool.false_eq_true, if_false]
      have hp : pw m f = if (mapGet m f.name).isSome = true then some ((mapGet m f.name).getD ByteArray.empty) else none := by
        unfold pw
        rw [if_neg (by rw [hk]; decide), if_neg (by rw [hk]; decide)]
      by_cases hsm : (mapGet m f.name).isSome = true
      · rw [if_pos hsm] at hp
        rw [if_neg (by rw [hsm]; decide)]
        have := fin _ hp
        rw [bad_write _ _ (by have := pw_size hm s2 s3 hp; omega)] at this ⊢
        simpa only [Option.bind_some, Lp.andThen_fin] using this
      · rw [if_neg hsm] at hp
        rw [if_pos (by simpa using hsm)]
        simp only [Option.bind_some, Lp.andThen_rt]
        rw [outs]
        simp only [hp]
    · have k1 : (f.kind == 124) = true := by rw [hk]; rfl
      have k2 : (f.kind == 63) = false := by rw [hk]; rfl
      simp only [k1, k2, Bool.true_and, Bool.false_and, Bool.or_false, Bool.false_eq_true, if_false]
      have hp : pw m f = some (if strEq ((mapGet m f.name).getD ByteArray.empty) (⟨#[]⟩ : ByteArray) = true then f.one else (mapGet m f.name).getD ByteArray.empty) := by
        unfold pw
        rw [if_pos hk]
      by_cases hv : strEq ((mapGet m f.name).getD ByteArray.empty) (⟨#[]⟩ : ByteArray) = true
      · rw [if_pos hv] at hp ⊢
        have := fin _ hp
        rw [bad_write _ _ (by have := pw_size hm s2 s3 hp; omega)] at this ⊢
        simpa only [Option.bind_some, Lp.andThen_fin] using this
      · rw [if_neg hv] at hp ⊢
        have hsm : (mapGet m f.name).isSome = true := by
          cases hg : mapGet m f.name with
          | none => rw [hg] at hv; exact absurd (by unfold strEq; exact beq_self_eq_true _) hv
          | some v => rfl
        rw [if_neg (by rw [hsm]; decide)]
        have := fin _ hp
        rw [bad_write _ _ (by have := pw_size hm s2 s3 hp; omega)] at this ⊢
        simpa only [Option.bind_some, Lp.andThen_fin] using this
    · have k1 : (f.kind == 124) = false := by rw [hk]; rfl
      have k2 : (f.kind == 63) = true := by rw [hk]; rfl
      simp only [k1, k2, Bool.true_and, Bool.false_and, Bool.false_or, if_true]
      have hp : pw m f = some (if strEq ((mapGet m f.name).getD ByteArray.empty) (⟨#[]⟩ : ByteArray) = true then f.two else f.one) := by
        unfold pw
        rw [if_neg (by rw [hk]; decide), if_pos hk]
      by_cases hv : strEq ((mapGet m f.name).getD ByteArray.empty) (⟨#[]⟩ : ByteArray) = true
      · rw [if_pos hv] at hp
        rw [if_neg (by rw [hv]; decide)]
        have := fin _ hp
        rw [bad_write _ _ (by have := pw_size hm s2 s3 hp; omega)] at this ⊢
        simpa only [Option.bind_some, Lp.andThen_fin] using this
      · rw [if_neg hv] at hp
        rw [if_pos (by simpa using hv)]
        have := fin _ hp
        rw [bad_write _ _ (by have := pw_size hm s2 s3 hp; omega)] at this ⊢
        simpa only [Option.bind_some, Lp.andThen_fin] using this
/-- the document's loop -/
theorem ref_loop (m : List (ByteArray × ByteArray)) (t : List UInt8) : ∀ (L : List (List UInt8 × know_field)) (k : Nat) (o : List ByteArray), (∀ p ∈ L, good p.2) → o.length + 2 * L.length ≤ 100000000 →
    forL (R := ByteArray × Int) (fun (_ : Nat) (x1050 : portref2_piece) (s80 : List ByteArray) => Option.bind (α := Lp _ _) (Option.bind (some x1050) fun x105 => Option.bind (α := Lp _ _) (Option.bind (α := Lp _ _) (if ((x105.kind.toNat : Int) == 0) = true then Option.bind (appendL 8796093022208 s80 ([x105.text] : List ByteArray)) fun x147 => some (.fin x147) else Option.bind (α := Lp _ _) (if (((x105.kind.toNat : Int) == 102) && (!((mapGet m x105.name).isSome))) = true then some (.rt ((⟨#[]⟩ : ByteArray), 7)) else Option.bind (if ((x105.kind.toNat : Int) == 102) = true then some ((x105.kind.toNat : Int) == 102) else some (((x105.kind.toNat : Int) == 124) && (!(strEq ((mapGet m x105.name).getD ByteArray.empty) (⟨#[]⟩ : ByteArray))))) fun m0 => Option.bind (if m0 = true then Option.bind (appendL 8796093022208 s80 ([((mapGet m x105.name).getD ByteArray.empty)] : List ByteArray)) fun x197 => some x197 else Option.bind (if ((x105.kind.toNat : Int) == 124) = true then some ((x105.kind.toNat : Int) == 124) else some (!(strEq ((mapGet m x105.name).getD ByteArray.empty) (⟨#[]⟩ : ByteArray)))) fun s206 => Option.bind (if s206 = true then Option.bind (appendL 8796093022208 s80 ([x105.one] : List ByteArray)) fun x231 => some x231 else Option.bind (appendL 8796093022208 s80 ([x105.both] : List ByteArray)) fun x244 => some x244) fun s215 => some s215) fun s182 => some (.fin s182)) fun o157 => o157.andThen (fun y => some (.rt y)) fun s158 => some (.fin s158)) fun o130 => o130.andThen (fun y => some (.rt y)) fun s131 => some (.fin s131)) fun o119 => o119.andThen (fun y => some (.rt y)) fun s120 => some (.fin s120)) fun o95 => o95.andThen (fun y => some (.rt y)) fun s96 => some (.nx s96)) (rfl2 L ++ [pcT t]) k o = some (match outs m L with | none => .rt ((⟨#[]⟩ : ByteArray), 7) | some xs => .fin (o ++ (xs ++ [toB t]))) := by
  intro L
  induction L with
  | nil =>
    intro k o _ hb
    show forL _ [pcT t] k o = _
    rw [forL]
    rw [Option.bind_some, if_pos (by rfl), appendL, if_pos (by simp only [List.length_cons, List.length_nil] at *; omega)]
    rfl
  | cons p L ih =>
    intro k o hg hb
    obtain ⟨pt, f⟩ := p
    obtain ⟨g1, g2⟩ := hg (pt, f) List.mem_cons_self
    simp only at g1 g2
    rw [List.length_cons] at hb
    have : rfl2 ((pt, f) :: L) ++ [pcT t] = pcT pt :: pcF f :: (rfl2 L ++ [pcT t]) := by simp [rfl2]
    rw [this, forL]
    simp only [Option.bind_some]
    rw [if_pos (by rfl), appendL, if_pos (by simp only [List.length_cons, List.length_nil] at *; omega)]
    simp only [Option.bind_some, Lp.andThen_fin]
    rw [forL]
    have hn : (pcF f).name = f.name := rfl
    have ho : (pcF f).one = f.one := rfl
    have hbo : (pcF f).both = f.two := rfl
    rw [hn, ho, hbo]
    have ap : ∀ x : ByteArray, appendL 8796093022208 (o ++ [(pcT pt).text]) [x] = some (o ++ [toB pt] ++ [x]) := by
      intro x
      rw [appendL, if_pos (by simp only [List.length_append, List.length_cons, List.length_nil]; omega)]
      rfl
    have fin : ∀ x : ByteArray, pw m f = some x → forL (R := ByteArray × Int) (fun (_ : Nat) (x1050 : portref2_piece) (s80 : List ByteArray) => Option.bind (α := Lp _ _) (Option.bind (some x1050) fun x105 => Option.bind (α := Lp _ _) (Option.bind (α := Lp _ _) (if ((x105.kind.toNat : Int) == 0) = true then Option.bind (appendL 8796093022208 s80 ([x105.text] : List ByteArray)) fun x147 => some (.fin x147) else Option.bind (α := Lp _ _) (if (((x105.kind.toNat : Int) == 102) && (!((mapGet m x105.name).isSome))) = true then some (.rt ((⟨#[]⟩ : ByteArray), 7)) else Option.bind (if ((x105.kind.toNat : Int) == 102) = true then some ((x105.kind.toNat : Int) == 102) else some (((x105.kind.toNat : Int) == 124) && (!(strEq ((mapGet m x105.name).getD ByteArray.empty) (⟨#[]⟩ : ByteArray))))) fun m0 => Option.bind (if m0 = true then Option.bind (appendL 8796093022208 s80 ([((mapGet m x105.name).getD ByteArray.empty)] : List ByteArray)) fun x197 => some x197 else Option.bind (if ((x105.kind.toNat : Int) == 124) = true then some ((x105.kind.toNat : Int) == 124) else some (!(strEq ((mapGet m x105.name).getD ByteArray.empty) (⟨#[]⟩ : ByteArray)))) fun s206 => Option.bind (if s206 = true then Option.bind (appendL 8796093022208 s80 ([x105.one] : List ByteArray)) fun x231 => some x231 else Option.bind (appendL 8796093022208 s80 ([x105.both] : List ByteArray)) fun x244 => some x244) fun s215 => some s215) fun s182 => some (.fin s182)) fun o157 => o157.andThen (fun y => some (.rt y)) fun s158 => some (.fin s158)) fun o130 => o130.andThen (fun y => some (.rt y)) fun s131 => some (.fin s131)) fun o119 => o119.andThen (fun y => some (.rt y)) fun s120 => some (.fin s120)) fun o95 => o95.andThen (fun y => some (.rt y)) fun s96 => some (.nx s96)) (rfl2 L ++ [pcT t]) (k + 1 + 1) (o ++ [toB pt] ++ [x]) = some (match outs m ((pt, f) :: L) with | none => .rt ((⟨#[]⟩ : ByteArray), 7) | some xs => .fin (o ++ (xs ++ [toB t]))) := by
      intro x hx
      rw [ih _ _ (fun q hq => hg q (List.mem_cons_of_mem _ hq)) (by simp only [List.length_append, List.length_cons, List.length_nil]; omega)]
      rw [outs]
      simp only [hx]
      cases outs m L with
      | none => rfl
      | some xs => simp
    rcases g2 with hk | hk | hk
    · have e : (pcF f).kind = 102 := by unfold pcF; rw [if_pos hk]
      rw [e]
      rw [show (((102 : UInt8).toNat : Int) == 0) = false from rfl, show (((102 : UInt8).toNat : Int) == 102) = true from rfl]
      simp only [Bool.false_eq_true, if_false, Bool.true_and, if_true, Option.bind_some]
      have hp : pw m f = if (mapGet m f.name).isSome = true then some ((mapGet m f.name).getD ByteArray.empty) else none := by
        unfold pw
        rw [if_neg (by rw [hk]; decide), if_neg (by rw [hk]; decide)]
      by_cases hsm : (mapGet m f.name).isSome = true
      · rw [if_pos hsm] at hp
        rw [if_neg (by rw [hsm]; decide), ap]
        simp only [Option.bind_some, Lp.andThen_fin]
        exact fin _ hp
      · rw [if_neg hsm] at hp
        rw [if_pos (by simpa using hsm)]
        simp only [Option.bind_some, Lp.andThen_rt]
        rw [outs]
        simp only [hp]
    · have e : (pcF f).kind = 124 := by unfold pcF; rw [if_neg (by rw [hk]; decide), hk]
      rw [e]
      rw [show (((124 : UInt8).toNat : Int) == 0) = false from rfl, show (((124 : UInt8).toNat : Int) == 102) = false from rfl, show (((124 : UInt8).toNat : Int) == 124) = true from rfl]
      simp only [Bool.false_eq_true, if_false, Bool.true_and, Bool.false_and, if_true, Option.bind_some]
      have hp : pw m f = some (if strEq ((mapGet m f.name).getD ByteArray.empty) (⟨#[]⟩ : ByteArray) = true then f.one else (mapGet m f.name).getD ByteArray.empty) := by
        unfold pw
        rw [if_pos hk]
      by_cases hv : strEq ((mapGet m f.name).getD ByteArray.empty) (⟨#[]⟩ : ByteArray) = true
      · rw [if_pos hv] at hp
        rw [if_neg (by rw [hv]; decide), ap]
        simp only [Option.bind_some, Lp.andThen_fin]
        exact fin _ hp
      · rw [if_neg hv] at hp
        rw [if_pos (by simpa using hv), ap]
        simp only [Option.bind_some, Lp.andThen_fin]
        exact fin _ hp
    · have e : (pcF f).kind = 63 := by unfold pcF; rw [if_neg (by rw [hk]; decide), hk]
      rw [e]
      rw [show (((63 : UInt8).toNat : Int) == 0) = false from rfl, show (((63 : UInt8).toNat : Int) == 102) = false from rfl, show (((63 : UInt8).toNat : Int) == 124) = false from rfl]
      simp only [Bool.false_eq_true, if_false, Bool.false_and, Option.bind_some]
      have hp : pw m f = some (if strEq ((mapGet m f.name).getD ByteArray.empty) (⟨#[]⟩ : ByteArray) = true then f.two else f.one) := by
        unfold pw
        rw [if_neg (by rw [hk]; decide), if_pos hk]
      by_cases hv : strEq ((mapGet m f.name).getD ByteArray.empty) (⟨#[]⟩ : ByteArray) = true
      · rw [if_pos hv] at hp
        rw [if_neg (by rw [hv]; decide), ap]
        simp only [Option.bind_some, Lp.andThen_fin]
        exact fin _ hp
      · rw [if_neg hv] at hp
        rw [if_pos (by simpa using hv), ap]
        simp only [Option.bind_some, Lp.andThen_fin]
        exact fin _ hp
theorem join_cat (xs : List ByteArray) : joinB xs (⟨#[]⟩ : ByteArray) = cat xs := by
  unfold joinB cat toB
  congr 2
  generalize xs.map (·.data.toList) = ys
  show Go.Lib.join ys [] = _
  cases ys with
  | nil => rfl
  | cons y ys =>
    rw [Go.Lib.join_cons, List.flatten_cons]
    congr 1
    unfold Go.Lib.joinTail
    congr 1
    exact List.map_id'' (fun _ => rfl) ys
theorem outs_size {m : List (ByteArray × ByteArray)} (hm : ∀ k v, mapGet m k = some v → v.size ≤ 20000) : ∀ (L : List (List UInt8 × know_field)) (xs : List ByteArray), (∀ p ∈ L, p.1.length ≤ 20000 ∧ p.2.one.size ≤ 20000 ∧ p.2.two.size ≤ 20000) → outs m L = some xs → (∀ x ∈ xs, x.size ≤ 20000) ∧ xs.length = 2 * L.length
  | [], xs, _, h => by cases h; exact ⟨fun x hx => (by cases hx), rfl⟩
  | p :: L, xs, hs, h => by
    rw [outs] at h
    cases hp : pw m p.2 with
    | none => simp only [hp] at h; cases h
    | some x =>
      simp only [hp] at h
      obtain ⟨r, hr, rfl⟩ := Option.map_eq_some_iff.1 h
      obtain ⟨h1, h2⟩ := outs_size hm L r (fun q hq => hs q (List.mem_cons_of_mem _ hq)) hr
      obtain ⟨s1, s2, s3⟩ := hs p List.mem_cons_self
      refine ⟨fun y hy => ?_, by simp only [List.length_cons]; omega⟩
      rcases List.mem_cons.1 hy with rfl | hy
      · rw [toB_size]; exact s1
      · rcases List.mem_cons.1 hy with rfl | hy
        · exact pw_size hm s2 s3 hp
        · exact h1 y hy
theorem fills_true (s : ByteArray) (values : List know_Pair) : portlaw2_TemplateFills s values = some true := by
  obtain ⟨⟨a, ai, ae⟩, ⟨b, bi, be⟩, h1, h2, h3, h4⟩ := template_val s
  simp only [Prod.mk.injEq] at h3 h4
  obtain ⟨rfl, rfl⟩ := h3
  suffices h : ∃ x, know_Fill s values = some x ∧ portref2_FillOf s values = some x by
    obtain ⟨x, k1, k2⟩ := h
    unfold portlaw2_TemplateFills
    rw [k1, k2, Option.bind_some, Option.bind_some, strEq_self]
    simp
  unfold know_Fill portref2_FillOf
  rw [h1, h2, Option.bind_some, Option.bind_some]
  simp only
  by_cases h0 : ae = 0
  rotate_left
  · rw [if_pos (by simpa using h0), if_pos (by simpa using h0)]
    exact ⟨_, rfl, rfl⟩
  rw [if_neg (by simpa using h0), if_neg (by simpa using h0), checkPairs_val]
  obtain ⟨L, t, rfl, rfl, hg, hL, hLt, hs⟩ := h4 h0
  by_cases h40 : (decide ((40 : Int) < (values.length : Int))) = true
  · rw [if_pos h40, if_pos h40, Option.bind_some, if_pos (by decide)]
    exact ⟨_, rfl, rfl⟩
  rw [if_neg h40, if_neg h40, Option.bind_some]
  rw [rangeB_forL (R := ByteArray × Int) values (fun (_ : Nat) (x38 : know_Pair) (s25 : List (ByteArray × ByteArray)) => Option.bind (portref2_IsName x38.name) fun x52 => if (!x52) = true then some (.rt ((⟨#[]⟩ : ByteArray), 3)) else if ((mapGet s25 x38.name).isSome) = true then some (.rt ((⟨#[]⟩ : ByteArray), 6)) else if (decide ((20000 : Int) < (x38.value.size : Int))) = true then some (.rt ((⟨#[]⟩ : ByteArray), 4)) else some (.nx (mapPut s25 x38.name x38.value))) _ (fun k s x hx => by rw [idx_nat, hx]; rfl), pairs_ref, Option.bind_some]
  cases hpp : prsP values [] with
  | error e =>
    simp only [Lp.andThen_rt]
    rw [if_pos (by simpa using pairs_error values [] e hpp)]
    exact ⟨_, rfl, rfl⟩
  | ok m =>
    have hm := pairs_small values [] m (fun k v hk => (by cases hk)) hpp
    simp only [Lp.andThen_fin]
    rw [if_neg (by simp)]
    have hsz := prs_size s 0
    rw [← hLt.1, ← hLt.2] at hsz
    have hs1 : ∀ p ∈ L, p.1.length ≤ 20000 ∧ p.2.one.size ≤ 20000 ∧ p.2.two.size ≤ 20000 := fun p hp => by have := hsz.1 p hp; omega
    have ht1 : t.length ≤ 20000 := by have := hsz.2; omega
    rw [rangeB_forL (R := ByteArray × Int) (flt L ++ txt t) (fun (_ : Nat) (x530 : know_field) (s31 : ByteArray) => Option.bind (α := Lp _ _) (Option.bind (some x530) fun x53 => Option.bind (α := Lp _ _) (Option.bind (α := Lp _ _) (if (((strEq x53.name (⟨#[]⟩ : ByteArray)) || (((x53.kind.toNat : Int) == 124) && (strEq ((mapGet m x53.name).getD ByteArray.empty) (⟨#[]⟩ : ByteArray)))) || (((x53.kind.toNat : Int) == 63) && (!(strEq ((mapGet m x53.name).getD ByteArray.empty) (⟨#[]⟩ : ByteArray))))) = true then Option.bind (strings_Builder_WriteString s31 x53.one) fun x96 => some (.fin x96.2.2) else Option.bind (α := Lp _ _) (if ((x53.kind.toNat : Int) == 63) = true then Option.bind (strings_Builder_WriteString s31 x53.two) fun x113 => some (.fin x113.2.2) else if (!((mapGet m x53.name).isSome)) = true then some (.rt ((⟨#[]⟩ : ByteArray), 7)) else Option.bind (strings_Builder_WriteString s31 ((mapGet m x53.name).getD ByteArray.empty)) fun x120 => some (.fin x120.2.2)) fun o103 => o103.andThen (fun y => some (.rt y)) fun s104 => some (.fin s104)) fun o86 => o86.andThen (fun y => some (.rt y)) fun s87 => some (.fin s87)) fun o67 => o67.andThen (fun y => some (.rt y)) fun s68 => some (.fin s68)) fun o45 => o45.andThen (fun y => some (.rt y)) fun s46 => some (.nx s46)) _ (fun k s x hx => by rw [idx_nat, hx]), code_loop m hm t ht1 L 0 ByteArray.empty hg hs1 (by show 0 + _ ≤ _; omega), Option.bind_some]
    rw [rangeB_forL (R := ByteArray × Int) (rfl2 L ++ [pcT t]) (fun (_ : Nat) (x1050 : portref2_piece) (s80 : List ByteArray) => Option.bind (α := Lp _ _) (Option.bind (some x1050) fun x105 => Option.bind (α := Lp _ _) (Option.bind (α := Lp _ _) (if ((x105.kind.toNat : Int) == 0) = true then Option.bind (appendL 8796093022208 s80 ([x105.text] : List ByteArray)) fun x147 => some (.fin x147) else Option.bind (α := Lp _ _) (if (((x105.kind.toNat : Int) == 102) && (!((mapGet m x105.name).isSome))) = true then some (.rt ((⟨#[]⟩ : ByteArray), 7)) else Option.bind (if ((x105.kind.toNat : Int) == 102) = true then some ((x105.kind.toNat : Int) == 102) else some (((x105.kind.toNat : Int) == 124) && (!(strEq ((mapGet m x105.name).getD ByteArray.empty) (⟨#[]⟩ : ByteArray))))) fun m0 => Option.bind (if m0 = true then Option.bind (appendL 8796093022208 s80 ([((mapGet m x105.name).getD ByteArray.empty)] : List ByteArray)) fun x197 => some x197 else Option.bind (if ((x105.kind.toNat : Int) == 124) = true then some ((x105.kind.toNat : Int) == 124) else some (!(strEq ((mapGet m x105.name).getD ByteArray.empty) (⟨#[]⟩ : ByteArray)))) fun s206 => Option.bind (if s206 = true then Option.bind (appendL 8796093022208 s80 ([x105.one] : List ByteArray)) fun x231 => some x231 else Option.bind (appendL 8796093022208 s80 ([x105.both] : List ByteArray)) fun x244 => some x244) fun s215 => some s215) fun s182 => some (.fin s182)) fun o157 => o157.andThen (fun y => some (.rt y)) fun s158 => some (.fin s158)) fun o130 => o130.andThen (fun y => some (.rt y)) fun s131 => some (.fin s131)) fun o119 => o119.andThen (fun y => some (.rt y)) fun s120 => some (.fin s120)) fun o95 => o95.andThen (fun y => some (.rt y)) fun s96 => some (.nx s96)) _ (fun k s x hx => by rw [idx_nat, hx]), ref_loop m t L 0 [] hg (by simp only [List.length_nil]; omega), Option.bind_some]
    cases ho : outs m L with
    | none => exact ⟨_, rfl, rfl⟩
    | some xs =>
      obtain ⟨o1, o2⟩ := outs_size hm L xs hs1 ho
      simp only [Lp.andThen_fin, List.nil_append]
      have hx1 : ∀ x ∈ xs ++ [toB t], x.size ≤ 20000 := fun x hx => by
        rcases List.mem_append.1 hx with h | h
        · exact o1 x h
        · rw [List.mem_singleton.1 h, toB_size]; exact ht1
      rw [join_some 20000 0 (xs ++ [toB t]) (⟨#[]⟩ : ByteArray) hx1 (Nat.le_refl _) (by simp; omega) (by simp; omega), join_cat, Option.bind_some]
      have e0 : ByteArray.empty ++ cat (xs ++ [toB t]) = cat (xs ++ [toB t]) := by
        unfold cat
        show toB [] ++ _ = _
        rw [toB_app]; rfl
      rw [e0]
      unfold strings_Builder_Len strings_Builder_String
      simp only [Option.bind_some]
      by_cases hbig : (decide ((40000 : Int) < ((cat (xs ++ [toB t])).size : Int))) = true
      · rw [if_pos hbig]
        exact ⟨_, rfl, rfl⟩
      · rw [if_neg hbig]
        exact ⟨_, rfl, rfl⟩
end Go.Proofs.YtfdhiclmjfkflaaDoor.M
