/-
  TemplateChecks: the plain part.
-/
import Derived.Test.YtmieekpjdhhjfaaDoorTemplateChecksTplBoth
namespace Go.Proofs.YtmieekpjdhhjfaaDoor.M
open Go Go.Pu
set_option linter.unusedSimpArgs false
set_option linter.unusedVariables false

theorem equal_strs (l : List ByteArray) : slices_Equal_Lstring_string l l = some true := by
  unfold slices_Equal_Lstring_string
  rw [if_neg (by simp)]
  obtain ⟨t, ho, _⟩ := rangeB_inv (R := Bool) (b := fun k9 (_ : Unit) => Option.bind (idx l (k9 : Int)) fun x29 => Option.bind (idx l (k9 : Int)) fun x33 => if (!(strEq x29 x33)) = true then some (.rt false) else some (.nx ())) l.length (fun _ _ => True) (s := ()) trivial (by
    intro k _ hk _
    rw [idx_nat, List.getElem?_eq_getElem hk]
    simp only [Option.bind_some]
    rw [if_neg (by unfold strEq; simp)]
    exact ⟨_, rfl, trivial⟩)
  rw [ho, Option.bind_some, Lp.andThen_fin]
def nmP (p : portref2_piece) : Option ByteArray := if ((p.kind.toNat : Int) != 0) = true then some p.name else none
theorem nmP_all (L : List (List UInt8 × know_field)) (t : List UInt8) (h : ∀ p ∈ L, good p.2) : (rfl2 L ++ [pcT t]).filterMap nmP = L.map (·.2.name) := by
  have h0 : ∀ t, nmP (pcT t) = none := fun t => rfl
  rw [List.filterMap_append]
  have : [pcT t].filterMap nmP = [] := by simp [h0]
  rw [this, List.append_nil]
  induction L with
  | nil => rfl
  | cons p L ih =>
    have h1 : nmP (pcF p.2) = some p.2.name := by
      unfold nmP pcF
      rw [if_pos]
      simp only
      rcases (h p List.mem_cons_self).2 with hk | hk | hk <;> rw [hk] <;> rfl
    unfold rfl2 at ih ⊢
    rw [List.flatMap_cons, List.filterMap_append, ih fun q hq => h q (List.mem_cons_of_mem _ hq)]
    simp [h0, h1]
theorem loopP (l : List portref2_piece) (h : l.length ≤ 100000) : rangeB (R := List ByteArray × Int) (fun k11 s19 => Option.bind (Option.bind (idx l (k11 : Int)) fun x44 => Option.bind (if ((x44.kind.toNat : Int) != 0) = true then Option.bind (appendL 8796093022208 s19 ([x44.name] : List ByteArray)) fun x75 => some x75 else some s19) fun s59 => some s59) fun s35 => some (.nx s35)) l.length 0 ([] : (List ByteArray)) = some (.fin (l.filterMap nmP)) := by
  obtain ⟨t, ho, rfl⟩ := rangeB_inv (R := List ByteArray × Int) (b := fun k11 (s19 : List ByteArray) => Option.bind (Option.bind (idx l (k11 : Int)) fun x44 => Option.bind (if ((x44.kind.toNat : Int) != 0) = true then Option.bind (appendL 8796093022208 s19 ([x44.name] : List ByteArray)) fun x75 => some x75 else some s19) fun s59 => some s59) fun s35 => some (.nx s35)) l.length
    (fun k z => z = (l.take k).filterMap nmP) (s := []) (by simp) (by
      rintro k _ hk rfl
      have hc := List.getElem?_eq_getElem hk
      rw [idx_nat, hc]
      simp only [Option.bind_some]
      have hl : ((l.take k).filterMap nmP).length ≤ 100000 := Nat.le_trans (List.length_filterMap_le _ _) (by rw [List.length_take]; omega)
      rw [List.take_add_one, hc, List.filterMap_append]
      by_cases h1 : (((l[k]).kind.toNat : Int) != 0) = true
      · have : nmP l[k] = some (l[k]).name := by unfold nmP; rw [if_pos h1]
        rw [if_pos h1, appendL, if_pos (by simp only [List.length_cons, List.length_nil]; omega)]
        simp only [Option.bind_some]
        refine ⟨_, rfl, ?_⟩
        simp [this]
      · have : nmP l[k] = none := by unfold nmP; rw [if_neg h1]
        rw [if_neg h1]
        simp only [Option.bind_some]
        refine ⟨_, rfl, ?_⟩
        simp [this])
  rw [ho, List.take_length]
theorem checks_true (s : ByteArray) : portlaw2_TemplateChecks s = some true := by
  obtain ⟨⟨a, ai, ae⟩, ⟨b, bi, be⟩, h1, h2, h3, h4⟩ := template_val s
  simp only [Prod.mk.injEq] at h3 h4
  obtain ⟨rfl, rfl⟩ := h3
  unfold portlaw2_TemplateChecks know_CheckTemplate know_Fields portref2_FieldsOf
  rw [h1, h2]
  simp only [Option.bind_some, beq_self_eq_true, if_true]
  by_cases h0 : ae = 0
  rotate_left
  · rw [if_pos (by simpa using h0), if_pos (by simpa using h0)]
    simp only [Option.bind_some, beq_self_eq_true, if_true]
    rw [equal_strs]
    rfl
  · rw [if_neg (by simpa using h0), if_neg (by simpa using h0)]
    obtain ⟨L, t, rfl, rfl, hg, hL, _, _⟩ := h4 h0
    have hfl := flt_len L
    have htl : (txt t).length ≤ 1 := by unfold txt; split <;> simp
    rw [names_val _ (by rw [List.length_append]; omega), names_flt L t hg, Option.bind_some]
    rw [loopP _ (by rw [List.length_append, rfl2_len]; simp; omega), Option.bind_some, Lp.andThen_fin, nmP_all L t hg]
    generalize hM : L.map (·.2.name) = M
    have hlen : M.length ≤ 40 := by rw [← hM, List.length_map]; exact hL
    unfold sortStrsL
    rw [if_pos (by omega)]
    simp only [Option.bind_some]
    generalize hS : strsOf ((bytesOf M).mergeSort fun x y => decide (x ≤ y)) = S
    have hSl : S.length ≤ 9223372036854775807 := by
      rw [← hS]
      unfold strsOf bytesOf
      simp
      omega
    unfold compactStrsL
    rw [if_pos hSl]
    simp only [Option.bind_some, beq_self_eq_true, if_true]
    rw [equal_strs]
    rfl
end Go.Proofs.YtmieekpjdhhjfaaDoor.M
