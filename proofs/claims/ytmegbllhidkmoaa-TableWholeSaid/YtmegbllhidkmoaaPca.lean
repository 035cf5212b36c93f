/- Proved here: the row of tenancylaw09.TableWhole: for all arguments that can be read, TableWhole returns true and leaves its arguments as they were; no conditions. -/
import Derived.Test.YtmegbllhidkmoaaPc6
import Derived.Test.YtmegbllhidkmoaaPc7
/- Proved here: the row of tenancylaw09.TableWhole: for all arguments that can be read, TableWhole returns true and leaves its arguments as they were; no conditions. -/
namespace Go.Proofs.Ytmegbllhidkmoaa.Tb
open Go.RowKit Go.ChangeShapes Go.WideShapes Go.ChangeAt Go.Deep
set_option linter.unusedVariables false
namespace Whole
set_option maxRecDepth 100000 in
theorem lifted (os : Os) (started : os.Started) (H : Type) (enc : TypeId × Value → H) :
    ReturnsInHanded {} Try.checked os 5 .any (Rows.tableWholeSpec.pre6 enc Try.prog Try.f5 Rows.tableWholeRow.domain false) (Rows.tableWholeSpec.post enc Try.prog Try.f5 false true false false) := by
  refine returnsInHanded_of_change (C := Try.checked) row_own started (by kernel_rfl) Try.func5
    (ChangeSpec.witness6 (enc := enc) (C := Try.checked) false ⟨#[], #[.slice none 0 0, .slice none 0 0], []⟩ 8 (by kernel_rfl) (by kernel_rfl) (by kernel_rfl) (by kernel_rfl)) ?_
  intro W base args ds gs before hval0 hW hcnd _
  have hval : ∀ (j : Nat) t v, Try.f5.params[j]? = some t → args[j]? = some v → Value.okWide Try.prog W .any base t v := hval0
  have hW' := hW
  obtain ⟨p, q, hA0, hV, rfl, hfz, hnd⟩ := hW
  have hA : DataW.TrodAll enc Try.prog W 0 (fun _ => true) true Try.f5.params.toList args.toList ds p := hA0
  rw [Try.params5] at hA hval
  obtain ⟨v0, v1, d0, d1, p0, p1, rfl, rfl, rfl, h0, h1⟩ := trodAll_two hA
  obtain ⟨rfl, rfl⟩ := trodVars_none hV
  have h0k := h0
  have h1k := h1
  obtain ⟨fuel, hf⟩ := h0
  obtain ⟨fuel1, hf1⟩ := h1
  clear hA0 hval0
  simp only [List.append_nil] at hW'
  have hlt0 : ∀ x ∈ p0, x.block < W.heap.size := fun x hx => by simpa using hW'.lt x (List.mem_append_left _ hx)
  have hlt1 : ∀ x ∈ p1, x.block < W.heap.size := fun x hx => by simpa using hW'.lt x (List.mem_append_right _ hx)
  obtain ⟨a0, len, cap, rfl⟩ := okWide_slice Try.underlying22 (hval 0 22 v0 rfl rfl)
  obtain ⟨v, L, hv, hL⟩ := read_lists hf
  obtain rfl : Value.slice a0 len cap = v := by simpa [Value.cells] using hv
  obtain ⟨a1, len1, cap1, rfl⟩ := okWide_slice Try.underlying51 (hval 1 51 v1 rfl rfl)
  obtain ⟨u, M, hu, hM⟩ := read_changes hf1
  obtain rfl : Value.slice a1 len1 cap1 = u := by simpa [Value.cells] using hu
  have hnil : Value.slice a1 len1 cap1 = .slice none 0 0 ∨ ∃ ad n c, Value.slice a1 len1 cap1 = .slice (some ad) n c := by
    rcases DataW.trod_slice Try.underlying51 hf1 with ⟨h, _⟩ | ⟨a, l, c, _, _, _, _, h, _⟩
    · exact .inl (by simpa [Value.cells] using h)
    · exact .inr ⟨a, l, c, by simpa [Value.cells] using h⟩
  refine (whole_run W _ _ L M hL hM hnil).mono fun e W' ⟨he, hq⟩ => ?_
  subst he
  have hb := quiet_below hq
  exact ⟨_, rfl, ⟨_, _, _, [], _, [], hW', trodAll_mk1 (shut_bool Try.underlying4 _), trodAll_mk2 (Below.trod row_laid (by kernel_rfl) (of_decide_eq_true (by kernel_rfl)) h0k hb hlt0) (Below.trod row_laid (by kernel_rfl) (of_decide_eq_true (by kernel_rfl)) h1k hb hlt1), rfl, hb.frame _, fun h => by cases h⟩⟩
theorem said : Rows.TableWholeSaid :=
  OpenClaim.holds_of_wide 5 Try.f5 rfl rfl rfl rfl rfl rfl rfl ⟨rfl, rfl, rfl, rfl, rfl⟩ rfl rfl rfl rfl rfl (by kernel_rfl) Try.func5 (by kernel_rfl)
    (of_decide_eq_true (by kernel_rfl)) (by unfold Func.isWrapper; first | (rw [if_pos (by decide +kernel)]; kernel_rfl) | (rw [if_neg (by decide +kernel)]; exact ⟨rfl, rfl⟩))
    (fun os started H enc _ => lifted os started H enc)
end Whole
end Go.Proofs.Ytmegbllhidkmoaa.Tb
