-- BY wip/tools/gprint.py, over the kit's printer: machine-made text of this session
import Derived.Test.YtmegbllhidkmoaaDoorK0
import Derived.Test.YtmegbllhidkmoaaDoorK1
import Derived.Test.YtmegbllhidkmoaaDoorK2
import Derived.Test.YtmegbllhidkmoaaDoorK3
import Derived.Test.YtmegbllhidkmoaaDoorK5
import Derived.Test.YtmegbllhidkmoaaDoorK6
import Derived.Test.YtmegbllhidkmoaaDoorK7
namespace Go.Proofs.YtmegbllhidkmoaaDoor.Ty
open Go.RowKit Go.Proofs.YtmegbllhidkmoaaDoor.Tx Go.Proofs.YtmegbllhidkmoaaDoorW.PrintWords Go.Proofs.YtmegbllhidkmoaaDoorW.PrintLast Go.Proofs.YtmegbllhidkmoaaDoorW.PrintMore
attribute [local go_sem] max2_int min2_int max_two min_two max_three min_three max_four min_four   -- for this text's walks alone
attribute [local go_sem] fld28_0 fld28_1 fld33_0 fld33_1
set_option linter.unusedVariables false
set_option linter.unusedSimpArgs false

attribute [local go_sem high] eqA28 eqA33
/-! ### tenancylaw02_TextGets: function 3 -/
mutual
def tenancylaw02_TextGets.j0 : Nat → Int → ByteArray → Bool → Option (Bool)
  | 0, _, _, _ => none
  | k + 1, x0, x1, x23 => if x23 = true then ((tenancylaw02_awake.f).bind fun t192 => (some t192)) else ((text_Get4.f k x1).bind fun bt193 => ((tenancyref02_Get4.f k x1).bind fun bt195 => (if bt193.1 = bt195.1 then (tenancylaw02_TextGets.j1 k x0 x1 (bt193.2 != bt195.2)) else (tenancylaw02_TextGets.j1 k x0 x1 true))))
def tenancylaw02_TextGets.j1 : Nat → Int → ByteArray → Bool → Option (Bool)
  | 0, _, _, _ => none
  | k + 1, x0, x1, x42 => if x42 = true then (some false) else ((text_Get6.f k x1).bind fun bt197 => ((tenancyref02_Get6.f k x1).bind fun bt201 => (if (!(bt197.1 == bt201.1) || (!(bt197.2.1 == bt201.2.1))) = true then (tenancylaw02_TextGets.j2 k x0 x1 true) else (tenancylaw02_TextGets.j2 k x0 x1 (bt197.2.2 != bt201.2.2)))))
def tenancylaw02_TextGets.j2 : Nat → Int → ByteArray → Bool → Option (Bool)
  | 0, _, _, _ => none
  | k + 1, x0, x1, x60 => if x60 = true then (some false) else ((text_Get.f k x0 x1).bind fun bt205 => ((tenancyref02_Get.f k x0 x1).bind fun bt208 => (if (!(bt205.1 == bt208.1) || (!(bt205.2.1 == bt208.2.1))) = true then (tenancylaw02_TextGets.j3 k x0 x1 true) else (tenancylaw02_TextGets.j3 k x0 x1 (bt205.2.2 != bt208.2.2)))))
def tenancylaw02_TextGets.j3 : Nat → Int → ByteArray → Bool → Option (Bool)
  | 0, _, _, _ => none
  | k + 1, x0, x1, x80 => if x80 = true then (some false) else ((text_GetPrefix.f k x0 x1).bind fun bt211 => ((tenancyref02_GetPrefix.f k x0 x1).bind fun bt216 => (if ((!(bt211.1 == bt216.1) || (!(bt211.2.1 == bt216.2.1))) || (!(bt211.2.2.1 == bt216.2.2.1))) = true then (tenancylaw02_TextGets.j4 k x1 true) else (tenancylaw02_TextGets.j4 k x1 (bt211.2.2.2 != bt216.2.2.2)))))
def tenancylaw02_TextGets.j4 : Nat → ByteArray → Bool → Option (Bool)
  | 0, _, _ => none
  | k + 1, x1, x100 => if x100 = true then (some false) else ((text_Unhex.f x1).bind fun bt221 => ((tenancyref02_Unhex.f k x1).bind fun bt223 => (if bt221.1.toList = bt223.1.toList then (tenancylaw02_TextGets.j5 k x1 (bt221.2 != bt223.2)) else (tenancylaw02_TextGets.j5 k x1 true))))
def tenancylaw02_TextGets.j5 : Nat → ByteArray → Bool → Option (Bool)
  | 0, _, _ => none
  | k + 1, x1, x118 => if x118 = true then (some false) else ((text_GetNum.f x1).bind fun bt225 => ((tenancyref02_GetNum.f k x1).bind fun bt227 => (if bt225.1 = bt227.1 then (some (bt225.2 == bt227.2)) else (some false))))
end
def tenancylaw02_TextGets.f (k : Nat) (a0 : Int) (a1 : ByteArray) : Option (Bool) := (tenancylaw02_awake.f).bind fun t191 => (if t191 = true then (tenancylaw02_TextGets.j0 k a0 a1 (decide ((a1.size : Int) > 65536))) else (tenancylaw02_TextGets.j0 k a0 a1 true))
theorem tenancylaw02_TextGets.mono_l : ∀ k, (∀ y0 y1 y2, LeO (tenancylaw02_TextGets.j0 k y0 y1 y2) (tenancylaw02_TextGets.j0 (k + 1) y0 y1 y2)) ∧ (∀ y0 y1 y2, LeO (tenancylaw02_TextGets.j1 k y0 y1 y2) (tenancylaw02_TextGets.j1 (k + 1) y0 y1 y2)) ∧ (∀ y0 y1 y2, LeO (tenancylaw02_TextGets.j2 k y0 y1 y2) (tenancylaw02_TextGets.j2 (k + 1) y0 y1 y2)) ∧ (∀ y0 y1 y2, LeO (tenancylaw02_TextGets.j3 k y0 y1 y2) (tenancylaw02_TextGets.j3 (k + 1) y0 y1 y2)) ∧ (∀ y0 y1, LeO (tenancylaw02_TextGets.j4 k y0 y1) (tenancylaw02_TextGets.j4 (k + 1) y0 y1)) ∧ (∀ y0 y1, LeO (tenancylaw02_TextGets.j5 k y0 y1) (tenancylaw02_TextGets.j5 (k + 1) y0 y1))
  | 0 => ⟨fun _ _ _ r h => by simp [tenancylaw02_TextGets.j0] at h, fun _ _ _ r h => by simp [tenancylaw02_TextGets.j1] at h, fun _ _ _ r h => by simp [tenancylaw02_TextGets.j2] at h, fun _ _ _ r h => by simp [tenancylaw02_TextGets.j3] at h, fun _ _ r h => by simp [tenancylaw02_TextGets.j4] at h, fun _ _ r h => by simp [tenancylaw02_TextGets.j5] at h⟩
  | k + 1 => by
    obtain ⟨ih0, ih1, ih2, ih3, ih4, ih5⟩ := tenancylaw02_TextGets.mono_l k
    refine ⟨?_, ?_, ?_, ?_, ?_, ?_⟩
    · intro y0 y1 y2
      unfold tenancylaw02_TextGets.j0
      repeat' first
      | (with_reducible exact ih0 _ _ _)
      | (with_reducible exact ih1 _ _ _)
      | (with_reducible exact ih2 _ _ _)
      | (with_reducible exact ih3 _ _ _)
      | (with_reducible exact ih4 _ _)
      | (with_reducible exact ih5 _ _)
      | (with_reducible exact tenancyref02_Get.mono _ _ _)
      | (with_reducible exact tenancyref02_Get4.mono _ _)
      | (with_reducible exact tenancyref02_Get6.mono _ _)
      | (with_reducible exact tenancyref02_GetNum.mono _ _)
      | (with_reducible exact tenancyref02_GetPrefix.mono _ _ _)
      | (with_reducible exact tenancyref02_Unhex.mono _ _)
      | (with_reducible exact text_Get.mono _ _ _)
      | (with_reducible exact text_Get4.mono _ _)
      | (with_reducible exact text_Get6.mono _ _)
      | (with_reducible exact text_GetPrefix.mono _ _ _)
      | (with_reducible exact LeO.refl _)
      | (with_reducible exact LeO.none _)
      | (with_reducible refine LeO.ite ?_ ?_)
      | (with_reducible refine LeO.bind ?_ (fun _ => ?_))
      | exact ih0 _ _ _
      | exact ih1 _ _ _
      | exact ih2 _ _ _
      | exact ih3 _ _ _
      | exact ih4 _ _
      | exact ih5 _ _
      | exact tenancyref02_Get.mono _ _ _
      | exact tenancyref02_Get4.mono _ _
      | exact tenancyref02_Get6.mono _ _
      | exact tenancyref02_GetNum.mono _ _
      | exact tenancyref02_GetPrefix.mono _ _ _
      | exact tenancyref02_Unhex.mono _ _
      | exact text_Get.mono _ _ _
      | exact text_Get4.mono _ _
      | exact text_Get6.mono _ _
      | exact text_GetPrefix.mono _ _ _
      | exact LeO.none _
      | refine LeO.ite ?_ ?_
      | refine LeO.bind ?_ (fun _ => ?_)
    · intro y0 y1 y2
      unfold tenancylaw02_TextGets.j1
      repeat' first
      | (with_reducible exact ih0 _ _ _)
      | (with_reducible exact ih1 _ _ _)
      | (with_reducible exact ih2 _ _ _)
      | (with_reducible exact ih3 _ _ _)
      | (with_reducible exact ih4 _ _)
      | (with_reducible exact ih5 _ _)
      | (with_reducible exact tenancyref02_Get.mono _ _ _)
      | (with_reducible exact tenancyref02_Get4.mono _ _)
      | (with_reducible exact tenancyref02_Get6.mono _ _)
      | (with_reducible exact tenancyref02_GetNum.mono _ _)
      | (with_reducible exact tenancyref02_GetPrefix.mono _ _ _)
      | (with_reducible exact tenancyref02_Unhex.mono _ _)
      | (with_reducible exact text_Get.mono _ _ _)
      | (with_reducible exact text_Get4.mono _ _)
      | (with_reducible exact text_Get6.mono _ _)
      | (with_reducible exact text_GetPrefix.mono _ _ _)
      | (with_reducible exact LeO.refl _)
      | (with_reducible exact LeO.none _)
      | (with_reducible refine LeO.ite ?_ ?_)
      | (with_reducible refine LeO.bind ?_ (fun _ => ?_))
      | exact ih0 _ _ _
      | exact ih1 _ _ _
      | exact ih2 _ _ _
      | exact ih3 _ _ _
      | exact ih4 _ _
      | exact ih5 _ _
      | exact tenancyref02_Get.mono _ _ _
      | exact tenancyref02_Get4.mono _ _
      | exact tenancyref02_Get6.mono _ _
      | exact tenancyref02_GetNum.mono _ _
      | exact tenancyref02_GetPrefix.mono _ _ _
      | exact tenancyref02_Unhex.mono _ _
      | exact text_Get.mono _ _ _
      | exact text_Get4.mono _ _
      | exact text_Get6.mono _ _
      | exact text_GetPrefix.mono _ _ _
      | exact LeO.none _
      | refine LeO.ite ?_ ?_
      | refine LeO.bind ?_ (fun _ => ?_)
    · intro y0 y1 y2
      unfold tenancylaw02_TextGets.j2
      repeat' first
      | (with_reducible exact ih0 _ _ _)
      | (with_reducible exact ih1 _ _ _)
      | (with_reducible exact ih2 _ _ _)
      | (with_reducible exact ih3 _ _ _)
      | (with_reducible exact ih4 _ _)
      | (with_reducible exact ih5 _ _)
      | (with_reducible exact tenancyref02_Get.mono _ _ _)
      | (with_reducible exact tenancyref02_Get4.mono _ _)
      | (with_reducible exact tenancyref02_Get6.mono _ _)
      | (with_reducible exact tenancyref02_GetNum.mono _ _)
      | (with_reducible exact tenancyref02_GetPrefix.mono _ _ _)
      | (with_reducible exact tenancyref02_Unhex.mono _ _)
      | (with_reducible exact text_Get.mono _ _ _)
      | (with_reducible exact text_Get4.mono _ _)
      | (with_reducible exact text_Get6.mono _ _)
      | (with_reducible exact text_GetPrefix.mono _ _ _)
      | (with_reducible exact LeO.refl _)
      | (with_reducible exact LeO.none _)
      | (with_reducible refine LeO.ite ?_ ?_)
      | (with_reducible refine LeO.bind ?_ (fun _ => ?_))
      | exact ih0 _ _ _
      | exact ih1 _ _ _
      | exact ih2 _ _ _
      | exact ih3 _ _ _
      | exact ih4 _ _
      | exact ih5 _ _
      | exact tenancyref02_Get.mono _ _ _
      | exact tenancyref02_Get4.mono _ _
      | exact tenancyref02_Get6.mono _ _
      | exact tenancyref02_GetNum.mono _ _
      | exact tenancyref02_GetPrefix.mono _ _ _
      | exact tenancyref02_Unhex.mono _ _
      | exact text_Get.mono _ _ _
      | exact text_Get4.mono _ _
      | exact text_Get6.mono _ _
      | exact text_GetPrefix.mono _ _ _
      | exact LeO.none _
      | refine LeO.ite ?_ ?_
      | refine LeO.bind ?_ (fun _ => ?_)
    · intro y0 y1 y2
      unfold tenancylaw02_TextGets.j3
      repeat' first
      | (with_reducible exact ih0 _ _ _)
      | (with_reducible exact ih1 _ _ _)
      | (with_reducible exact ih2 _ _ _)
      | (with_reducible exact ih3 _ _ _)
      | (with_reducible exact ih4 _ _)
      | (with_reducible exact ih5 _ _)
      | (with_reducible exact tenancyref02_Get.mono _ _ _)
      | (with_reducible exact tenancyref02_Get4.mono _ _)
      | (with_reducible exact tenancyref02_Get6.mono _ _)
      | (with_reducible exact tenancyref02_GetNum.mono _ _)
      | (with_reducible exact tenancyref02_GetPrefix.mono _ _ _)
      | (with_reducible exact tenancyref02_Unhex.mono _ _)
      | (with_reducible exact text_Get.mono _ _ _)
      | (with_reducible exact text_Get4.mono _ _)
      | (with_reducible exact text_Get6.mono _ _)
      | (with_reducible exact text_GetPrefix.mono _ _ _)
      | (with_reducible exact LeO.refl _)
      | (with_reducible exact LeO.none _)
      | (with_reducible refine LeO.ite ?_ ?_)
      | (with_reducible refine LeO.bind ?_ (fun _ => ?_))
      | exact ih0 _ _ _
      | exact ih1 _ _ _
      | exact ih2 _ _ _
      | exact ih3 _ _ _
      | exact ih4 _ _
      | exact ih5 _ _
      | exact tenancyref02_Get.mono _ _ _
      | exact tenancyref02_Get4.mono _ _
      | exact tenancyref02_Get6.mono _ _
      | exact tenancyref02_GetNum.mono _ _
      | exact tenancyref02_GetPrefix.mono _ _ _
      | exact tenancyref02_Unhex.mono _ _
      | exact text_Get.mono _ _ _
      | exact text_Get4.mono _ _
      | exact text_Get6.mono _ _
      | exact text_GetPrefix.mono _ _ _
      | exact LeO.none _
      | refine LeO.ite ?_ ?_
      | refine LeO.bind ?_ (fun _ => ?_)
    · intro y0 y1
      unfold tenancylaw02_TextGets.j4
      repeat' first
      | (with_reducible exact ih0 _ _ _)
      | (with_reducible exact ih1 _ _ _)
      | (with_reducible exact ih2 _ _ _)
      | (with_reducible exact ih3 _ _ _)
      | (with_reducible exact ih4 _ _)
      | (with_reducible exact ih5 _ _)
      | (with_reducible exact tenancyref02_Get.mono _ _ _)
      | (with_reducible exact tenancyref02_Get4.mono _ _)
      | (with_reducible exact tenancyref02_Get6.mono _ _)
      | (with_reducible exact tenancyref02_GetNum.mono _ _)
      | (with_reducible exact tenancyref02_GetPrefix.mono _ _ _)
      | (with_reducible exact tenancyref02_Unhex.mono _ _)
      | (with_reducible exact text_Get.mono _ _ _)
      | (with_reducible exact text_Get4.mono _ _)
      | (with_reducible exact text_Get6.mono _ _)
      | (with_reducible exact text_GetPrefix.mono _ _ _)
      | (with_reducible exact LeO.refl _)
      | (with_reducible exact LeO.none _)
      | (with_reducible refine LeO.ite ?_ ?_)
      | (with_reducible refine LeO.bind ?_ (fun _ => ?_))
      | exact ih0 _ _ _
      | exact ih1 _ _ _
      | exact ih2 _ _ _
      | exact ih3 _ _ _
      | exact ih4 _ _
      | exact ih5 _ _
      | exact tenancyref02_Get.mono _ _ _
      | exact tenancyref02_Get4.mono _ _
      | exact tenancyref02_Get6.mono _ _
      | exact tenancyref02_GetNum.mono _ _
      | exact tenancyref02_GetPrefix.mono _ _ _
      | exact tenancyref02_Unhex.mono _ _
      | exact text_Get.mono _ _ _
      | exact text_Get4.mono _ _
      | exact text_Get6.mono _ _
      | exact text_GetPrefix.mono _ _ _
      | exact LeO.none _
      | refine LeO.ite ?_ ?_
      | refine LeO.bind ?_ (fun _ => ?_)
    · intro y0 y1
      unfold tenancylaw02_TextGets.j5
      repeat' first
      | (with_reducible exact ih0 _ _ _)
      | (with_reducible exact ih1 _ _ _)
      | (with_reducible exact ih2 _ _ _)
      | (with_reducible exact ih3 _ _ _)
      | (with_reducible exact ih4 _ _)
      | (with_reducible exact ih5 _ _)
      | (with_reducible exact tenancyref02_Get.mono _ _ _)
      | (with_reducible exact tenancyref02_Get4.mono _ _)
      | (with_reducible exact tenancyref02_Get6.mono _ _)
      | (with_reducible exact tenancyref02_GetNum.mono _ _)
      | (with_reducible exact tenancyref02_GetPrefix.mono _ _ _)
      | (with_reducible exact tenancyref02_Unhex.mono _ _)
      | (with_reducible exact text_Get.mono _ _ _)
      | (with_reducible exact text_Get4.mono _ _)
      | (with_reducible exact text_Get6.mono _ _)
      | (with_reducible exact text_GetPrefix.mono _ _ _)
      | (with_reducible exact LeO.refl _)
      | (with_reducible exact LeO.none _)
      | (with_reducible refine LeO.ite ?_ ?_)
      | (with_reducible refine LeO.bind ?_ (fun _ => ?_))
      | exact ih0 _ _ _
      | exact ih1 _ _ _
      | exact ih2 _ _ _
      | exact ih3 _ _ _
      | exact ih4 _ _
      | exact ih5 _ _
      | exact tenancyref02_Get.mono _ _ _
      | exact tenancyref02_Get4.mono _ _
      | exact tenancyref02_Get6.mono _ _
      | exact tenancyref02_GetNum.mono _ _
      | exact tenancyref02_GetPrefix.mono _ _ _
      | exact tenancyref02_Unhex.mono _ _
      | exact text_Get.mono _ _ _
      | exact text_Get4.mono _ _
      | exact text_Get6.mono _ _
      | exact text_GetPrefix.mono _ _ _
      | exact LeO.none _
      | refine LeO.ite ?_ ?_
      | refine LeO.bind ?_ (fun _ => ?_)
theorem tenancylaw02_TextGets.mono : ∀ a0 a1 k, LeO (tenancylaw02_TextGets.f k a0 a1) (tenancylaw02_TextGets.f (k + 1) a0 a1) := by
  intro a0 a1 k
  obtain ⟨ih0, ih1, ih2, ih3, ih4, ih5⟩ := tenancylaw02_TextGets.mono_l k
  unfold tenancylaw02_TextGets.f
  repeat' first
      | (with_reducible exact ih0 _ _ _)
      | (with_reducible exact ih1 _ _ _)
      | (with_reducible exact ih2 _ _ _)
      | (with_reducible exact ih3 _ _ _)
      | (with_reducible exact ih4 _ _)
      | (with_reducible exact ih5 _ _)
      | (with_reducible exact tenancyref02_Get.mono _ _ _)
      | (with_reducible exact tenancyref02_Get4.mono _ _)
      | (with_reducible exact tenancyref02_Get6.mono _ _)
      | (with_reducible exact tenancyref02_GetNum.mono _ _)
      | (with_reducible exact tenancyref02_GetPrefix.mono _ _ _)
      | (with_reducible exact tenancyref02_Unhex.mono _ _)
      | (with_reducible exact text_Get.mono _ _ _)
      | (with_reducible exact text_Get4.mono _ _)
      | (with_reducible exact text_Get6.mono _ _)
      | (with_reducible exact text_GetPrefix.mono _ _ _)
      | (with_reducible exact LeO.refl _)
      | (with_reducible exact LeO.none _)
      | (with_reducible refine LeO.ite ?_ ?_)
      | (with_reducible refine LeO.bind ?_ (fun _ => ?_))
      | exact ih0 _ _ _
      | exact ih1 _ _ _
      | exact ih2 _ _ _
      | exact ih3 _ _ _
      | exact ih4 _ _
      | exact ih5 _ _
      | exact tenancyref02_Get.mono _ _ _
      | exact tenancyref02_Get4.mono _ _
      | exact tenancyref02_Get6.mono _ _
      | exact tenancyref02_GetNum.mono _ _
      | exact tenancyref02_GetPrefix.mono _ _ _
      | exact tenancyref02_Unhex.mono _ _
      | exact text_Get.mono _ _ _
      | exact text_Get4.mono _ _
      | exact text_Get6.mono _ _
      | exact text_GetPrefix.mono _ _ _
      | exact LeO.none _
      | refine LeO.ite ?_ ?_
      | refine LeO.bind ?_ (fun _ => ?_)
set_option maxHeartbeats 8000000 in
set_option maxRecDepth 100000 in
theorem tenancylaw02_TextGets.calls (k : Nat) (a0 : Int) (a1 : ByteArray) (r : Bool) (w : World) (hG : Aside0 (Glob w)) (h : tenancylaw02_TextGets.f k a0 a1 = some r) :
    Calls Tryd.prog 3 #[.int .i64 a0, .string a1] w fun e w' => e = .returned (.bool r) ∧ Below w.heap.size w w' := by
  have hu28 := Tryd.underlying28
  have hu33 := Tryd.underlying33
  have HB := Aside0.mk (Below.refl w.heap.size w)
  have H : ((tenancylaw02_awake.f).bind fun t191 => (if t191 = true then (tenancylaw02_TextGets.j0 k a0 a1 (decide ((a1.size : Int) > 65536))) else (tenancylaw02_TextGets.j0 k a0 a1 true))) = some r := h
  clear h
  have HC3 := Aside0.mk H
  clear H
  go_enter Tryd.func3, Tryd.ntmps3
  go_upto_region 1 with (fail)
  go_cut [23] (fun v23 wc => ∃ (kq : Nat) (x23_2 : Bool), v23 = .bool x23_2 ∧ Aside0 (tenancylaw02_TextGets.j0 kq a0 a1 x23_2 = some r) ∧ Aside0 (kq ≤ k) ∧ Aside0 (Below w.heap.size w wc))
  case first =>
    have H := HC3.out
    clear HC3
    replace H := Option.bind_eq_some_iff.mp H
    obtain ⟨t191, A40, H⟩ := H
    replace H : (if t191 = true then (tenancylaw02_TextGets.j0 k a0 a1 (decide ((a1.size : Int) > 65536))) else (tenancylaw02_TextGets.j0 k a0 a1 true)) = some r := H
    have A4 := Aside0.mk A40
    clear A40
    by_cases c5 : t191 = true
    · subst c5
      have H1 : (tenancylaw02_TextGets.j0 k a0 a1 (decide ((a1.size : Int) > 65536))) = some r := by rw [if_pos rfl] at H; exact H
      clear H
      have H := H1
      clear H1
      have H' := Aside0.mk H
      clear H
      go_wp2_with (first | ((with_reducible refine gate_callee (f := 8) rfl ?_); refine goesL_ (some 17) rfl rfl Tryd.func8 (by kernel_rfl) rfl #[] rfl (by (try simp only [List.map_toArray, List.map_cons, List.map_nil]); first | done | rfl | (simp only [List.length_drop, List.length_take]; rfl)) ?_; (with_reducible refine (tenancylaw02_awake.calls  true _ ⟨Glob.below hG.out (by repeat (first | (with_reducible first | exact HB.out | apply below_alloc | apply pw_below_drewN | apply below_drew1) | exact HB.out))⟩ A4.out).mono ?_); rintro e w6 ⟨rfl, hb⟩; refine ⟨_, rfl, ?_⟩; have n0_ := Aside0.mk (below_step (by repeat (first | (with_reducible first | exact HB.out | apply below_alloc | apply pw_below_drewN | apply below_drew1) | exact HB.out)) hb); clear HB; have HB := n0_; clear n0_; (try clear hb); (try clear hb2); (try clear hk); (try clear hi)))
      go_meet
      case rel => exact ⟨_, (decide ((a1.size : Int) > 65536)), (by first | rfl | (simp; done) | (simp [*]; done)), H', ⟨by first | omega | exact Nat.le_refl _⟩, ⟨by repeat (first | (with_reducible first | exact HB.out | apply below_alloc | apply pw_below_drewN | apply below_drew1) | exact HB.out)⟩⟩
    · replace c5 := Bool.eq_false_iff.mpr c5
      subst c5
      have H1 : (tenancylaw02_TextGets.j0 k a0 a1 true) = some r := by rw [if_neg (show ¬ (false = true) by decide)] at H; exact H
      clear H
      have H := H1
      clear H1
      have H' := Aside0.mk H
      clear H
      go_wp2_with (first | ((with_reducible refine gate_callee (f := 8) rfl ?_); refine goesL_ (some 17) rfl rfl Tryd.func8 (by kernel_rfl) rfl #[] rfl (by (try simp only [List.map_toArray, List.map_cons, List.map_nil]); first | done | rfl | (simp only [List.length_drop, List.length_take]; rfl)) ?_; (with_reducible refine (tenancylaw02_awake.calls  false _ ⟨Glob.below hG.out (by repeat (first | (with_reducible first | exact HB.out | apply below_alloc | apply pw_below_drewN | apply below_drew1) | exact HB.out))⟩ A4.out).mono ?_); rintro e w7 ⟨rfl, hb⟩; refine ⟨_, rfl, ?_⟩; have n0_ := Aside0.mk (below_step (by repeat (first | (with_reducible first | exact HB.out | apply below_alloc | apply pw_below_drewN | apply below_drew1) | exact HB.out)) hb); clear HB; have HB := n0_; clear n0_; (try clear hb); (try clear hb2); (try clear hk); (try clear hi)))
      go_meet
      case rel => exact ⟨_, (true), (by first | rfl | (simp; done) | (simp [*]; done)), H', ⟨by first | omega | exact Nat.le_refl _⟩, ⟨by repeat (first | (with_reducible first | exact HB.out | apply below_alloc | apply pw_below_drewN | apply below_drew1) | exact HB.out)⟩⟩
  case rest =>
    clear HC3
    try clear p2
    try clear c3
    try clear c5
    obtain ⟨kq, x23_2, rfl, HA, HJ2, HB⟩ := hcut
    cases kq with
    | zero => exact absurd HA.out (by simp [tenancylaw02_TextGets.j0])
    | succ kj2 =>
      have H := HA.out
      clear HA
      simp only [tenancylaw02_TextGets.j0] at H
      by_cases c8 : x23_2 = true
      · subst c8
        have H1 : ((tenancylaw02_awake.f).bind fun t192 => (some t192)) = some r := by rw [if_pos rfl] at H; exact H
        clear H
        have H := H1
        clear H1
        replace H := Option.bind_eq_some_iff.mp H
        obtain ⟨t192, A90, H⟩ := H
        replace H : (some t192) = some r := H
        have A9 := Aside0.mk A90
        clear A90
        obtain rfl := Option.some.inj H
        go_wp2_with (first | ((with_reducible refine gate_callee (f := 8) rfl ?_); refine goesL_ (some 24) rfl rfl Tryd.func8 (by kernel_rfl) rfl #[] rfl (by (try simp only [List.map_toArray, List.map_cons, List.map_nil]); first | done | rfl | (simp only [List.length_drop, List.length_take]; rfl)) ?_; (with_reducible refine (tenancylaw02_awake.calls  t192 _ ⟨Glob.below hG.out (by repeat (first | (with_reducible first | exact HB.out | apply below_alloc | apply pw_below_drewN | apply below_drew1) | exact HB.out))⟩ A9.out).mono ?_); rintro e w10 ⟨rfl, hb⟩; refine ⟨_, rfl, ?_⟩; have n0_ := Aside0.mk (below_step (by repeat (first | (with_reducible first | exact HB.out | apply below_alloc | apply pw_below_drewN | apply below_drew1) | exact HB.out)) hb); clear HB; have HB := n0_; clear n0_; (try clear hb); (try clear hb2); (try clear hk); (try clear hi)))
        go_ret
        exact ⟨by first | rfl | (simp [errW_none, errW_some] <;> rfl) | (simp [*, errW_none, errW_some] <;> rfl), by repeat (first | (with_reducible first | exact HB.out | apply below_alloc | apply pw_below_drewN | apply below_drew1) | exact HB.out)⟩
      · replace c8 := Bool.eq_false_iff.mpr c8
        subst c8
        have H1 : ((text_Get4.f kj2 a1).bind fun bt193 => ((tenancyref02_Get4.f kj2 a1).bind fun bt195 => (if bt193.1 = bt195.1 then (tenancylaw02_TextGets.j1 kj2 a0 a1 (bt193.2 != bt195.2)) else (tenancylaw02_TextGets.j1 kj2 a0 a1 true)))) = some r := by rw [if_neg (show ¬ (false = true) by decide)] at H; exact H
        clear H
        have H := H1
        clear H1
        replace H := Option.bind_eq_some_iff.mp H
        obtain ⟨⟨t193, t194⟩, A110, H⟩ := H
        replace H : ((tenancyref02_Get4.f kj2 a1).bind fun bt195 => (if t193 = bt195.1 then (tenancylaw02_TextGets.j1 kj2 a0 a1 (t194 != bt195.2)) else (tenancylaw02_TextGets.j1 kj2 a0 a1 true))) = some r := H
        have A11 := Aside0.mk A110
        clear A110
        replace H := Option.bind_eq_some_iff.mp H
        obtain ⟨⟨t195, t196⟩, A120, H⟩ := H
        replace H : (if t193 = t195 then (tenancylaw02_TextGets.j1 kj2 a0 a1 (t194 != t196)) else (tenancylaw02_TextGets.j1 kj2 a0 a1 true)) = some r := H
        have A12 := Aside0.mk A120
        clear A120
        have HC13 := Aside0.mk H
        clear H
        go_upto_region 5 with (first | ((with_reducible refine gate_callee (f := 9) rfl ?_); refine goesL_ (some 27) rfl rfl Tryd.func9 (by kernel_rfl) rfl #[.string a1] rfl (by (try simp only [List.map_toArray, List.map_cons, List.map_nil]); first | done | rfl | (simp only [List.length_drop, List.length_take]; rfl)) ?_; (with_reducible refine (text_Get4.calls kj2 a1 t193 t194 _ ⟨Glob.below hG.out (by repeat (first | (with_reducible first | exact HB.out | apply below_alloc | apply pw_below_drewN | apply below_drew1) | exact HB.out))⟩ A11.out).mono ?_); rintro e w14 ⟨rfl, hb⟩; refine ⟨_, rfl, ?_⟩; have n0_ := Aside0.mk (below_step (by repeat (first | (with_reducible first | exact HB.out | apply below_alloc | apply pw_below_drewN | apply below_drew1) | exact HB.out)) hb); clear HB; have HB := n0_; clear n0_; (try clear hb); (try clear hb2); (try clear hk); (try clear hi)) | ((with_reducible refine gate_callee (f := 10) rfl ?_); refine goesL_ (some 32) rfl rfl Tryd.func10 (by kernel_rfl) rfl #[.string a1] rfl (by (try simp only [List.map_toArray, List.map_cons, List.map_nil]); first | done | rfl | (simp only [List.length_drop, List.length_take]; rfl)) ?_; (with_reducible refine (tenancyref02_Get4.calls kj2 a1 t195 t196 _ A12.out).mono ?_); rintro e w15 ⟨rfl, hb⟩; refine ⟨_, rfl, ?_⟩; have n0_ := Aside0.mk (below_step (by repeat (first | (with_reducible first | exact HB.out | apply below_alloc | apply pw_below_drewN | apply below_drew1) | exact HB.out)) hb); clear HB; have HB := n0_; clear n0_; (try clear hb); (try clear hb2); (try clear hk); (try clear hi)))
        (try simp only [Act.put, List.setIfInBounds_toArray, List.set_cons_zero, List.set_cons_succ])
        go_cut [42] (fun v42 wc => ∃ (kq : Nat) (x42_12 : Bool), v42 = .bool x42_12 ∧ Aside0 (tenancylaw02_TextGets.j1 kq a0 a1 x42_12 = some r) ∧ Aside0 (kq ≤ kj2) ∧ Aside0 (Below w.heap.size w wc))
        case first =>
          have H := HC13.out
          clear HC13
          by_cases c16 : t193 = t195
          · rw [if_pos c16] at H
            have c16b0 : (t193 == t195) = true := beq_iff_eq.mpr c16
            have c16b1 : (t193 != t195) = false := bne_eq_false_iff_eq.mpr c16
            clear c16
            (first | rw [c16b0] | (simp only [i64_w, i32_w]; rw [c16b0]) | skip)
            have H' := Aside0.mk H
            clear H
            go_wp2
            go_meet
            case rel => exact ⟨_, ((t194 != t196)), (by first | rfl | (simp; done) | (simp [*]; done)), H', ⟨by have := HJ2.out; first | omega | exact Nat.le_refl _⟩, ⟨by repeat (first | (with_reducible first | exact HB.out | apply below_alloc | apply pw_below_drewN | apply below_drew1) | exact HB.out)⟩⟩
          · rw [if_neg c16] at H
            have c16b0 : (t193 == t195) = false := beq_eq_false_iff_ne.mpr c16
            have c16b1 : (t193 != t195) = true := bne_iff_ne.mpr c16
            (first | rw [c16b0] | (simp only [i64_w, i32_w]; rw [c16b0]) | skip)
            have H' := Aside0.mk H
            clear H
            go_wp2
            go_meet
            case rel => exact ⟨_, (true), (by first | rfl | (simp; done) | (simp [*]; done)), H', ⟨by have := HJ2.out; first | omega | exact Nat.le_refl _⟩, ⟨by repeat (first | (with_reducible first | exact HB.out | apply below_alloc | apply pw_below_drewN | apply below_drew1) | exact HB.out)⟩⟩
        case rest =>
          clear HC13
          try clear c1
          try clear p2
          try clear c3
          try clear c5
          try clear c8
          try clear c9
          try clear c10
          try clear c16
          try clear c16b0
          try clear c16b1
          try clear p2
          obtain ⟨kq, x42_12, rfl, HA, HJ12, HB⟩ := hcut
          cases kq with
          | zero => exact absurd HA.out (by simp [tenancylaw02_TextGets.j1])
          | succ kj12 =>
            have H := HA.out
            clear HA
            simp only [tenancylaw02_TextGets.j1] at H
            by_cases c17 : x42_12 = true
            · subst c17
              have H1 : (some false) = some r := by rw [if_pos rfl] at H; exact H
              clear H
              have H := H1
              clear H1
              obtain rfl := Option.some.inj H
              go_wp2
              go_ret
              exact ⟨by first | rfl | (simp [errW_none, errW_some] <;> rfl) | (simp [*, errW_none, errW_some] <;> rfl), by repeat (first | (with_reducible first | exact HB.out | apply below_alloc | apply pw_below_drewN | apply below_drew1) | exact HB.out)⟩
            · replace c17 := Bool.eq_false_iff.mpr c17
              subst c17
              have H1 : ((text_Get6.f kj12 a1).bind fun bt197 => ((tenancyref02_Get6.f kj12 a1).bind fun bt201 => (if (!(bt197.1 == bt201.1) || (!(bt197.2.1 == bt201.2.1))) = true then (tenancylaw02_TextGets.j2 kj12 a0 a1 true) else (tenancylaw02_TextGets.j2 kj12 a0 a1 (bt197.2.2 != bt201.2.2))))) = some r := by rw [if_neg (show ¬ (false = true) by decide)] at H; exact H
              clear H
              have H := H1
              clear H1
              replace H := Option.bind_eq_some_iff.mp H
              obtain ⟨⟨t197, t198, t199⟩, A180, H⟩ := H
              replace H : ((tenancyref02_Get6.f kj12 a1).bind fun bt201 => (if (!(t197 == bt201.1) || (!(t198 == bt201.2.1))) = true then (tenancylaw02_TextGets.j2 kj12 a0 a1 true) else (tenancylaw02_TextGets.j2 kj12 a0 a1 (t199 != bt201.2.2)))) = some r := H
              have A18 := Aside0.mk A180
              clear A180
              replace H := Option.bind_eq_some_iff.mp H
              obtain ⟨⟨t201, t202, t203⟩, A190, H⟩ := H
              replace H : (if (!(t197 == t201) || (!(t198 == t202))) = true then (tenancylaw02_TextGets.j2 kj12 a0 a1 true) else (tenancylaw02_TextGets.j2 kj12 a0 a1 (t199 != t203))) = some r := H
              have A19 := Aside0.mk A190
              clear A190
              have HC20 := Aside0.mk H
              clear H
              go_upto_region 9 with (first | ((with_reducible refine gate_callee (f := 11) rfl ?_); refine goesL_ (some 45) rfl rfl Tryd.func11 (by kernel_rfl) rfl #[.string a1] rfl (by (try simp only [List.map_toArray, List.map_cons, List.map_nil]); first | done | rfl | (simp only [List.length_drop, List.length_take]; rfl)) ?_; (with_reducible refine (text_Get6.calls kj12 a1 t197 t198 t199 _ ⟨Glob.below hG.out (by repeat (first | (with_reducible first | exact HB.out | apply below_alloc | apply pw_below_drewN | apply below_drew1) | exact HB.out))⟩ A18.out).mono ?_); rintro e w21 ⟨rfl, hb⟩; refine ⟨_, rfl, ?_⟩; have n0_ := Aside0.mk (below_step (by repeat (first | (with_reducible first | exact HB.out | apply below_alloc | apply pw_below_drewN | apply below_drew1) | exact HB.out)) hb); clear HB; have HB := n0_; clear n0_; (try clear hb); (try clear hb2); (try clear hk); (try clear hi)) | ((with_reducible refine gate_dst (N := 9) rfl ?_); (try (refine gate_guard (by rfl) ?_; dsimp only)); refine box_event ?hg (N := 9) ?hd (cs := #[.int .u64 0, .int .u64 0]) (t := 28) ?hr ?_; (case hd => rfl); (case hg => rfl); (case hr => first | (go_simp; done) | (go_simp; rfl)); intro gb200 hg w22 hbox hb; have n0_ := Aside0.mk (below_step (by repeat (first | (with_reducible first | exact HB.out | apply below_alloc | apply pw_below_drewN | apply below_drew1) | exact HB.out)) hb); have n1_ := Aside0.mk (hbox); have n2_ := Aside0.mk ((by rw [hg]; exact (below_size (by repeat (first | (with_reducible first | exact HB.out | apply below_alloc | apply pw_below_drewN | apply below_drew1) | exact HB.out))) : w.heap.size ≤ gb200)); have n3_ := Aside0.mk ((by rw [hg]; exact (below_size (by repeat (first | (with_reducible first | exact HB.out | apply below_alloc | apply pw_below_drewN | apply below_drew1) | exact HB.out))) : w.heap.size ≤ gb200)); clear HB; have HB := n0_; have BK200 := n1_; have GW200 := n2_; have GE200 := n3_; clear n0_ n1_ n2_ n3_; clear hb hbox hg; have hcz23_0 : w22.cell? ⟨gb200, 0, none⟩ = some (.int .u64 0) := (blk_cell BK200.out 0).trans rfl; have hcz23_1 : w22.cell? ⟨gb200, 1, none⟩ = some (.int .u64 0) := (blk_cell BK200.out 1).trans rfl; have hfz23_0 := blk_frozen BK200.out 0; have hfz23_1 := blk_frozen BK200.out 1) | ((with_reducible refine gate_callee (f := 12) rfl ?_); refine goesL_ (some 50) rfl rfl Tryd.func12 (by kernel_rfl) rfl #[.string a1] rfl (by (try simp only [List.map_toArray, List.map_cons, List.map_nil]); first | done | rfl | (simp only [List.length_drop, List.length_take]; rfl)) ?_; (with_reducible refine (tenancyref02_Get6.calls kj12 a1 t201 t202 t203 _ A19.out).mono ?_); rintro e w24 ⟨rfl, hb⟩; refine ⟨_, rfl, ?_⟩; have n0_ := Aside0.mk (blk_below (g := gb200) (o := .cells #[.int .u64 t197, .int .u64 t198] 28 (0, 0)) (by (with_reducible repeat (first | refine blk_drewN ?_ _ | refine blk_drew ?_ | refine blk_alloc ?_ _)); refine blk_put (cs := #[.int .u64 t197, .int .u64 0]) ?_ 1 _ rfl; (with_reducible repeat (first | refine blk_drewN ?_ _ | refine blk_drew ?_ | refine blk_alloc ?_ _)); refine blk_put (cs := #[.int .u64 0, .int .u64 0]) ?_ 0 _ rfl; (with_reducible repeat (first | refine blk_drewN ?_ _ | refine blk_drew ?_ | refine blk_alloc ?_ _)); exact BK200.out) hb); have n1_ := Aside0.mk (below_step (by repeat (first | (with_reducible first | exact HB.out | apply below_alloc | apply pw_below_drewN | apply below_drew1 | refine below_set ?_ GE200.out) | exact HB.out)) hb); clear BK200; clear HB; have BK200 := n0_; have HB := n1_; clear n0_ n1_; (try clear hb); (try clear hb2); (try clear hk); (try clear hi)) | ((with_reducible refine gate_dst (N := 10) rfl ?_); (try (refine gate_guard (by rfl) ?_; dsimp only)); refine box_event ?hg (N := 10) ?hd (cs := #[.int .u64 0, .int .u64 0]) (t := 28) ?hr ?_; (case hd => rfl); (case hg => rfl); (case hr => first | (go_simp; done) | (go_simp; rfl)); intro gb204 hg w25 hbox hb; have n0_ := Aside0.mk (blk_below (g := gb200) (o := .cells #[.int .u64 t197, .int .u64 t198] 28 (0, 0)) (by (with_reducible repeat (first | refine blk_drewN ?_ _ | refine blk_drew ?_ | refine blk_alloc ?_ _)); exact BK200.out) hb); have n1_ := Aside0.mk (below_step (by repeat (first | (with_reducible first | exact HB.out | apply below_alloc | apply pw_below_drewN | apply below_drew1 | refine below_set ?_ GE200.out) | exact HB.out)) hb); have n2_ := Aside0.mk (hbox); have n3_ := Aside0.mk ((by rw [hg]; exact (below_size (by repeat (first | (with_reducible first | exact HB.out | apply below_alloc | apply pw_below_drewN | apply below_drew1 | refine below_set ?_ GE200.out) | exact HB.out))) : w.heap.size ≤ gb204)); have n4_ := Aside0.mk ((by rw [hg]; exact (below_size (by repeat (first | (with_reducible first | exact HB.out | apply below_alloc | apply pw_below_drewN | apply below_drew1 | refine below_set ?_ GE200.out) | exact HB.out))) : w.heap.size ≤ gb204)); have n5_ := Aside0.mk ((by rw [hg]; exact Nat.ne_of_lt (blk_lt (g := gb200) (o := .cells #[.int .u64 t197, .int .u64 t198] 28 (0, 0)) (by (with_reducible repeat (first | refine blk_drewN ?_ _ | refine blk_drew ?_ | refine blk_alloc ?_ _)); exact BK200.out)) : gb200 ≠ gb204)); have n6_ := Aside0.mk ((by rw [hg]; exact Nat.ne_of_gt (blk_lt (g := gb200) (o := .cells #[.int .u64 t197, .int .u64 t198] 28 (0, 0)) (by (with_reducible repeat (first | refine blk_drewN ?_ _ | refine blk_drew ?_ | refine blk_alloc ?_ _)); exact BK200.out)) : gb204 ≠ gb200)); clear BK200; clear HB; have BK200 := n0_; have HB := n1_; have BK204 := n2_; have GW204 := n3_; have GE204 := n4_; have NB200_204 := n5_; have NB204_200 := n6_; clear n0_ n1_ n2_ n3_ n4_ n5_ n6_; clear hb hbox hg; have hnb26 := NB204_200.out; have hnc26 := NB200_204.out; have hcz27_0 : w25.cell? ⟨gb204, 0, none⟩ = some (.int .u64 0) := (blk_cell BK204.out 0).trans rfl; have hcz27_1 : w25.cell? ⟨gb204, 1, none⟩ = some (.int .u64 0) := (blk_cell BK204.out 1).trans rfl; have hfz27_0 := blk_frozen BK204.out 0; have hfz27_1 := blk_frozen BK204.out 1))
              (try simp only [Act.put, List.setIfInBounds_toArray, List.set_cons_zero, List.set_cons_succ])
              go_cut [60] (fun v60 wc => ∃ (kq : Nat) (x60_19 : Bool), v60 = .bool x60_19 ∧ Aside0 (tenancylaw02_TextGets.j2 kq a0 a1 x60_19 = some r) ∧ Aside0 (kq ≤ kj12) ∧ Aside0 (wc.heap[gb200]? = some (.cells #[.int .u64 t197, .int .u64 t198] 28 (0, 0))) ∧ Aside0 (wc.heap[gb204]? = some (.cells #[.int .u64 t201, .int .u64 t202] 28 (0, 0))) ∧ Aside0 (Below w.heap.size w wc))
              case first =>
                have H := HC20.out
                clear HC20
                by_cases c28 : (!(t197 == t201) || (!(t198 == t202))) = true
                · rw [if_pos c28] at H
                  have c28b0 : (!(t197 == t201) || (!(t198 == t202))) = true := c28
                  clear c28
                  (first | rw [c28b0] | (simp only [i64_w, i32_w]; rw [c28b0]) | skip)
                  have H' := Aside0.mk H
                  clear H
                  have hnb29 := NB200_204.out
                  have hnc29 := NB204_200.out
                  have hcz30_0 : w25.cell? ⟨gb200, 0, none⟩ = some (.int .u64 t197) := (blk_cell BK200.out 0).trans rfl
                  have hcz30_1 : w25.cell? ⟨gb200, 1, none⟩ = some (.int .u64 t198) := (blk_cell BK200.out 1).trans rfl
                  have hfz30_0 := blk_frozen BK200.out 0
                  have hfz30_1 := blk_frozen BK200.out 1
                  have hcz31_0 : w25.cell? ⟨gb204, 0, none⟩ = some (.int .u64 0) := (blk_cell BK204.out 0).trans rfl
                  have hcz31_1 : w25.cell? ⟨gb204, 1, none⟩ = some (.int .u64 0) := (blk_cell BK204.out 1).trans rfl
                  have hfz31_0 := blk_frozen BK204.out 0
                  have hfz31_1 := blk_frozen BK204.out 1
                  go_wp2
                  go_meet
                  case rel => exact ⟨_, (true), (by first | rfl | (simp; done) | (simp [*]; done)), H', ⟨by have := HJ2.out; have := HJ12.out; first | omega | exact Nat.le_refl _⟩, ⟨by (with_reducible repeat (first | refine blk_drewN ?_ _ | refine blk_drew ?_ | refine blk_alloc ?_ _)); refine blk_far ?_ NB200_204.out _; (with_reducible repeat (first | refine blk_drewN ?_ _ | refine blk_drew ?_ | refine blk_alloc ?_ _)); refine blk_far ?_ NB200_204.out _; (with_reducible repeat (first | refine blk_drewN ?_ _ | refine blk_drew ?_ | refine blk_alloc ?_ _)); exact BK200.out⟩, ⟨by (with_reducible repeat (first | refine blk_drewN ?_ _ | refine blk_drew ?_ | refine blk_alloc ?_ _)); refine blk_put (cs := #[.int .u64 t201, .int .u64 0]) ?_ 1 _ rfl; (with_reducible repeat (first | refine blk_drewN ?_ _ | refine blk_drew ?_ | refine blk_alloc ?_ _)); refine blk_put (cs := #[.int .u64 0, .int .u64 0]) ?_ 0 _ rfl; (with_reducible repeat (first | refine blk_drewN ?_ _ | refine blk_drew ?_ | refine blk_alloc ?_ _)); exact BK204.out⟩, ⟨by repeat (first | (with_reducible first | exact HB.out | apply below_alloc | apply pw_below_drewN | apply below_drew1 | refine below_set ?_ GE200.out | refine below_set ?_ GE204.out) | exact HB.out)⟩⟩
                · rw [if_neg c28] at H
                  have c28b0 : (!(t197 == t201) || (!(t198 == t202))) = false := by simpa using c28
                  clear c28
                  (first | rw [c28b0] | (simp only [i64_w, i32_w]; rw [c28b0]) | skip)
                  have H' := Aside0.mk H
                  clear H
                  have hnb32 := NB200_204.out
                  have hnc32 := NB204_200.out
                  have hcz33_0 : w25.cell? ⟨gb200, 0, none⟩ = some (.int .u64 t197) := (blk_cell BK200.out 0).trans rfl
                  have hcz33_1 : w25.cell? ⟨gb200, 1, none⟩ = some (.int .u64 t198) := (blk_cell BK200.out 1).trans rfl
                  have hfz33_0 := blk_frozen BK200.out 0
                  have hfz33_1 := blk_frozen BK200.out 1
                  have hcz34_0 : w25.cell? ⟨gb204, 0, none⟩ = some (.int .u64 0) := (blk_cell BK204.out 0).trans rfl
                  have hcz34_1 : w25.cell? ⟨gb204, 1, none⟩ = some (.int .u64 0) := (blk_cell BK204.out 1).trans rfl
                  have hfz34_0 := blk_frozen BK204.out 0
                  have hfz34_1 := blk_frozen BK204.out 1
                  go_wp2
                  go_meet
                  case rel => exact ⟨_, ((t199 != t203)), (by first | rfl | (simp; done) | (simp [*]; done)), H', ⟨by have := HJ2.out; have := HJ12.out; first | omega | exact Nat.le_refl _⟩, ⟨by (with_reducible repeat (first | refine blk_drewN ?_ _ | refine blk_drew ?_ | refine blk_alloc ?_ _)); refine blk_far ?_ NB200_204.out _; (with_reducible repeat (first | refine blk_drewN ?_ _ | refine blk_drew ?_ | refine blk_alloc ?_ _)); refine blk_far ?_ NB200_204.out _; (with_reducible repeat (first | refine blk_drewN ?_ _ | refine blk_drew ?_ | refine blk_alloc ?_ _)); exact BK200.out⟩, ⟨by (with_reducible repeat (first | refine blk_drewN ?_ _ | refine blk_drew ?_ | refine blk_alloc ?_ _)); refine blk_put (cs := #[.int .u64 t201, .int .u64 0]) ?_ 1 _ rfl; (with_reducible repeat (first | refine blk_drewN ?_ _ | refine blk_drew ?_ | refine blk_alloc ?_ _)); refine blk_put (cs := #[.int .u64 0, .int .u64 0]) ?_ 0 _ rfl; (with_reducible repeat (first | refine blk_drewN ?_ _ | refine blk_drew ?_ | refine blk_alloc ?_ _)); exact BK204.out⟩, ⟨by repeat (first | (with_reducible first | exact HB.out | apply below_alloc | apply pw_below_drewN | apply below_drew1 | refine below_set ?_ GE200.out | refine below_set ?_ GE204.out) | exact HB.out)⟩⟩
              case rest =>
                clear HC20
                try clear c1
                try clear c2
                try clear p2
                try clear c3
                try clear c5
                try clear c8
                try clear c9
                try clear c10
                try clear c11
                try clear c12
                try clear c16
                try clear c16b0
                try clear c16b1
                try clear c17
                try clear c26
                try clear c28
                try clear c28b0
                try clear c29
                try clear c32
                try clear hcz23_0
                try clear hcz23_1
                try clear hcz27_0
                try clear hcz27_1
                try clear hcz30_0
                try clear hcz30_1
                try clear hcz31_0
                try clear hcz31_1
                try clear hcz33_0
                try clear hcz33_1
                try clear hcz34_0
                try clear hcz34_1
                try clear hfz23_0
                try clear hfz23_1
                try clear hfz27_0
                try clear hfz27_1
                try clear hfz30_0
                try clear hfz30_1
                try clear hfz31_0
                try clear hfz31_1
                try clear hfz33_0
                try clear hfz33_1
                try clear hfz34_0
                try clear hfz34_1
                try clear p2
                obtain ⟨kq, x60_19, rfl, HA, HJ19, BK200, BK204, HB⟩ := hcut
                cases kq with
                | zero => exact absurd HA.out (by simp [tenancylaw02_TextGets.j2])
                | succ kj19 =>
                  have H := HA.out
                  clear HA
                  simp only [tenancylaw02_TextGets.j2] at H
                  by_cases c35 : x60_19 = true
                  · subst c35
                    have H1 : (some false) = some r := by rw [if_pos rfl] at H; exact H
                    clear H
                    have H := H1
                    clear H1
                    obtain rfl := Option.some.inj H
                    go_wp2
                    go_ret
                    exact ⟨by first | rfl | (simp [errW_none, errW_some] <;> rfl) | (simp [*, errW_none, errW_some] <;> rfl), by repeat (first | (with_reducible first | exact HB.out | apply below_alloc | apply pw_below_drewN | apply below_drew1 | refine below_set ?_ GE200.out | refine below_set ?_ GE204.out) | exact HB.out)⟩
                  · replace c35 := Bool.eq_false_iff.mpr c35
                    subst c35
                    have H1 : ((text_Get.f kj19 a0 a1).bind fun bt205 => ((tenancyref02_Get.f kj19 a0 a1).bind fun bt208 => (if (!(bt205.1 == bt208.1) || (!(bt205.2.1 == bt208.2.1))) = true then (tenancylaw02_TextGets.j3 kj19 a0 a1 true) else (tenancylaw02_TextGets.j3 kj19 a0 a1 (bt205.2.2 != bt208.2.2))))) = some r := by rw [if_neg (show ¬ (false = true) by decide)] at H; exact H
                    clear H
                    have H := H1
                    clear H1
                    replace H := Option.bind_eq_some_iff.mp H
                    obtain ⟨⟨t205, t206, t207⟩, A360, H⟩ := H
                    replace H : ((tenancyref02_Get.f kj19 a0 a1).bind fun bt208 => (if (!(t205 == bt208.1) || (!(t206 == bt208.2.1))) = true then (tenancylaw02_TextGets.j3 kj19 a0 a1 true) else (tenancylaw02_TextGets.j3 kj19 a0 a1 (t207 != bt208.2.2)))) = some r := H
                    have A36 := Aside0.mk A360
                    clear A360
                    replace H := Option.bind_eq_some_iff.mp H
                    obtain ⟨⟨t208, t209, t210⟩, A370, H⟩ := H
                    replace H : (if (!(t205 == t208) || (!(t206 == t209))) = true then (tenancylaw02_TextGets.j3 kj19 a0 a1 true) else (tenancylaw02_TextGets.j3 kj19 a0 a1 (t207 != t210))) = some r := H
                    have A37 := Aside0.mk A370
                    clear A370
                    have HC38 := Aside0.mk H
                    clear H
                    go_upto_region 13 with (first | ((with_reducible refine gate_callee (f := 13) rfl ?_); refine goesL_ (some 64) rfl rfl Tryd.func13 (by kernel_rfl) rfl #[.int .i64 a0, .string a1] rfl (by (try simp only [List.map_toArray, List.map_cons, List.map_nil]); first | done | rfl | (simp only [List.length_drop, List.length_take]; rfl)) ?_; (with_reducible refine (text_Get.calls kj19 a0 a1 t205 t206 t207 _ ⟨Glob.below hG.out (by repeat (first | (with_reducible first | exact HB.out | apply below_alloc | apply pw_below_drewN | apply below_drew1 | refine below_set ?_ GE200.out | refine below_set ?_ GE204.out) | exact HB.out))⟩ A36.out).mono ?_); rintro e w39 ⟨rfl, hb⟩; refine ⟨_, rfl, ?_⟩; have n0_ := Aside0.mk (blk_below (g := gb200) (o := .cells #[.int .u64 t197, .int .u64 t198] 28 (0, 0)) (by (with_reducible repeat (first | refine blk_drewN ?_ _ | refine blk_drew ?_ | refine blk_alloc ?_ _)); exact BK200.out) hb); have n1_ := Aside0.mk (blk_below (g := gb204) (o := .cells #[.int .u64 t201, .int .u64 t202] 28 (0, 0)) (by (with_reducible repeat (first | refine blk_drewN ?_ _ | refine blk_drew ?_ | refine blk_alloc ?_ _)); exact BK204.out) hb); have n2_ := Aside0.mk (below_step (by repeat (first | (with_reducible first | exact HB.out | apply below_alloc | apply pw_below_drewN | apply below_drew1 | refine below_set ?_ GE200.out | refine below_set ?_ GE204.out) | exact HB.out)) hb); clear BK200; clear BK204; clear HB; have BK200 := n0_; have BK204 := n1_; have HB := n2_; clear n0_ n1_ n2_; (try clear hb); (try clear hb2); (try clear hk); (try clear hi); have hnb40 := NB200_204.out; have hnc40 := NB204_200.out; have hcz41_0 : w39.cell? ⟨gb200, 0, none⟩ = some (.int .u64 t197) := (blk_cell BK200.out 0).trans rfl; have hcz41_1 : w39.cell? ⟨gb200, 1, none⟩ = some (.int .u64 t198) := (blk_cell BK200.out 1).trans rfl; have hfz41_0 := blk_frozen BK200.out 0; have hfz41_1 := blk_frozen BK200.out 1) | ((with_reducible refine gate_callee (f := 14) rfl ?_); refine goesL_ (some 70) rfl rfl Tryd.func14 (by kernel_rfl) rfl #[.int .i64 a0, .string a1] rfl (by (try simp only [List.map_toArray, List.map_cons, List.map_nil]); first | done | rfl | (simp only [List.length_drop, List.length_take]; rfl)) ?_; (with_reducible refine (tenancyref02_Get.calls kj19 a0 a1 t208 t209 t210 _ A37.out).mono ?_); rintro e w42 ⟨rfl, hb⟩; refine ⟨_, rfl, ?_⟩; have n0_ := Aside0.mk (blk_below (g := gb200) (o := .cells #[.int .u64 t205, .int .u64 t206] 28 (0, 0)) (by (with_reducible repeat (first | refine blk_drewN ?_ _ | refine blk_drew ?_ | refine blk_alloc ?_ _)); refine blk_put (cs := #[.int .u64 t205, .int .u64 t198]) ?_ 1 _ rfl; (with_reducible repeat (first | refine blk_drewN ?_ _ | refine blk_drew ?_ | refine blk_alloc ?_ _)); refine blk_put (cs := #[.int .u64 t197, .int .u64 t198]) ?_ 0 _ rfl; (with_reducible repeat (first | refine blk_drewN ?_ _ | refine blk_drew ?_ | refine blk_alloc ?_ _)); exact BK200.out) hb); have n1_ := Aside0.mk (blk_below (g := gb204) (o := .cells #[.int .u64 t201, .int .u64 t202] 28 (0, 0)) (by (with_reducible repeat (first | refine blk_drewN ?_ _ | refine blk_drew ?_ | refine blk_alloc ?_ _)); refine blk_far ?_ NB204_200.out _; (with_reducible repeat (first | refine blk_drewN ?_ _ | refine blk_drew ?_ | refine blk_alloc ?_ _)); refine blk_far ?_ NB204_200.out _; (with_reducible repeat (first | refine blk_drewN ?_ _ | refine blk_drew ?_ | refine blk_alloc ?_ _)); exact BK204.out) hb); have n2_ := Aside0.mk (below_step (by repeat (first | (with_reducible first | exact HB.out | apply below_alloc | apply pw_below_drewN | apply below_drew1 | refine below_set ?_ GE200.out | refine below_set ?_ GE204.out) | exact HB.out)) hb); clear BK200; clear BK204; clear HB; have BK200 := n0_; have BK204 := n1_; have HB := n2_; clear n0_ n1_ n2_; (try clear hb); (try clear hb2); (try clear hk); (try clear hi); have hcz43_0 : w42.cell? ⟨gb204, 0, none⟩ = some (.int .u64 t201) := (blk_cell BK204.out 0).trans rfl; have hcz43_1 : w42.cell? ⟨gb204, 1, none⟩ = some (.int .u64 t202) := (blk_cell BK204.out 1).trans rfl; have hfz43_0 := blk_frozen BK204.out 0; have hfz43_1 := blk_frozen BK204.out 1))
                    (try simp only [Act.put, List.setIfInBounds_toArray, List.set_cons_zero, List.set_cons_succ])
                    go_cut [80] (fun v80 wc => ∃ (kq : Nat) (x80_37 : Bool), v80 = .bool x80_37 ∧ Aside0 (tenancylaw02_TextGets.j3 kq a0 a1 x80_37 = some r) ∧ Aside0 (kq ≤ kj19) ∧ Aside0 (wc.heap[gb200]? = some (.cells #[.int .u64 t205, .int .u64 t206] 28 (0, 0))) ∧ Aside0 (wc.heap[gb204]? = some (.cells #[.int .u64 t208, .int .u64 t209] 28 (0, 0))) ∧ Aside0 (Below w.heap.size w wc))
                    case first =>
                      have H := HC38.out
                      clear HC38
                      by_cases c44 : (!(t205 == t208) || (!(t206 == t209))) = true
                      · rw [if_pos c44] at H
                        have c44b0 : (!(t205 == t208) || (!(t206 == t209))) = true := c44
                        clear c44
                        (first | rw [c44b0] | (simp only [i64_w, i32_w]; rw [c44b0]) | skip)
                        have H' := Aside0.mk H
                        clear H
                        have hnb45 := NB200_204.out
                        have hnc45 := NB204_200.out
                        have hcz46_0 : w42.cell? ⟨gb200, 0, none⟩ = some (.int .u64 t205) := (blk_cell BK200.out 0).trans rfl
                        have hcz46_1 : w42.cell? ⟨gb200, 1, none⟩ = some (.int .u64 t206) := (blk_cell BK200.out 1).trans rfl
                        have hfz46_0 := blk_frozen BK200.out 0
                        have hfz46_1 := blk_frozen BK200.out 1
                        have hcz47_0 : w42.cell? ⟨gb204, 0, none⟩ = some (.int .u64 t201) := (blk_cell BK204.out 0).trans rfl
                        have hcz47_1 : w42.cell? ⟨gb204, 1, none⟩ = some (.int .u64 t202) := (blk_cell BK204.out 1).trans rfl
                        have hfz47_0 := blk_frozen BK204.out 0
                        have hfz47_1 := blk_frozen BK204.out 1
                        go_wp2
                        go_meet
                        case rel => exact ⟨_, (true), (by first | rfl | (simp; done) | (simp [*]; done)), H', ⟨by have := HJ2.out; have := HJ12.out; have := HJ19.out; first | omega | exact Nat.le_refl _⟩, ⟨by (with_reducible repeat (first | refine blk_drewN ?_ _ | refine blk_drew ?_ | refine blk_alloc ?_ _)); refine blk_far ?_ NB200_204.out _; (with_reducible repeat (first | refine blk_drewN ?_ _ | refine blk_drew ?_ | refine blk_alloc ?_ _)); refine blk_far ?_ NB200_204.out _; (with_reducible repeat (first | refine blk_drewN ?_ _ | refine blk_drew ?_ | refine blk_alloc ?_ _)); exact BK200.out⟩, ⟨by (with_reducible repeat (first | refine blk_drewN ?_ _ | refine blk_drew ?_ | refine blk_alloc ?_ _)); refine blk_put (cs := #[.int .u64 t208, .int .u64 t202]) ?_ 1 _ rfl; (with_reducible repeat (first | refine blk_drewN ?_ _ | refine blk_drew ?_ | refine blk_alloc ?_ _)); refine blk_put (cs := #[.int .u64 t201, .int .u64 t202]) ?_ 0 _ rfl; (with_reducible repeat (first | refine blk_drewN ?_ _ | refine blk_drew ?_ | refine blk_alloc ?_ _)); exact BK204.out⟩, ⟨by repeat (first | (with_reducible first | exact HB.out | apply below_alloc | apply pw_below_drewN | apply below_drew1 | refine below_set ?_ GE200.out | refine below_set ?_ GE204.out) | exact HB.out)⟩⟩
                      · rw [if_neg c44] at H
                        have c44b0 : (!(t205 == t208) || (!(t206 == t209))) = false := by simpa using c44
                        clear c44
                        (first | rw [c44b0] | (simp only [i64_w, i32_w]; rw [c44b0]) | skip)
                        have H' := Aside0.mk H
                        clear H
                        have hnb48 := NB200_204.out
                        have hnc48 := NB204_200.out
                        have hcz49_0 : w42.cell? ⟨gb200, 0, none⟩ = some (.int .u64 t205) := (blk_cell BK200.out 0).trans rfl
                        have hcz49_1 : w42.cell? ⟨gb200, 1, none⟩ = some (.int .u64 t206) := (blk_cell BK200.out 1).trans rfl
                        have hfz49_0 := blk_frozen BK200.out 0
                        have hfz49_1 := blk_frozen BK200.out 1
                        have hcz50_0 : w42.cell? ⟨gb204, 0, none⟩ = some (.int .u64 t201) := (blk_cell BK204.out 0).trans rfl
                        have hcz50_1 : w42.cell? ⟨gb204, 1, none⟩ = some (.int .u64 t202) := (blk_cell BK204.out 1).trans rfl
                        have hfz50_0 := blk_frozen BK204.out 0
                        have hfz50_1 := blk_frozen BK204.out 1
                        go_wp2
                        go_meet
                        case rel => exact ⟨_, ((t207 != t210)), (by first | rfl | (simp; done) | (simp [*]; done)), H', ⟨by have := HJ2.out; have := HJ12.out; have := HJ19.out; first | omega | exact Nat.le_refl _⟩, ⟨by (with_reducible repeat (first | refine blk_drewN ?_ _ | refine blk_drew ?_ | refine blk_alloc ?_ _)); refine blk_far ?_ NB200_204.out _; (with_reducible repeat (first | refine blk_drewN ?_ _ | refine blk_drew ?_ | refine blk_alloc ?_ _)); refine blk_far ?_ NB200_204.out _; (with_reducible repeat (first | refine blk_drewN ?_ _ | refine blk_drew ?_ | refine blk_alloc ?_ _)); exact BK200.out⟩, ⟨by (with_reducible repeat (first | refine blk_drewN ?_ _ | refine blk_drew ?_ | refine blk_alloc ?_ _)); refine blk_put (cs := #[.int .u64 t208, .int .u64 t202]) ?_ 1 _ rfl; (with_reducible repeat (first | refine blk_drewN ?_ _ | refine blk_drew ?_ | refine blk_alloc ?_ _)); refine blk_put (cs := #[.int .u64 t201, .int .u64 t202]) ?_ 0 _ rfl; (with_reducible repeat (first | refine blk_drewN ?_ _ | refine blk_drew ?_ | refine blk_alloc ?_ _)); exact BK204.out⟩, ⟨by repeat (first | (with_reducible first | exact HB.out | apply below_alloc | apply pw_below_drewN | apply below_drew1 | refine below_set ?_ GE200.out | refine below_set ?_ GE204.out) | exact HB.out)⟩⟩
                    case rest =>
                      clear HC38
                      try clear c1
                      try clear c2
                      try clear p2
                      try clear c3
                      try clear c4
                      try clear c5
                      try clear c8
                      try clear c9
                      try clear c10
                      try clear c11
                      try clear c12
                      try clear c13
                      try clear c14
                      try clear c16
                      try clear c16b0
                      try clear c16b1
                      try clear c17
                      try clear c26
                      try clear c28
                      try clear c28b0
                      try clear c29
                      try clear c32
                      try clear c35
                      try clear c40
                      try clear c44
                      try clear c44b0
                      try clear c45
                      try clear c48
                      try clear hcz23_0
                      try clear hcz23_1
                      try clear hcz27_0
                      try clear hcz27_1
                      try clear hcz30_0
                      try clear hcz30_1
                      try clear hcz31_0
                      try clear hcz31_1
                      try clear hcz33_0
                      try clear hcz33_1
                      try clear hcz34_0
                      try clear hcz34_1
                      try clear hcz41_0
                      try clear hcz41_1
                      try clear hcz43_0
                      try clear hcz43_1
                      try clear hcz46_0
                      try clear hcz46_1
                      try clear hcz47_0
                      try clear hcz47_1
                      try clear hcz49_0
                      try clear hcz49_1
                      try clear hcz50_0
                      try clear hcz50_1
                      try clear hfz23_0
                      try clear hfz23_1
                      try clear hfz27_0
                      try clear hfz27_1
                      try clear hfz30_0
                      try clear hfz30_1
                      try clear hfz31_0
                      try clear hfz31_1
                      try clear hfz33_0
                      try clear hfz33_1
                      try clear hfz34_0
                      try clear hfz34_1
                      try clear hfz41_0
                      try clear hfz41_1
                      try clear hfz43_0
                      try clear hfz43_1
                      try clear hfz46_0
                      try clear hfz46_1
                      try clear hfz47_0
                      try clear hfz47_1
                      try clear hfz49_0
                      try clear hfz49_1
                      try clear hfz50_0
                      try clear hfz50_1
                      try clear p2
                      obtain ⟨kq, x80_37, rfl, HA, HJ37, BK200, BK204, HB⟩ := hcut
                      cases kq with
                      | zero => exact absurd HA.out (by simp [tenancylaw02_TextGets.j3])
                      | succ kj37 =>
                        have H := HA.out
                        clear HA
                        simp only [tenancylaw02_TextGets.j3] at H
                        by_cases c51 : x80_37 = true
                        · subst c51
                          have H1 : (some false) = some r := by rw [if_pos rfl] at H; exact H
                          clear H
                          have H := H1
                          clear H1
                          obtain rfl := Option.some.inj H
                          go_wp2
                          go_ret
                          exact ⟨by first | rfl | (simp [errW_none, errW_some] <;> rfl) | (simp [*, errW_none, errW_some] <;> rfl), by repeat (first | (with_reducible first | exact HB.out | apply below_alloc | apply pw_below_drewN | apply below_drew1 | refine below_set ?_ GE200.out | refine below_set ?_ GE204.out) | exact HB.out)⟩
                        · replace c51 := Bool.eq_false_iff.mpr c51
                          subst c51
                          have H1 : ((text_GetPrefix.f kj37 a0 a1).bind fun bt211 => ((tenancyref02_GetPrefix.f kj37 a0 a1).bind fun bt216 => (if ((!(bt211.1 == bt216.1) || (!(bt211.2.1 == bt216.2.1))) || (!(bt211.2.2.1 == bt216.2.2.1))) = true then (tenancylaw02_TextGets.j4 kj37 a1 true) else (tenancylaw02_TextGets.j4 kj37 a1 (bt211.2.2.2 != bt216.2.2.2))))) = some r := by rw [if_neg (show ¬ (false = true) by decide)] at H; exact H
                          clear H
                          have H := H1
                          clear H1
                          replace H := Option.bind_eq_some_iff.mp H
                          obtain ⟨⟨t211, t212, t213, t214⟩, A520, H⟩ := H
                          replace H : ((tenancyref02_GetPrefix.f kj37 a0 a1).bind fun bt216 => (if ((!(t211 == bt216.1) || (!(t212 == bt216.2.1))) || (!(t213 == bt216.2.2.1))) = true then (tenancylaw02_TextGets.j4 kj37 a1 true) else (tenancylaw02_TextGets.j4 kj37 a1 (t214 != bt216.2.2.2)))) = some r := H
                          have A52 := Aside0.mk A520
                          clear A520
                          replace H := Option.bind_eq_some_iff.mp H
                          obtain ⟨⟨t216, t217, t218, t219⟩, A530, H⟩ := H
                          replace H : (if ((!(t211 == t216) || (!(t212 == t217))) || (!(t213 == t218))) = true then (tenancylaw02_TextGets.j4 kj37 a1 true) else (tenancylaw02_TextGets.j4 kj37 a1 (t214 != t219))) = some r := H
                          have A53 := Aside0.mk A530
                          clear A530
                          have HC54 := Aside0.mk H
                          clear H
                          go_upto_region 17 with (first | ((with_reducible refine gate_callee (f := 15) rfl ?_); refine goesL_ (some 84) rfl rfl Tryd.func15 (by kernel_rfl) rfl #[.int .i64 a0, .string a1] rfl (by (try simp only [List.map_toArray, List.map_cons, List.map_nil]); first | done | rfl | (simp only [List.length_drop, List.length_take]; rfl)) ?_; (with_reducible refine (text_GetPrefix.calls kj37 a0 a1 t211 t212 t213 t214 _ ⟨Glob.below hG.out (by repeat (first | (with_reducible first | exact HB.out | apply below_alloc | apply pw_below_drewN | apply below_drew1 | refine below_set ?_ GE200.out | refine below_set ?_ GE204.out) | exact HB.out))⟩ A52.out).mono ?_); rintro e w55 ⟨rfl, hb⟩; refine ⟨_, rfl, ?_⟩; have n0_ := Aside0.mk (blk_below (g := gb200) (o := .cells #[.int .u64 t205, .int .u64 t206] 28 (0, 0)) (by (with_reducible repeat (first | refine blk_drewN ?_ _ | refine blk_drew ?_ | refine blk_alloc ?_ _)); exact BK200.out) hb); have n1_ := Aside0.mk (blk_below (g := gb204) (o := .cells #[.int .u64 t208, .int .u64 t209] 28 (0, 0)) (by (with_reducible repeat (first | refine blk_drewN ?_ _ | refine blk_drew ?_ | refine blk_alloc ?_ _)); exact BK204.out) hb); have n2_ := Aside0.mk (below_step (by repeat (first | (with_reducible first | exact HB.out | apply below_alloc | apply pw_below_drewN | apply below_drew1 | refine below_set ?_ GE200.out | refine below_set ?_ GE204.out) | exact HB.out)) hb); clear BK200; clear BK204; clear HB; have BK200 := n0_; have BK204 := n1_; have HB := n2_; clear n0_ n1_ n2_; (try clear hb); (try clear hb2); (try clear hk); (try clear hi)) | ((with_reducible refine gate_dst (N := 11) rfl ?_); (try (refine gate_guard (by rfl) ?_; dsimp only)); refine box_event ?hg (N := 11) ?hd (cs := #[.int .u64 0, .int .u64 0, .int .i64 0]) (t := 33) ?hr ?_; (case hd => rfl); (case hg => rfl); (case hr => first | (go_simp; done) | (go_simp; rfl)); intro gb215 hg w56 hbox hb; have n0_ := Aside0.mk (blk_below (g := gb200) (o := .cells #[.int .u64 t205, .int .u64 t206] 28 (0, 0)) (by (with_reducible repeat (first | refine blk_drewN ?_ _ | refine blk_drew ?_ | refine blk_alloc ?_ _)); exact BK200.out) hb); have n1_ := Aside0.mk (blk_below (g := gb204) (o := .cells #[.int .u64 t208, .int .u64 t209] 28 (0, 0)) (by (with_reducible repeat (first | refine blk_drewN ?_ _ | refine blk_drew ?_ | refine blk_alloc ?_ _)); exact BK204.out) hb); have n2_ := Aside0.mk (below_step (by repeat (first | (with_reducible first | exact HB.out | apply below_alloc | apply pw_below_drewN | apply below_drew1 | refine below_set ?_ GE200.out | refine below_set ?_ GE204.out) | exact HB.out)) hb); have n3_ := Aside0.mk (hbox); have n4_ := Aside0.mk ((by rw [hg]; exact (below_size (by repeat (first | (with_reducible first | exact HB.out | apply below_alloc | apply pw_below_drewN | apply below_drew1 | refine below_set ?_ GE200.out | refine below_set ?_ GE204.out) | exact HB.out))) : w.heap.size ≤ gb215)); have n5_ := Aside0.mk ((by rw [hg]; exact (below_size (by repeat (first | (with_reducible first | exact HB.out | apply below_alloc | apply pw_below_drewN | apply below_drew1 | refine below_set ?_ GE200.out | refine below_set ?_ GE204.out) | exact HB.out))) : w.heap.size ≤ gb215)); have n6_ := Aside0.mk ((by rw [hg]; exact Nat.ne_of_lt (blk_lt (g := gb200) (o := .cells #[.int .u64 t205, .int .u64 t206] 28 (0, 0)) (by (with_reducible repeat (first | refine blk_drewN ?_ _ | refine blk_drew ?_ | refine blk_alloc ?_ _)); exact BK200.out)) : gb200 ≠ gb215)); have n7_ := Aside0.mk ((by rw [hg]; exact Nat.ne_of_gt (blk_lt (g := gb200) (o := .cells #[.int .u64 t205, .int .u64 t206] 28 (0, 0)) (by (with_reducible repeat (first | refine blk_drewN ?_ _ | refine blk_drew ?_ | refine blk_alloc ?_ _)); exact BK200.out)) : gb215 ≠ gb200)); have n8_ := Aside0.mk ((by rw [hg]; exact Nat.ne_of_lt (blk_lt (g := gb204) (o := .cells #[.int .u64 t208, .int .u64 t209] 28 (0, 0)) (by (with_reducible repeat (first | refine blk_drewN ?_ _ | refine blk_drew ?_ | refine blk_alloc ?_ _)); exact BK204.out)) : gb204 ≠ gb215)); have n9_ := Aside0.mk ((by rw [hg]; exact Nat.ne_of_gt (blk_lt (g := gb204) (o := .cells #[.int .u64 t208, .int .u64 t209] 28 (0, 0)) (by (with_reducible repeat (first | refine blk_drewN ?_ _ | refine blk_drew ?_ | refine blk_alloc ?_ _)); exact BK204.out)) : gb215 ≠ gb204)); clear BK200; clear BK204; clear HB; have BK200 := n0_; have BK204 := n1_; have HB := n2_; have BK215 := n3_; have GW215 := n4_; have GE215 := n5_; have NB200_215 := n6_; have NB215_200 := n7_; have NB204_215 := n8_; have NB215_204 := n9_; clear n0_ n1_ n2_ n3_ n4_ n5_ n6_ n7_ n8_ n9_; clear hb hbox hg; have hnb57 := NB215_200.out; have hnc57 := NB200_215.out; have hnb58 := NB215_204.out; have hnc58 := NB204_215.out; have hcz59_0 : w56.cell? ⟨gb215, 0, none⟩ = some (.int .u64 0) := (blk_cell BK215.out 0).trans rfl; have hcz59_1 : w56.cell? ⟨gb215, 1, none⟩ = some (.int .u64 0) := (blk_cell BK215.out 1).trans rfl; have hcz59_2 : w56.cell? ⟨gb215, 2, none⟩ = some (.int .i64 0) := (blk_cell BK215.out 2).trans rfl; have hdd59 : ∀ (x y z u : Value), ((((w56.setCell ⟨gb215, 0, none⟩ x).setCell ⟨gb215, 1, none⟩ y).setCell ⟨gb215, 2, none⟩ z).setCell ⟨gb215, 2, none⟩ u).cell? ⟨gb215, 2, none⟩ = some u := fun x y z u => dd4 BK215.out x y z u; have hfz59_0 := blk_frozen BK215.out 0; have hfz59_1 := blk_frozen BK215.out 1; have hfz59_2 := blk_frozen BK215.out 2) | ((with_reducible refine gate_callee (f := 16) rfl ?_); refine goesL_ (some 90) rfl rfl Tryd.func16 (by kernel_rfl) rfl #[.int .i64 a0, .string a1] rfl (by (try simp only [List.map_toArray, List.map_cons, List.map_nil]); first | done | rfl | (simp only [List.length_drop, List.length_take]; rfl)) ?_; (with_reducible refine (tenancyref02_GetPrefix.calls kj37 a0 a1 t216 t217 t218 t219 _ A53.out).mono ?_); rintro e w60 ⟨rfl, hb⟩; refine ⟨_, rfl, ?_⟩; have n0_ := Aside0.mk (blk_below (g := gb200) (o := .cells #[.int .u64 t205, .int .u64 t206] 28 (0, 0)) (by (with_reducible repeat (first | refine blk_drewN ?_ _ | refine blk_drew ?_ | refine blk_alloc ?_ _)); refine blk_far ?_ NB200_215.out _; (with_reducible repeat (first | refine blk_drewN ?_ _ | refine blk_drew ?_ | refine blk_alloc ?_ _)); refine blk_far ?_ NB200_215.out _; (with_reducible repeat (first | refine blk_drewN ?_ _ | refine blk_drew ?_ | refine blk_alloc ?_ _)); refine blk_far ?_ NB200_215.out _; (with_reducible repeat (first | refine blk_drewN ?_ _ | refine blk_drew ?_ | refine blk_alloc ?_ _)); exact BK200.out) hb); have n1_ := Aside0.mk (blk_below (g := gb204) (o := .cells #[.int .u64 t208, .int .u64 t209] 28 (0, 0)) (by (with_reducible repeat (first | refine blk_drewN ?_ _ | refine blk_drew ?_ | refine blk_alloc ?_ _)); refine blk_far ?_ NB204_215.out _; (with_reducible repeat (first | refine blk_drewN ?_ _ | refine blk_drew ?_ | refine blk_alloc ?_ _)); refine blk_far ?_ NB204_215.out _; (with_reducible repeat (first | refine blk_drewN ?_ _ | refine blk_drew ?_ | refine blk_alloc ?_ _)); refine blk_far ?_ NB204_215.out _; (with_reducible repeat (first | refine blk_drewN ?_ _ | refine blk_drew ?_ | refine blk_alloc ?_ _)); exact BK204.out) hb); have n2_ := Aside0.mk (blk_below (g := gb215) (o := .cells #[.int .u64 t211, .int .u64 t212, .int .i64 t213] 33 (0, 0)) (by (with_reducible repeat (first | refine blk_drewN ?_ _ | refine blk_drew ?_ | refine blk_alloc ?_ _)); refine blk_put (cs := #[.int .u64 t211, .int .u64 t212, .int .i64 0]) ?_ 2 _ rfl; (with_reducible repeat (first | refine blk_drewN ?_ _ | refine blk_drew ?_ | refine blk_alloc ?_ _)); refine blk_put (cs := #[.int .u64 t211, .int .u64 0, .int .i64 0]) ?_ 1 _ rfl; (with_reducible repeat (first | refine blk_drewN ?_ _ | refine blk_drew ?_ | refine blk_alloc ?_ _)); refine blk_put (cs := #[.int .u64 0, .int .u64 0, .int .i64 0]) ?_ 0 _ rfl; (with_reducible repeat (first | refine blk_drewN ?_ _ | refine blk_drew ?_ | refine blk_alloc ?_ _)); exact BK215.out) hb); have n3_ := Aside0.mk (below_step (by repeat (first | (with_reducible first | exact HB.out | apply below_alloc | apply pw_below_drewN | apply below_drew1 | refine below_set ?_ GE200.out | refine below_set ?_ GE204.out | refine below_set ?_ GE215.out) | exact HB.out)) hb); clear BK200; clear BK204; clear BK215; clear HB; have BK200 := n0_; have BK204 := n1_; have BK215 := n2_; have HB := n3_; clear n0_ n1_ n2_ n3_; (try clear hb); (try clear hb2); (try clear hk); (try clear hi)) | ((with_reducible refine gate_dst (N := 12) rfl ?_); (try (refine gate_guard (by rfl) ?_; dsimp only)); refine box_event ?hg (N := 12) ?hd (cs := #[.int .u64 0, .int .u64 0, .int .i64 0]) (t := 33) ?hr ?_; (case hd => rfl); (case hg => rfl); (case hr => first | (go_simp; done) | (go_simp; rfl)); intro gb220 hg w61 hbox hb; have n0_ := Aside0.mk (blk_below (g := gb200) (o := .cells #[.int .u64 t205, .int .u64 t206] 28 (0, 0)) (by (with_reducible repeat (first | refine blk_drewN ?_ _ | refine blk_drew ?_ | refine blk_alloc ?_ _)); exact BK200.out) hb); have n1_ := Aside0.mk (blk_below (g := gb204) (o := .cells #[.int .u64 t208, .int .u64 t209] 28 (0, 0)) (by (with_reducible repeat (first | refine blk_drewN ?_ _ | refine blk_drew ?_ | refine blk_alloc ?_ _)); exact BK204.out) hb); have n2_ := Aside0.mk (blk_below (g := gb215) (o := .cells #[.int .u64 t211, .int .u64 t212, .int .i64 t213] 33 (0, 0)) (by (with_reducible repeat (first | refine blk_drewN ?_ _ | refine blk_drew ?_ | refine blk_alloc ?_ _)); exact BK215.out) hb); have n3_ := Aside0.mk (below_step (by repeat (first | (with_reducible first | exact HB.out | apply below_alloc | apply pw_below_drewN | apply below_drew1 | refine below_set ?_ GE200.out | refine below_set ?_ GE204.out | refine below_set ?_ GE215.out) | exact HB.out)) hb); have n4_ := Aside0.mk (hbox); have n5_ := Aside0.mk ((by rw [hg]; exact (below_size (by repeat (first | (with_reducible first | exact HB.out | apply below_alloc | apply pw_below_drewN | apply below_drew1 | refine below_set ?_ GE200.out | refine below_set ?_ GE204.out | refine below_set ?_ GE215.out) | exact HB.out))) : w.heap.size ≤ gb220)); have n6_ := Aside0.mk ((by rw [hg]; exact (below_size (by repeat (first | (with_reducible first | exact HB.out | apply below_alloc | apply pw_below_drewN | apply below_drew1 | refine below_set ?_ GE200.out | refine below_set ?_ GE204.out | refine below_set ?_ GE215.out) | exact HB.out))) : w.heap.size ≤ gb220)); have n7_ := Aside0.mk ((by rw [hg]; exact Nat.ne_of_lt (blk_lt (g := gb200) (o := .cells #[.int .u64 t205, .int .u64 t206] 28 (0, 0)) (by (with_reducible repeat (first | refine blk_drewN ?_ _ | refine blk_drew ?_ | refine blk_alloc ?_ _)); exact BK200.out)) : gb200 ≠ gb220)); have n8_ := Aside0.mk ((by rw [hg]; exact Nat.ne_of_gt (blk_lt (g := gb200) (o := .cells #[.int .u64 t205, .int .u64 t206] 28 (0, 0)) (by (with_reducible repeat (first | refine blk_drewN ?_ _ | refine blk_drew ?_ | refine blk_alloc ?_ _)); exact BK200.out)) : gb220 ≠ gb200)); have n9_ := Aside0.mk ((by rw [hg]; exact Nat.ne_of_lt (blk_lt (g := gb204) (o := .cells #[.int .u64 t208, .int .u64 t209] 28 (0, 0)) (by (with_reducible repeat (first | refine blk_drewN ?_ _ | refine blk_drew ?_ | refine blk_alloc ?_ _)); exact BK204.out)) : gb204 ≠ gb220)); have n10_ := Aside0.mk ((by rw [hg]; exact Nat.ne_of_gt (blk_lt (g := gb204) (o := .cells #[.int .u64 t208, .int .u64 t209] 28 (0, 0)) (by (with_reducible repeat (first | refine blk_drewN ?_ _ | refine blk_drew ?_ | refine blk_alloc ?_ _)); exact BK204.out)) : gb220 ≠ gb204)); have n11_ := Aside0.mk ((by rw [hg]; exact Nat.ne_of_lt (blk_lt (g := gb215) (o := .cells #[.int .u64 t211, .int .u64 t212, .int .i64 t213] 33 (0, 0)) (by (with_reducible repeat (first | refine blk_drewN ?_ _ | refine blk_drew ?_ | refine blk_alloc ?_ _)); exact BK215.out)) : gb215 ≠ gb220)); have n12_ := Aside0.mk ((by rw [hg]; exact Nat.ne_of_gt (blk_lt (g := gb215) (o := .cells #[.int .u64 t211, .int .u64 t212, .int .i64 t213] 33 (0, 0)) (by (with_reducible repeat (first | refine blk_drewN ?_ _ | refine blk_drew ?_ | refine blk_alloc ?_ _)); exact BK215.out)) : gb220 ≠ gb215)); clear BK200; clear BK204; clear BK215; clear HB; have BK200 := n0_; have BK204 := n1_; have BK215 := n2_; have HB := n3_; have BK220 := n4_; have GW220 := n5_; have GE220 := n6_; have NB200_220 := n7_; have NB220_200 := n8_; have NB204_220 := n9_; have NB220_204 := n10_; have NB215_220 := n11_; have NB220_215 := n12_; clear n0_ n1_ n2_ n3_ n4_ n5_ n6_ n7_ n8_ n9_ n10_ n11_ n12_; clear hb hbox hg; have hnb62 := NB220_200.out; have hnc62 := NB200_220.out; have hnb63 := NB220_204.out; have hnc63 := NB204_220.out; have hnb64 := NB220_215.out; have hnc64 := NB215_220.out; have hcz65_0 : w61.cell? ⟨gb220, 0, none⟩ = some (.int .u64 0) := (blk_cell BK220.out 0).trans rfl; have hcz65_1 : w61.cell? ⟨gb220, 1, none⟩ = some (.int .u64 0) := (blk_cell BK220.out 1).trans rfl; have hcz65_2 : w61.cell? ⟨gb220, 2, none⟩ = some (.int .i64 0) := (blk_cell BK220.out 2).trans rfl; have hdd65 : ∀ (x y z u : Value), ((((w61.setCell ⟨gb220, 0, none⟩ x).setCell ⟨gb220, 1, none⟩ y).setCell ⟨gb220, 2, none⟩ z).setCell ⟨gb220, 2, none⟩ u).cell? ⟨gb220, 2, none⟩ = some u := fun x y z u => dd4 BK220.out x y z u; have hfz65_0 := blk_frozen BK220.out 0; have hfz65_1 := blk_frozen BK220.out 1; have hfz65_2 := blk_frozen BK220.out 2))
                          (try simp only [Act.put, List.setIfInBounds_toArray, List.set_cons_zero, List.set_cons_succ])
                          go_cut [100] (fun v100 wc => ∃ (kq : Nat) (x100_53 : Bool), v100 = .bool x100_53 ∧ Aside0 (tenancylaw02_TextGets.j4 kq a1 x100_53 = some r) ∧ Aside0 (kq ≤ kj37) ∧ Aside0 (wc.heap[gb200]? = some (.cells #[.int .u64 t205, .int .u64 t206] 28 (0, 0))) ∧ Aside0 (wc.heap[gb204]? = some (.cells #[.int .u64 t208, .int .u64 t209] 28 (0, 0))) ∧ Aside0 (wc.heap[gb215]? = some (.cells #[.int .u64 t211, .int .u64 t212, .int .i64 t213] 33 (0, 0))) ∧ Aside0 (wc.heap[gb220]? = some (.cells #[.int .u64 t216, .int .u64 t217, .int .i64 t218] 33 (0, 0))) ∧ Aside0 (Below w.heap.size w wc))
                          case first =>
                            have H := HC54.out
                            clear HC54
                            by_cases c66 : ((!(t211 == t216) || (!(t212 == t217))) || (!(t213 == t218))) = true
                            · rw [if_pos c66] at H
                              have c66b0 : ((!(t211 == t216) || (!(t212 == t217))) || (!(t213 == t218))) = true := c66
                              clear c66
                              (first | rw [c66b0] | (simp only [i64_w, i32_w]; rw [c66b0]) | skip)
                              have H' := Aside0.mk H
                              clear H
                              have hnb67 := NB215_200.out
                              have hnc67 := NB200_215.out
                              have hnb68 := NB215_204.out
                              have hnc68 := NB204_215.out
                              have hnb69 := NB215_220.out
                              have hnc69 := NB220_215.out
                              have hcz70_0 : w61.cell? ⟨gb215, 0, none⟩ = some (.int .u64 t211) := (blk_cell BK215.out 0).trans rfl
                              have hcz70_1 : w61.cell? ⟨gb215, 1, none⟩ = some (.int .u64 t212) := (blk_cell BK215.out 1).trans rfl
                              have hcz70_2 : w61.cell? ⟨gb215, 2, none⟩ = some (.int .i64 t213) := (blk_cell BK215.out 2).trans rfl
                              have hfz70_0 := blk_frozen BK215.out 0
                              have hfz70_1 := blk_frozen BK215.out 1
                              have hfz70_2 := blk_frozen BK215.out 2
                              have hnb71 := NB220_200.out
                              have hnc71 := NB200_220.out
                              have hnb72 := NB220_204.out
                              have hnc72 := NB204_220.out
                              have hcz73_0 : w61.cell? ⟨gb220, 0, none⟩ = some (.int .u64 0) := (blk_cell BK220.out 0).trans rfl
                              have hcz73_1 : w61.cell? ⟨gb220, 1, none⟩ = some (.int .u64 0) := (blk_cell BK220.out 1).trans rfl
                              have hcz73_2 : w61.cell? ⟨gb220, 2, none⟩ = some (.int .i64 0) := (blk_cell BK220.out 2).trans rfl; have hdd73 : ∀ (x y z u : Value), ((((w61.setCell ⟨gb220, 0, none⟩ x).setCell ⟨gb220, 1, none⟩ y).setCell ⟨gb220, 2, none⟩ z).setCell ⟨gb220, 2, none⟩ u).cell? ⟨gb220, 2, none⟩ = some u := fun x y z u => dd4 BK220.out x y z u
                              have hfz73_0 := blk_frozen BK220.out 0
                              have hfz73_1 := blk_frozen BK220.out 1
                              have hfz73_2 := blk_frozen BK220.out 2
                              go_wp2
                              go_meet
                              case rel => exact ⟨_, (true), (by first | rfl | (simp; done) | (simp [*]; done)), H', ⟨by have := HJ2.out; have := HJ12.out; have := HJ19.out; have := HJ37.out; first | omega | exact Nat.le_refl _⟩, ⟨by (with_reducible repeat (first | refine blk_drewN ?_ _ | refine blk_drew ?_ | refine blk_alloc ?_ _)); refine blk_far ?_ NB200_220.out _; (with_reducible repeat (first | refine blk_drewN ?_ _ | refine blk_drew ?_ | refine blk_alloc ?_ _)); refine blk_far ?_ NB200_220.out _; (with_reducible repeat (first | refine blk_drewN ?_ _ | refine blk_drew ?_ | refine blk_alloc ?_ _)); refine blk_far ?_ NB200_220.out _; (with_reducible repeat (first | refine blk_drewN ?_ _ | refine blk_drew ?_ | refine blk_alloc ?_ _)); exact BK200.out⟩, ⟨by (with_reducible repeat (first | refine blk_drewN ?_ _ | refine blk_drew ?_ | refine blk_alloc ?_ _)); refine blk_far ?_ NB204_220.out _; (with_reducible repeat (first | refine blk_drewN ?_ _ | refine blk_drew ?_ | refine blk_alloc ?_ _)); refine blk_far ?_ NB204_220.out _; (with_reducible repeat (first | refine blk_drewN ?_ _ | refine blk_drew ?_ | refine blk_alloc ?_ _)); refine blk_far ?_ NB204_220.out _; (with_reducible repeat (first | refine blk_drewN ?_ _ | refine blk_drew ?_ | refine blk_alloc ?_ _)); exact BK204.out⟩, ⟨by (with_reducible repeat (first | refine blk_drewN ?_ _ | refine blk_drew ?_ | refine blk_alloc ?_ _)); refine blk_far ?_ NB215_220.out _; (with_reducible repeat (first | refine blk_drewN ?_ _ | refine blk_drew ?_ | refine blk_alloc ?_ _)); refine blk_far ?_ NB215_220.out _; (with_reducible repeat (first | refine blk_drewN ?_ _ | refine blk_drew ?_ | refine blk_alloc ?_ _)); refine blk_far ?_ NB215_220.out _; (with_reducible repeat (first | refine blk_drewN ?_ _ | refine blk_drew ?_ | refine blk_alloc ?_ _)); exact BK215.out⟩, ⟨by (with_reducible repeat (first | refine blk_drewN ?_ _ | refine blk_drew ?_ | refine blk_alloc ?_ _)); refine blk_put (cs := #[.int .u64 t216, .int .u64 t217, .int .i64 0]) ?_ 2 _ rfl; (with_reducible repeat (first | refine blk_drewN ?_ _ | refine blk_drew ?_ | refine blk_alloc ?_ _)); refine blk_put (cs := #[.int .u64 t216, .int .u64 0, .int .i64 0]) ?_ 1 _ rfl; (with_reducible repeat (first | refine blk_drewN ?_ _ | refine blk_drew ?_ | refine blk_alloc ?_ _)); refine blk_put (cs := #[.int .u64 0, .int .u64 0, .int .i64 0]) ?_ 0 _ rfl; (with_reducible repeat (first | refine blk_drewN ?_ _ | refine blk_drew ?_ | refine blk_alloc ?_ _)); exact BK220.out⟩, ⟨by repeat (first | (with_reducible first | exact HB.out | apply below_alloc | apply pw_below_drewN | apply below_drew1 | refine below_set ?_ GE200.out | refine below_set ?_ GE204.out | refine below_set ?_ GE215.out | refine below_set ?_ GE220.out) | exact HB.out)⟩⟩
                            · rw [if_neg c66] at H
                              have c66b0 : ((!(t211 == t216) || (!(t212 == t217))) || (!(t213 == t218))) = false := by simpa using c66
                              clear c66
                              (first | rw [c66b0] | (simp only [i64_w, i32_w]; rw [c66b0]) | skip)
                              have H' := Aside0.mk H
                              clear H
                              have hnb74 := NB215_200.out
                              have hnc74 := NB200_215.out
                              have hnb75 := NB215_204.out
                              have hnc75 := NB204_215.out
                              have hnb76 := NB215_220.out
                              have hnc76 := NB220_215.out
                              have hcz77_0 : w61.cell? ⟨gb215, 0, none⟩ = some (.int .u64 t211) := (blk_cell BK215.out 0).trans rfl
                              have hcz77_1 : w61.cell? ⟨gb215, 1, none⟩ = some (.int .u64 t212) := (blk_cell BK215.out 1).trans rfl
                              have hcz77_2 : w61.cell? ⟨gb215, 2, none⟩ = some (.int .i64 t213) := (blk_cell BK215.out 2).trans rfl
                              have hfz77_0 := blk_frozen BK215.out 0
                              have hfz77_1 := blk_frozen BK215.out 1
                              have hfz77_2 := blk_frozen BK215.out 2
                              have hnb78 := NB220_200.out
                              have hnc78 := NB200_220.out
                              have hnb79 := NB220_204.out
                              have hnc79 := NB204_220.out
                              have hcz80_0 : w61.cell? ⟨gb220, 0, none⟩ = some (.int .u64 0) := (blk_cell BK220.out 0).trans rfl
                              have hcz80_1 : w61.cell? ⟨gb220, 1, none⟩ = some (.int .u64 0) := (blk_cell BK220.out 1).trans rfl
                              have hcz80_2 : w61.cell? ⟨gb220, 2, none⟩ = some (.int .i64 0) := (blk_cell BK220.out 2).trans rfl; have hdd80 : ∀ (x y z u : Value), ((((w61.setCell ⟨gb220, 0, none⟩ x).setCell ⟨gb220, 1, none⟩ y).setCell ⟨gb220, 2, none⟩ z).setCell ⟨gb220, 2, none⟩ u).cell? ⟨gb220, 2, none⟩ = some u := fun x y z u => dd4 BK220.out x y z u
                              have hfz80_0 := blk_frozen BK220.out 0
                              have hfz80_1 := blk_frozen BK220.out 1
                              have hfz80_2 := blk_frozen BK220.out 2
                              go_wp2
                              go_meet
                              case rel => exact ⟨_, ((t214 != t219)), (by first | rfl | (simp; done) | (simp [*]; done)), H', ⟨by have := HJ2.out; have := HJ12.out; have := HJ19.out; have := HJ37.out; first | omega | exact Nat.le_refl _⟩, ⟨by (with_reducible repeat (first | refine blk_drewN ?_ _ | refine blk_drew ?_ | refine blk_alloc ?_ _)); refine blk_far ?_ NB200_220.out _; (with_reducible repeat (first | refine blk_drewN ?_ _ | refine blk_drew ?_ | refine blk_alloc ?_ _)); refine blk_far ?_ NB200_220.out _; (with_reducible repeat (first | refine blk_drewN ?_ _ | refine blk_drew ?_ | refine blk_alloc ?_ _)); refine blk_far ?_ NB200_220.out _; (with_reducible repeat (first | refine blk_drewN ?_ _ | refine blk_drew ?_ | refine blk_alloc ?_ _)); exact BK200.out⟩, ⟨by (with_reducible repeat (first | refine blk_drewN ?_ _ | refine blk_drew ?_ | refine blk_alloc ?_ _)); refine blk_far ?_ NB204_220.out _; (with_reducible repeat (first | refine blk_drewN ?_ _ | refine blk_drew ?_ | refine blk_alloc ?_ _)); refine blk_far ?_ NB204_220.out _; (with_reducible repeat (first | refine blk_drewN ?_ _ | refine blk_drew ?_ | refine blk_alloc ?_ _)); refine blk_far ?_ NB204_220.out _; (with_reducible repeat (first | refine blk_drewN ?_ _ | refine blk_drew ?_ | refine blk_alloc ?_ _)); exact BK204.out⟩, ⟨by (with_reducible repeat (first | refine blk_drewN ?_ _ | refine blk_drew ?_ | refine blk_alloc ?_ _)); refine blk_far ?_ NB215_220.out _; (with_reducible repeat (first | refine blk_drewN ?_ _ | refine blk_drew ?_ | refine blk_alloc ?_ _)); refine blk_far ?_ NB215_220.out _; (with_reducible repeat (first | refine blk_drewN ?_ _ | refine blk_drew ?_ | refine blk_alloc ?_ _)); refine blk_far ?_ NB215_220.out _; (with_reducible repeat (first | refine blk_drewN ?_ _ | refine blk_drew ?_ | refine blk_alloc ?_ _)); exact BK215.out⟩, ⟨by (with_reducible repeat (first | refine blk_drewN ?_ _ | refine blk_drew ?_ | refine blk_alloc ?_ _)); refine blk_put (cs := #[.int .u64 t216, .int .u64 t217, .int .i64 0]) ?_ 2 _ rfl; (with_reducible repeat (first | refine blk_drewN ?_ _ | refine blk_drew ?_ | refine blk_alloc ?_ _)); refine blk_put (cs := #[.int .u64 t216, .int .u64 0, .int .i64 0]) ?_ 1 _ rfl; (with_reducible repeat (first | refine blk_drewN ?_ _ | refine blk_drew ?_ | refine blk_alloc ?_ _)); refine blk_put (cs := #[.int .u64 0, .int .u64 0, .int .i64 0]) ?_ 0 _ rfl; (with_reducible repeat (first | refine blk_drewN ?_ _ | refine blk_drew ?_ | refine blk_alloc ?_ _)); exact BK220.out⟩, ⟨by repeat (first | (with_reducible first | exact HB.out | apply below_alloc | apply pw_below_drewN | apply below_drew1 | refine below_set ?_ GE200.out | refine below_set ?_ GE204.out | refine below_set ?_ GE215.out | refine below_set ?_ GE220.out) | exact HB.out)⟩⟩
                          case rest =>
                            clear HC54
                            try clear c1
                            try clear c2
                            try clear p2
                            try clear c3
                            try clear c4
                            try clear c5
                            try clear c6
                            try clear c7
                            try clear c8
                            try clear c9
                            try clear c10
                            try clear c11
                            try clear c12
                            try clear c13
                            try clear c14
                            try clear c15
                            try clear c16
                            try clear c16b0
                            try clear c16b1
                            try clear c17
                            try clear c26
                            try clear c28
                            try clear c28b0
                            try clear c29
                            try clear c32
                            try clear c35
                            try clear c40
                            try clear c44
                            try clear c44b0
                            try clear c45
                            try clear c48
                            try clear c51
                            try clear c57
                            try clear c58
                            try clear c62
                            try clear c63
                            try clear c64
                            try clear c66
                            try clear c66b0
                            try clear c67
                            try clear c68
                            try clear c69
                            try clear c71
                            try clear c72
                            try clear c74
                            try clear c75
                            try clear c76
                            try clear c78
                            try clear c79
                            try clear hcz23_0
                            try clear hcz23_1
                            try clear hcz27_0
                            try clear hcz27_1
                            try clear hcz30_0
                            try clear hcz30_1
                            try clear hcz31_0
                            try clear hcz31_1
                            try clear hcz33_0
                            try clear hcz33_1
                            try clear hcz34_0
                            try clear hcz34_1
                            try clear hcz41_0
                            try clear hcz41_1
                            try clear hcz43_0
                            try clear hcz43_1
                            try clear hcz46_0
                            try clear hcz46_1
                            try clear hcz47_0
                            try clear hcz47_1
                            try clear hcz49_0
                            try clear hcz49_1
                            try clear hcz50_0
                            try clear hcz50_1
                            try clear hcz59_0
                            try clear hcz59_1
                            try clear hcz59_2
                            try clear hcz65_0
                            try clear hcz65_1
                            try clear hcz65_2
                            try clear hcz70_0
                            try clear hcz70_1
                            try clear hcz70_2
                            try clear hcz73_0
                            try clear hcz73_1
                            try clear hcz73_2
                            try clear hcz77_0
                            try clear hcz77_1
                            try clear hcz77_2
                            try clear hcz80_0
                            try clear hcz80_1
                            try clear hcz80_2
                            try clear hfz23_0
                            try clear hfz23_1
                            try clear hfz27_0
                            try clear hfz27_1
                            try clear hfz30_0
                            try clear hfz30_1
                            try clear hfz31_0
                            try clear hfz31_1
                            try clear hfz33_0
                            try clear hfz33_1
                            try clear hfz34_0
                            try clear hfz34_1
                            try clear hfz41_0
                            try clear hfz41_1
                            try clear hfz43_0
                            try clear hfz43_1
                            try clear hfz46_0
                            try clear hfz46_1
                            try clear hfz47_0
                            try clear hfz47_1
                            try clear hfz49_0
                            try clear hfz49_1
                            try clear hfz50_0
                            try clear hfz50_1
                            try clear hfz59_0
                            try clear hfz59_1
                            try clear hfz59_2
                            try clear hfz65_0
                            try clear hfz65_1
                            try clear hfz65_2
                            try clear hfz70_0
                            try clear hfz70_1
                            try clear hfz70_2
                            try clear hfz73_0
                            try clear hfz73_1
                            try clear hfz73_2
                            try clear hfz77_0
                            try clear hfz77_1
                            try clear hfz77_2
                            try clear hfz80_0
                            try clear hfz80_1
                            try clear hfz80_2
                            try clear p2
                            obtain ⟨kq, x100_53, rfl, HA, HJ53, BK200, BK204, BK215, BK220, HB⟩ := hcut
                            cases kq with
                            | zero => exact absurd HA.out (by simp [tenancylaw02_TextGets.j4])
                            | succ kj53 =>
                              have H := HA.out
                              clear HA
                              simp only [tenancylaw02_TextGets.j4] at H
                              by_cases c81 : x100_53 = true
                              · subst c81
                                have H1 : (some false) = some r := by rw [if_pos rfl] at H; exact H
                                clear H
                                have H := H1
                                clear H1
                                obtain rfl := Option.some.inj H
                                go_wp2
                                go_ret
                                exact ⟨by first | rfl | (simp [errW_none, errW_some] <;> rfl) | (simp [*, errW_none, errW_some] <;> rfl), by repeat (first | (with_reducible first | exact HB.out | apply below_alloc | apply pw_below_drewN | apply below_drew1 | refine below_set ?_ GE200.out | refine below_set ?_ GE204.out | refine below_set ?_ GE215.out | refine below_set ?_ GE220.out) | exact HB.out)⟩
                              · replace c81 := Bool.eq_false_iff.mpr c81
                                subst c81
                                have H1 : ((text_Unhex.f a1).bind fun bt221 => ((tenancyref02_Unhex.f kj53 a1).bind fun bt223 => (if bt221.1.toList = bt223.1.toList then (tenancylaw02_TextGets.j5 kj53 a1 (bt221.2 != bt223.2)) else (tenancylaw02_TextGets.j5 kj53 a1 true)))) = some r := by rw [if_neg (show ¬ (false = true) by decide)] at H; exact H
                                clear H
                                have H := H1
                                clear H1
                                replace H := Option.bind_eq_some_iff.mp H
                                obtain ⟨⟨t221, t222⟩, A820, H⟩ := H
                                replace H : ((tenancyref02_Unhex.f kj53 a1).bind fun bt223 => (if t221.toList = bt223.1.toList then (tenancylaw02_TextGets.j5 kj53 a1 (t222 != bt223.2)) else (tenancylaw02_TextGets.j5 kj53 a1 true))) = some r := H
                                have A82 := Aside0.mk A820
                                clear A820
                                replace H := Option.bind_eq_some_iff.mp H
                                obtain ⟨⟨t223, t224⟩, A830, H⟩ := H
                                replace H : (if t221.toList = t223.toList then (tenancylaw02_TextGets.j5 kj53 a1 (t222 != t224)) else (tenancylaw02_TextGets.j5 kj53 a1 true)) = some r := H
                                have A83 := Aside0.mk A830
                                clear A830
                                have HC84 := Aside0.mk H
                                clear H
                                go_upto_region 21 with (first | ((with_reducible refine gate_callee (f := 17) rfl ?_); refine goesL_ (some 103) rfl rfl Tryd.func17 (by kernel_rfl) rfl #[.string a1] rfl (by (try simp only [List.map_toArray, List.map_cons, List.map_nil]); first | done | rfl | (simp only [List.length_drop, List.length_take]; rfl)) ?_; (with_reducible refine (text_Unhex.calls a1 t221 t222 _ ⟨Glob.below hG.out (by repeat (first | (with_reducible first | exact HB.out | apply below_alloc | apply pw_below_drewN | apply below_drew1 | refine below_set ?_ GE200.out | refine below_set ?_ GE204.out | refine below_set ?_ GE215.out | refine below_set ?_ GE220.out) | exact HB.out))⟩ A82.out).mono ?_); rintro e w85 ⟨rfl, hb⟩; refine ⟨_, rfl, ?_⟩; have n0_ := Aside0.mk (blk_below (g := gb200) (o := .cells #[.int .u64 t205, .int .u64 t206] 28 (0, 0)) (by (with_reducible repeat (first | refine blk_drewN ?_ _ | refine blk_drew ?_ | refine blk_alloc ?_ _)); exact BK200.out) hb); have n1_ := Aside0.mk (blk_below (g := gb204) (o := .cells #[.int .u64 t208, .int .u64 t209] 28 (0, 0)) (by (with_reducible repeat (first | refine blk_drewN ?_ _ | refine blk_drew ?_ | refine blk_alloc ?_ _)); exact BK204.out) hb); have n2_ := Aside0.mk (blk_below (g := gb215) (o := .cells #[.int .u64 t211, .int .u64 t212, .int .i64 t213] 33 (0, 0)) (by (with_reducible repeat (first | refine blk_drewN ?_ _ | refine blk_drew ?_ | refine blk_alloc ?_ _)); exact BK215.out) hb); have n3_ := Aside0.mk (blk_below (g := gb220) (o := .cells #[.int .u64 t216, .int .u64 t217, .int .i64 t218] 33 (0, 0)) (by (with_reducible repeat (first | refine blk_drewN ?_ _ | refine blk_drew ?_ | refine blk_alloc ?_ _)); exact BK220.out) hb); have n4_ := Aside0.mk (below_step (by repeat (first | (with_reducible first | exact HB.out | apply below_alloc | apply pw_below_drewN | apply below_drew1 | refine below_set ?_ GE200.out | refine below_set ?_ GE204.out | refine below_set ?_ GE215.out | refine below_set ?_ GE220.out) | exact HB.out)) hb); clear BK200; clear BK204; clear BK215; clear BK220; clear HB; have BK200 := n0_; have BK204 := n1_; have BK215 := n2_; have BK220 := n3_; have HB := n4_; clear n0_ n1_ n2_ n3_ n4_; (try clear hb); (try clear hb2); (try clear hk); (try clear hi)) | ((with_reducible refine gate_callee (f := 18) rfl ?_); refine goesL_ (some 108) rfl rfl Tryd.func18 (by kernel_rfl) rfl #[.string a1] rfl (by (try simp only [List.map_toArray, List.map_cons, List.map_nil]); first | done | rfl | (simp only [List.length_drop, List.length_take]; rfl)) ?_; (with_reducible refine (tenancyref02_Unhex.calls kj53 a1 t223 t224 _ A83.out).mono ?_); rintro e w86 ⟨rfl, hb⟩; refine ⟨_, rfl, ?_⟩; have n0_ := Aside0.mk (blk_below (g := gb200) (o := .cells #[.int .u64 t205, .int .u64 t206] 28 (0, 0)) (by (with_reducible repeat (first | refine blk_drewN ?_ _ | refine blk_drew ?_ | refine blk_alloc ?_ _)); exact BK200.out) hb); have n1_ := Aside0.mk (blk_below (g := gb204) (o := .cells #[.int .u64 t208, .int .u64 t209] 28 (0, 0)) (by (with_reducible repeat (first | refine blk_drewN ?_ _ | refine blk_drew ?_ | refine blk_alloc ?_ _)); exact BK204.out) hb); have n2_ := Aside0.mk (blk_below (g := gb215) (o := .cells #[.int .u64 t211, .int .u64 t212, .int .i64 t213] 33 (0, 0)) (by (with_reducible repeat (first | refine blk_drewN ?_ _ | refine blk_drew ?_ | refine blk_alloc ?_ _)); exact BK215.out) hb); have n3_ := Aside0.mk (blk_below (g := gb220) (o := .cells #[.int .u64 t216, .int .u64 t217, .int .i64 t218] 33 (0, 0)) (by (with_reducible repeat (first | refine blk_drewN ?_ _ | refine blk_drew ?_ | refine blk_alloc ?_ _)); exact BK220.out) hb); have n4_ := Aside0.mk (below_step (by repeat (first | (with_reducible first | exact HB.out | apply below_alloc | apply pw_below_drewN | apply below_drew1 | refine below_set ?_ GE200.out | refine below_set ?_ GE204.out | refine below_set ?_ GE215.out | refine below_set ?_ GE220.out) | exact HB.out)) hb); clear BK200; clear BK204; clear BK215; clear BK220; clear HB; have BK200 := n0_; have BK204 := n1_; have BK215 := n2_; have BK220 := n3_; have HB := n4_; clear n0_ n1_ n2_ n3_ n4_; (try clear hb); (try clear hb2); (try clear hk); (try clear hi)))
                                (try simp only [Act.put, List.setIfInBounds_toArray, List.set_cons_zero, List.set_cons_succ])
                                go_cut [118] (fun v118 wc => ∃ (kq : Nat) (x118_83 : Bool), v118 = .bool x118_83 ∧ Aside0 (tenancylaw02_TextGets.j5 kq a1 x118_83 = some r) ∧ Aside0 (kq ≤ kj53) ∧ Aside0 (wc.heap[gb200]? = some (.cells #[.int .u64 t205, .int .u64 t206] 28 (0, 0))) ∧ Aside0 (wc.heap[gb204]? = some (.cells #[.int .u64 t208, .int .u64 t209] 28 (0, 0))) ∧ Aside0 (wc.heap[gb215]? = some (.cells #[.int .u64 t211, .int .u64 t212, .int .i64 t213] 33 (0, 0))) ∧ Aside0 (wc.heap[gb220]? = some (.cells #[.int .u64 t216, .int .u64 t217, .int .i64 t218] 33 (0, 0))) ∧ Aside0 (Below w.heap.size w wc))
                                case first =>
                                  have H := HC84.out
                                  clear HC84
                                  by_cases c87 : t221.toList = t223.toList
                                  · rw [if_pos c87] at H
                                    have c87b0 : (t221.toList == t223.toList) = true := beq_iff_eq.mpr c87
                                    have c87b1 : (t221.toList != t223.toList) = false := bne_eq_false_iff_eq.mpr c87
                                    clear c87
                                    (first | rw [c87b0] | (simp only [i64_w, i32_w]; rw [c87b0]) | skip)
                                    have H' := Aside0.mk H
                                    clear H
                                    go_wp2
                                    go_meet
                                    case rel => exact ⟨_, ((t222 != t224)), (by first | rfl | (simp; done) | (simp [*]; done)), H', ⟨by have := HJ2.out; have := HJ12.out; have := HJ19.out; have := HJ37.out; have := HJ53.out; first | omega | exact Nat.le_refl _⟩, ⟨by (with_reducible repeat (first | refine blk_drewN ?_ _ | refine blk_drew ?_ | refine blk_alloc ?_ _)); exact BK200.out⟩, ⟨by (with_reducible repeat (first | refine blk_drewN ?_ _ | refine blk_drew ?_ | refine blk_alloc ?_ _)); exact BK204.out⟩, ⟨by (with_reducible repeat (first | refine blk_drewN ?_ _ | refine blk_drew ?_ | refine blk_alloc ?_ _)); exact BK215.out⟩, ⟨by (with_reducible repeat (first | refine blk_drewN ?_ _ | refine blk_drew ?_ | refine blk_alloc ?_ _)); exact BK220.out⟩, ⟨by repeat (first | (with_reducible first | exact HB.out | apply below_alloc | apply pw_below_drewN | apply below_drew1 | refine below_set ?_ GE200.out | refine below_set ?_ GE204.out | refine below_set ?_ GE215.out | refine below_set ?_ GE220.out) | exact HB.out)⟩⟩
                                  · rw [if_neg c87] at H
                                    have c87b0 : (t221.toList == t223.toList) = false := beq_eq_false_iff_ne.mpr c87
                                    have c87b1 : (t221.toList != t223.toList) = true := bne_iff_ne.mpr c87
                                    (first | rw [c87b0] | (simp only [i64_w, i32_w]; rw [c87b0]) | skip)
                                    have H' := Aside0.mk H
                                    clear H
                                    go_wp2
                                    go_meet
                                    case rel => exact ⟨_, (true), (by first | rfl | (simp; done) | (simp [*]; done)), H', ⟨by have := HJ2.out; have := HJ12.out; have := HJ19.out; have := HJ37.out; have := HJ53.out; first | omega | exact Nat.le_refl _⟩, ⟨by (with_reducible repeat (first | refine blk_drewN ?_ _ | refine blk_drew ?_ | refine blk_alloc ?_ _)); exact BK200.out⟩, ⟨by (with_reducible repeat (first | refine blk_drewN ?_ _ | refine blk_drew ?_ | refine blk_alloc ?_ _)); exact BK204.out⟩, ⟨by (with_reducible repeat (first | refine blk_drewN ?_ _ | refine blk_drew ?_ | refine blk_alloc ?_ _)); exact BK215.out⟩, ⟨by (with_reducible repeat (first | refine blk_drewN ?_ _ | refine blk_drew ?_ | refine blk_alloc ?_ _)); exact BK220.out⟩, ⟨by repeat (first | (with_reducible first | exact HB.out | apply below_alloc | apply pw_below_drewN | apply below_drew1 | refine below_set ?_ GE200.out | refine below_set ?_ GE204.out | refine below_set ?_ GE215.out | refine below_set ?_ GE220.out) | exact HB.out)⟩⟩
                                case rest =>
                                  clear HC84
                                  try clear c1
                                  try clear c2
                                  try clear p2
                                  try clear c3
                                  try clear c4
                                  try clear c5
                                  try clear c6
                                  try clear c7
                                  try clear c8
                                  try clear c9
                                  try clear c10
                                  try clear c11
                                  try clear c12
                                  try clear c13
                                  try clear c14
                                  try clear c15
                                  try clear c16
                                  try clear c16b0
                                  try clear c16b1
                                  try clear c17
                                  try clear c18
                                  try clear c26
                                  try clear c28
                                  try clear c28b0
                                  try clear c29
                                  try clear c32
                                  try clear c35
                                  try clear c40
                                  try clear c44
                                  try clear c44b0
                                  try clear c45
                                  try clear c48
                                  try clear c51
                                  try clear c57
                                  try clear c58
                                  try clear c62
                                  try clear c63
                                  try clear c64
                                  try clear c66
                                  try clear c66b0
                                  try clear c67
                                  try clear c68
                                  try clear c69
                                  try clear c71
                                  try clear c72
                                  try clear c74
                                  try clear c75
                                  try clear c76
                                  try clear c78
                                  try clear c79
                                  try clear c81
                                  try clear c87
                                  try clear c87b0
                                  try clear c87b1
                                  try clear hcz23_0
                                  try clear hcz23_1
                                  try clear hcz27_0
                                  try clear hcz27_1
                                  try clear hcz30_0
                                  try clear hcz30_1
                                  try clear hcz31_0
                                  try clear hcz31_1
                                  try clear hcz33_0
                                  try clear hcz33_1
                                  try clear hcz34_0
                                  try clear hcz34_1
                                  try clear hcz41_0
                                  try clear hcz41_1
                                  try clear hcz43_0
                                  try clear hcz43_1
                                  try clear hcz46_0
                                  try clear hcz46_1
                                  try clear hcz47_0
                                  try clear hcz47_1
                                  try clear hcz49_0
                                  try clear hcz49_1
                                  try clear hcz50_0
                                  try clear hcz50_1
                                  try clear hcz59_0
                                  try clear hcz59_1
                                  try clear hcz59_2
                                  try clear hcz65_0
                                  try clear hcz65_1
                                  try clear hcz65_2
                                  try clear hcz70_0
                                  try clear hcz70_1
                                  try clear hcz70_2
                                  try clear hcz73_0
                                  try clear hcz73_1
                                  try clear hcz73_2
                                  try clear hcz77_0
                                  try clear hcz77_1
                                  try clear hcz77_2
                                  try clear hcz80_0
                                  try clear hcz80_1
                                  try clear hcz80_2
                                  try clear hfz23_0
                                  try clear hfz23_1
                                  try clear hfz27_0
                                  try clear hfz27_1
                                  try clear hfz30_0
                                  try clear hfz30_1
                                  try clear hfz31_0
                                  try clear hfz31_1
                                  try clear hfz33_0
                                  try clear hfz33_1
                                  try clear hfz34_0
                                  try clear hfz34_1
                                  try clear hfz41_0
                                  try clear hfz41_1
                                  try clear hfz43_0
                                  try clear hfz43_1
                                  try clear hfz46_0
                                  try clear hfz46_1
                                  try clear hfz47_0
                                  try clear hfz47_1
                                  try clear hfz49_0
                                  try clear hfz49_1
                                  try clear hfz50_0
                                  try clear hfz50_1
                                  try clear hfz59_0
                                  try clear hfz59_1
                                  try clear hfz59_2
                                  try clear hfz65_0
                                  try clear hfz65_1
                                  try clear hfz65_2
                                  try clear hfz70_0
                                  try clear hfz70_1
                                  try clear hfz70_2
                                  try clear hfz73_0
                                  try clear hfz73_1
                                  try clear hfz73_2
                                  try clear hfz77_0
                                  try clear hfz77_1
                                  try clear hfz77_2
                                  try clear hfz80_0
                                  try clear hfz80_1
                                  try clear hfz80_2
                                  try clear p2
                                  obtain ⟨kq, x118_83, rfl, HA, HJ83, BK200, BK204, BK215, BK220, HB⟩ := hcut
                                  cases kq with
                                  | zero => exact absurd HA.out (by simp [tenancylaw02_TextGets.j5])
                                  | succ kj83 =>
                                    have H := HA.out
                                    clear HA
                                    simp only [tenancylaw02_TextGets.j5] at H
                                    by_cases c88 : x118_83 = true
                                    · subst c88
                                      have H1 : (some false) = some r := by rw [if_pos rfl] at H; exact H
                                      clear H
                                      have H := H1
                                      clear H1
                                      obtain rfl := Option.some.inj H
                                      go_wp2
                                      go_ret
                                      exact ⟨by first | rfl | (simp [errW_none, errW_some] <;> rfl) | (simp [*, errW_none, errW_some] <;> rfl), by repeat (first | (with_reducible first | exact HB.out | apply below_alloc | apply pw_below_drewN | apply below_drew1 | refine below_set ?_ GE200.out | refine below_set ?_ GE204.out | refine below_set ?_ GE215.out | refine below_set ?_ GE220.out) | exact HB.out)⟩
                                    · replace c88 := Bool.eq_false_iff.mpr c88
                                      subst c88
                                      have H1 : ((text_GetNum.f a1).bind fun bt225 => ((tenancyref02_GetNum.f kj83 a1).bind fun bt227 => (if bt225.1 = bt227.1 then (some (bt225.2 == bt227.2)) else (some false)))) = some r := by rw [if_neg (show ¬ (false = true) by decide)] at H; exact H
                                      clear H
                                      have H := H1
                                      clear H1
                                      replace H := Option.bind_eq_some_iff.mp H
                                      obtain ⟨⟨t225, t226⟩, A890, H⟩ := H
                                      replace H : ((tenancyref02_GetNum.f kj83 a1).bind fun bt227 => (if t225 = bt227.1 then (some (t226 == bt227.2)) else (some false))) = some r := H
                                      have A89 := Aside0.mk A890
                                      clear A890
                                      replace H := Option.bind_eq_some_iff.mp H
                                      obtain ⟨⟨t227, t228⟩, A900, H⟩ := H
                                      replace H : (if t225 = t227 then (some (t226 == t228)) else (some false)) = some r := H
                                      have A90 := Aside0.mk A900
                                      clear A900
                                      by_cases c91 : t225 = t227
                                      · rw [if_pos c91] at H
                                        have c91b0 : (t225 == t227) = true := beq_iff_eq.mpr c91
                                        have c91b1 : (t225 != t227) = false := bne_eq_false_iff_eq.mpr c91
                                        clear c91
                                        obtain rfl := Option.some.inj H
                                        go_wp2_with (first | ((with_reducible refine gate_callee (f := 19) rfl ?_); refine goesL_ (some 121) rfl rfl Tryd.func19 (by kernel_rfl) rfl #[.string a1] rfl (by (try simp only [List.map_toArray, List.map_cons, List.map_nil]); first | done | rfl | (simp only [List.length_drop, List.length_take]; rfl)) ?_; (with_reducible refine (text_GetNum.calls a1 t225 t226 _ ⟨Glob.below hG.out (by repeat (first | (with_reducible first | exact HB.out | apply below_alloc | apply pw_below_drewN | apply below_drew1 | refine below_set ?_ GE200.out | refine below_set ?_ GE204.out | refine below_set ?_ GE215.out | refine below_set ?_ GE220.out) | exact HB.out))⟩ A89.out).mono ?_); rintro e w92 ⟨rfl, hb⟩; refine ⟨_, rfl, ?_⟩; have n0_ := Aside0.mk (blk_below (g := gb200) (o := .cells #[.int .u64 t205, .int .u64 t206] 28 (0, 0)) (by (with_reducible repeat (first | refine blk_drewN ?_ _ | refine blk_drew ?_ | refine blk_alloc ?_ _)); exact BK200.out) hb); have n1_ := Aside0.mk (blk_below (g := gb204) (o := .cells #[.int .u64 t208, .int .u64 t209] 28 (0, 0)) (by (with_reducible repeat (first | refine blk_drewN ?_ _ | refine blk_drew ?_ | refine blk_alloc ?_ _)); exact BK204.out) hb); have n2_ := Aside0.mk (blk_below (g := gb215) (o := .cells #[.int .u64 t211, .int .u64 t212, .int .i64 t213] 33 (0, 0)) (by (with_reducible repeat (first | refine blk_drewN ?_ _ | refine blk_drew ?_ | refine blk_alloc ?_ _)); exact BK215.out) hb); have n3_ := Aside0.mk (blk_below (g := gb220) (o := .cells #[.int .u64 t216, .int .u64 t217, .int .i64 t218] 33 (0, 0)) (by (with_reducible repeat (first | refine blk_drewN ?_ _ | refine blk_drew ?_ | refine blk_alloc ?_ _)); exact BK220.out) hb); have n4_ := Aside0.mk (below_step (by repeat (first | (with_reducible first | exact HB.out | apply below_alloc | apply pw_below_drewN | apply below_drew1 | refine below_set ?_ GE200.out | refine below_set ?_ GE204.out | refine below_set ?_ GE215.out | refine below_set ?_ GE220.out) | exact HB.out)) hb); clear BK200; clear BK204; clear BK215; clear BK220; clear HB; have BK200 := n0_; have BK204 := n1_; have BK215 := n2_; have BK220 := n3_; have HB := n4_; clear n0_ n1_ n2_ n3_ n4_; (try clear hb); (try clear hb2); (try clear hk); (try clear hi)) | ((with_reducible refine gate_callee (f := 20) rfl ?_); refine goesL_ (some 126) rfl rfl Tryd.func20 (by kernel_rfl) rfl #[.string a1] rfl (by (try simp only [List.map_toArray, List.map_cons, List.map_nil]); first | done | rfl | (simp only [List.length_drop, List.length_take]; rfl)) ?_; (with_reducible refine (tenancyref02_GetNum.calls kj83 a1 t227 t228 _ A90.out).mono ?_); rintro e w' ⟨rfl, ⟨nd, rfl⟩⟩; refine ⟨_, rfl, ?_⟩))
                                        go_ret
                                        exact ⟨by first | rfl | (simp [errW_none, errW_some] <;> rfl) | (simp [*, errW_none, errW_some] <;> rfl), by repeat (first | (with_reducible first | exact HB.out | apply below_alloc | apply pw_below_drewN | apply below_drew1 | refine below_set ?_ GE200.out | refine below_set ?_ GE204.out | refine below_set ?_ GE215.out | refine below_set ?_ GE220.out) | exact HB.out)⟩
                                      · rw [if_neg c91] at H
                                        have c91b0 : (t225 == t227) = false := beq_eq_false_iff_ne.mpr c91
                                        have c91b1 : (t225 != t227) = true := bne_iff_ne.mpr c91
                                        obtain rfl := Option.some.inj H
                                        go_wp2_with (first | ((with_reducible refine gate_callee (f := 19) rfl ?_); refine goesL_ (some 121) rfl rfl Tryd.func19 (by kernel_rfl) rfl #[.string a1] rfl (by (try simp only [List.map_toArray, List.map_cons, List.map_nil]); first | done | rfl | (simp only [List.length_drop, List.length_take]; rfl)) ?_; (with_reducible refine (text_GetNum.calls a1 t225 t226 _ ⟨Glob.below hG.out (by repeat (first | (with_reducible first | exact HB.out | apply below_alloc | apply pw_below_drewN | apply below_drew1 | refine below_set ?_ GE200.out | refine below_set ?_ GE204.out | refine below_set ?_ GE215.out | refine below_set ?_ GE220.out) | exact HB.out))⟩ A89.out).mono ?_); rintro e w93 ⟨rfl, hb⟩; refine ⟨_, rfl, ?_⟩; have n0_ := Aside0.mk (blk_below (g := gb200) (o := .cells #[.int .u64 t205, .int .u64 t206] 28 (0, 0)) (by (with_reducible repeat (first | refine blk_drewN ?_ _ | refine blk_drew ?_ | refine blk_alloc ?_ _)); exact BK200.out) hb); have n1_ := Aside0.mk (blk_below (g := gb204) (o := .cells #[.int .u64 t208, .int .u64 t209] 28 (0, 0)) (by (with_reducible repeat (first | refine blk_drewN ?_ _ | refine blk_drew ?_ | refine blk_alloc ?_ _)); exact BK204.out) hb); have n2_ := Aside0.mk (blk_below (g := gb215) (o := .cells #[.int .u64 t211, .int .u64 t212, .int .i64 t213] 33 (0, 0)) (by (with_reducible repeat (first | refine blk_drewN ?_ _ | refine blk_drew ?_ | refine blk_alloc ?_ _)); exact BK215.out) hb); have n3_ := Aside0.mk (blk_below (g := gb220) (o := .cells #[.int .u64 t216, .int .u64 t217, .int .i64 t218] 33 (0, 0)) (by (with_reducible repeat (first | refine blk_drewN ?_ _ | refine blk_drew ?_ | refine blk_alloc ?_ _)); exact BK220.out) hb); have n4_ := Aside0.mk (below_step (by repeat (first | (with_reducible first | exact HB.out | apply below_alloc | apply pw_below_drewN | apply below_drew1 | refine below_set ?_ GE200.out | refine below_set ?_ GE204.out | refine below_set ?_ GE215.out | refine below_set ?_ GE220.out) | exact HB.out)) hb); clear BK200; clear BK204; clear BK215; clear BK220; clear HB; have BK200 := n0_; have BK204 := n1_; have BK215 := n2_; have BK220 := n3_; have HB := n4_; clear n0_ n1_ n2_ n3_ n4_; (try clear hb); (try clear hb2); (try clear hk); (try clear hi)) | ((with_reducible refine gate_callee (f := 20) rfl ?_); refine goesL_ (some 126) rfl rfl Tryd.func20 (by kernel_rfl) rfl #[.string a1] rfl (by (try simp only [List.map_toArray, List.map_cons, List.map_nil]); first | done | rfl | (simp only [List.length_drop, List.length_take]; rfl)) ?_; (with_reducible refine (tenancyref02_GetNum.calls kj83 a1 t227 t228 _ A90.out).mono ?_); rintro e w' ⟨rfl, ⟨nd, rfl⟩⟩; refine ⟨_, rfl, ?_⟩))
                                        go_ret
                                        exact ⟨by first | rfl | (simp [errW_none, errW_some] <;> rfl) | (simp [*, errW_none, errW_some] <;> rfl), by repeat (first | (with_reducible first | exact HB.out | apply below_alloc | apply pw_below_drewN | apply below_drew1 | refine below_set ?_ GE200.out | refine below_set ?_ GE204.out | refine below_set ?_ GE215.out | refine below_set ?_ GE220.out) | exact HB.out)⟩

end Go.Proofs.YtmegbllhidkmoaaDoor.Ty
