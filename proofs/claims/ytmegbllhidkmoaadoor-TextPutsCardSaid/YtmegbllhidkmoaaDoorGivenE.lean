/- strconv.ParseUint at base 16 and 16 bits, at base 10 and 64 bits, by how it ends; text.GetNum. -/
import Derived.Test.YtmegbllhidkmoaaDoorGivenD
namespace Go.Proofs.YtmegbllhidkmoaaDoor.Tx
open Go.RowKit Go.Lib Go.Proofs.YtmegbllhidkmoaaDoorW.PrintWords
set_option linter.unusedVariables false

def hex16 (l : List UInt8) : Option Nat := if l = [] then none else parse16 0 l

theorem inner16_ok (t : ByteArray) (hmax : t.size ≤ 281474976710656) (n : Nat) (h : hex16 t.data.toList = some n) (w : World) :
    Calls Tryd.prog 66 #[.string t, .int .i64 16, .int .i64 16] w fun e w' => e = .returned (.tuple #[.int .u64 n, .nilIface]) ∧ Below w.heap.size w w' := by
  unfold hex16 at h
  by_cases h0 : t.data.toList = []
  · rw [if_pos h0] at h; cases h
  · rw [if_neg h0] at h
    have hne : t.size ≠ 0 := by
      intro e; apply h0; apply List.eq_nil_of_length_eq_zero; rw [Array.length_toList]; exact e
    refine (parseUint_16 t hne (by omega) w).mono ?_
    rintro e w' ⟨hp, rfl⟩
    rw [h] at hp
    exact ⟨hp, Lib.bytesWorld_below w 5 t⟩
theorem inner16_bad (t : ByteArray) (hmax : t.size ≤ 281474976710656) (h : hex16 t.data.toList = none) (w : World) :
    Calls Tryd.prog 66 #[.string t, .int .i64 16, .int .i64 16] w fun e w' => (∃ x c : Int, (c = 1 ∨ c = 2) ∧ e = .returned (.tuple #[.int .u64 x, .iface 97 (.int .i64 c)])) ∧ Below w.heap.size w w' := by
  unfold hex16 at h
  by_cases h0 : t.data.toList = []
  · have : t = ⟨#[]⟩ := by
      obtain ⟨⟨l⟩⟩ := t
      simp at h0
      subst h0
      rfl
    subst this
    refine (Tryd.internal_strconv_ParseUint_empty 16 16 w).mono ?_
    rintro e w' ⟨rfl, rfl⟩
    exact ⟨⟨0, 2, .inr rfl, rfl⟩, Below.refl _ _⟩
  · rw [if_neg h0] at h
    have hne : t.size ≠ 0 := by
      intro e; apply h0; apply List.eq_nil_of_length_eq_zero; rw [Array.length_toList]; exact e
    refine (parseUint_16 t hne (by omega) w).mono ?_
    rintro e w' ⟨hp, rfl⟩
    rw [h] at hp
    exact ⟨hp, Lib.bytesWorld_below w 5 t⟩

set_option maxRecDepth 100000 in
theorem pub16_ok (t : ByteArray) (hmax : t.size ≤ 281474976710656) (n : Nat) (h : hex16 t.data.toList = some n) (w : World) :
    Calls Tryd.prog 45 #[.string t, .int .i64 16, .int .i64 16] w fun e w' => e = .returned (.tuple #[.int .u64 n, .nilIface]) ∧ Below w.heap.size w w' := by
  have H := Lib.hid (inner16_ok t hmax n h)
  clear h hmax
  go_enter Tryd.func45, Tryd.ntmps45
  go_wp2_with (go_at_call 66; refine (H.out _).mono ?_; rintro e w' ⟨rfl, hb⟩)
  go_ret2
  exact ⟨rfl, hb⟩
def BadErr (e : Ending) : Prop := ∃ (x : Int) (t : TypeId) (p : Value), e = .returned (.tuple #[.int .u64 x, .iface t p])
set_option maxRecDepth 100000 in
theorem pub16_bad (t : ByteArray) (hmax : t.size ≤ 281474976710656) (h : hex16 t.data.toList = none) (w : World) (hG : Glob w) :
    Calls Tryd.prog 45 #[.string t, .int .i64 16, .int .i64 16] w fun e w' => BadErr e ∧ Below w.heap.size w w' := by
  have H := Lib.hid (inner16_bad t hmax h w)
  have HG := Lib.hid hG
  clear h hG
  have HM := Lib.hid hmax
  clear hmax
  go_enter Tryd.func45, Tryd.ntmps45
  go_wp2_with fail
  refine H.out.mono ?_
  rintro e w' ⟨⟨x, c, hc, rfl⟩, hb⟩
  have hg := HG.out.below hb
  rcases hc with rfl | rfl
  · obtain ⟨te, pe, hv⟩ := hg.rng
    have HB := Lib.hid hb
    have HV := Lib.hid hv
    clear hb hv hg
    go_wp2_with (go_at_call 67; refine (Tryd.strconv_toError_range _ _ _ _ _ _ HM.out HV.out (.inr ⟨te, pe, rfl⟩)).mono ?_; rintro e w2 ⟨N, rfl, hN, hc2, hb2⟩)
    go_ret2
    exact ⟨⟨_, _, _, rfl⟩, below_step HB.out hb2⟩
  · obtain ⟨te, pe, hv⟩ := hg.syn
    have HB := Lib.hid hb
    have HV := Lib.hid hv
    clear hb hv hg
    go_wp2_with (go_at_call 67; refine (Tryd.strconv_toError_syntax _ _ _ _ _ _ HM.out HV.out (.inr ⟨te, pe, rfl⟩)).mono ?_; rintro e w2 ⟨N, rfl, hN, hc2, hb2⟩)
    go_ret2
    exact ⟨⟨_, _, _, rfl⟩, below_step HB.out hb2⟩

theorem pub10_ok (s : ByteArray) (hmax : s.size ≤ 281474976710656) (u : Nat) (h : Lib.parseUintB 64 s.data.toList = .ok u) (w : World) :
    Calls Tryd.prog 45 #[.string s, .int .i64 10, .int .i64 64] w fun e w' => e = .returned (.tuple #[.int .u64 u, .nilIface]) ∧ Below w.heap.size w w' := by
  refine (Tryd.strconv_ParseUint_10_at64_ok s (by omega) u h w).mono ?_
  rintro e w' ⟨rfl, rfl | rfl⟩
  · exact ⟨rfl, Below.refl _ _⟩
  · exact ⟨rfl, Lib.bytesWorld_below w 5 s⟩
theorem pub10_bad (s : ByteArray) (hmax : s.size ≤ 281474976710656) (h : ∀ u, Lib.parseUintB 64 s.data.toList ≠ .ok u) (w : World) (hG : Glob w) :
    Calls Tryd.prog 45 #[.string s, .int .i64 10, .int .i64 64] w fun e w' => BadErr e ∧ Below w.heap.size w w' := by
  cases hp : Lib.parseUintB 64 s.data.toList with
  | ok u => exact absurd hp (h u)
  | range =>
    obtain ⟨te, pe, hv⟩ := hG.rng
    refine (Tryd.strconv_ParseUint_10_at64_range s hmax hp _ w hv (.inr ⟨te, pe, rfl⟩)).mono ?_
    rintro e w' ⟨N, rfl, _, _, hb⟩
    exact ⟨⟨_, _, _, rfl⟩, hb⟩
  | _ =>
    obtain ⟨te, pe, hv⟩ := hG.syn
    refine (Any.strconv_ParseUint_10_at64_syntax Tryd.laysPu14 s hmax hp _ w hv (.inr ⟨te, pe, rfl⟩)).mono ?_
    rintro e w' ⟨N, rfl, _, _, hb⟩
    exact ⟨⟨_, _, _, rfl⟩, hb⟩
end Go.Proofs.YtmegbllhidkmoaaDoor.Tx
