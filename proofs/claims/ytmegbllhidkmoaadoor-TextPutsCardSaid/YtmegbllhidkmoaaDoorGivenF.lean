/- text.GetNum. -/
import Derived.Test.YtmegbllhidkmoaaDoorGivenE
import Derived.Outline
import Derived.WalkLawsBesides
import Derived.Deep.DeepFit
import Derived.WalkSpells
namespace Go.Proofs.YtmegbllhidkmoaaDoor.Tx
open Go.RowKit Go.Lib Go.Proofs.YtmegbllhidkmoaaDoorW.PrintWords
set_option linter.unusedVariables false

def big62 : Int := 4611686018427387904
def text_GetNum.f (a0 : ByteArray) : Option (Int × Bool) :=
  if a0.size ≤ 281474976710656 then
    some (match Lib.parseUintB 64 a0.data.toList with
      | .ok u => if u ≤ 4611686018427387904 ∧ Lib.decDigits u = a0.data.toList then ((u : Int), true) else (0, false)
      | _ => (0, false))
  else none

set_option maxHeartbeats 1600000 in
set_option maxRecDepth 100000 in
theorem getNum_bad (s : ByteArray) (hmax : s.size ≤ 281474976710656) (h : ∀ u, Lib.parseUintB 64 s.data.toList ≠ .ok u) (w : World) (hG : Glob w) :
    Calls Tryd.prog 19 #[.string s] w fun e w' => e = .returned (.tuple #[.int .i64 0, .bool false]) ∧ Below w.heap.size w w' := by
  have H := Lib.hid (pub10_bad s hmax h w hG)
  clear h hG hmax
  go_enter Tryd.func19, Tryd.ntmps19
  go_wp2_with fail
  refine H.out.mono ?_
  rintro e w' ⟨⟨x, t, p, rfl⟩, hb⟩
  go_wp2_with fail
  go_ret2
  exact ⟨rfl, hb⟩
set_option maxHeartbeats 1600000 in
set_option maxRecDepth 100000 in
theorem getNum_big (s : ByteArray) (hmax : s.size ≤ 281474976710656) (u : Nat) (h : Lib.parseUintB 64 s.data.toList = .ok u) (hu : 4611686018427387904 < u) (w : World) :
    Calls Tryd.prog 19 #[.string s] w fun e w' => e = .returned (.tuple #[.int .i64 0, .bool false]) ∧ Below w.heap.size w w' := by
  have H := Lib.hid (pub10_ok s hmax u h)
  have hui : (4611686018427387904 : Int) < (u : Int) := by omega
  clear h hmax hu
  go_enter Tryd.func19, Tryd.ntmps19
  go_wp2_with fail
  refine (H.out _).mono ?_
  rintro e w' ⟨rfl, hb⟩
  go_wp2_with fail
  go_ret2
  exact ⟨rfl, hb⟩
set_option maxHeartbeats 1600000 in
set_option maxRecDepth 100000 in
theorem getNum_ok (s : ByteArray) (hmax : s.size ≤ 281474976710656) (u : Nat) (h : Lib.parseUintB 64 s.data.toList = .ok u) (hu : u ≤ 4611686018427387904) (w : World) (hG : Glob w) :
    Calls Tryd.prog 19 #[.string s] w fun e w' => e = .returned (.tuple #[.int .i64 (if Lib.decDigits u = s.data.toList then (u : Int) else 0), .bool (decide (Lib.decDigits u = s.data.toList))]) ∧ Below w.heap.size w w' := by
  have H := Lib.hid (pub10_ok s hmax u h)
  have hui : (u : Int) ≤ 4611686018427387904 := by omega
  clear h hmax hu
  go_enter Tryd.func19, Tryd.ntmps19
  go_wp2_with fail
  refine (H.out _).mono ?_
  rintro e w' ⟨rfl, hb⟩
  have HG := Lib.hid hG
  have HB := Lib.hid hb
  have hun : u < 18446744073709551616 := by omega
  have hF : strconv_FormatUint.f (u : Int) 10 = some ⟨(Lib.decDigits u).toArray⟩ := by
    unfold strconv_FormatUint.f
    rw [if_pos ⟨by omega, by omega⟩, if_pos rfl, Int.toNat_natCast]
  have HF := Lib.hid (strconv_FormatUint.calls (u : Int) 10 _ w' ⟨hG.below hb⟩ hF)
  clear hF hG hun hb
  by_cases he : Lib.decDigits u = s.data.toList
  · go_wp2_with fail
    refine HF.out.mono ?_
    rintro e w2 ⟨rfl, hb2⟩
    have HB2 := Lib.hid hb2
    clear hb2
    go_wp2_with fail
    go_ret2
    exact ⟨rfl, below_step HB.out HB2.out⟩
  · have hne : (!Lib.decDigits u == s.toList) = true := by rw [ByteArray.toList_eq]; simpa using he
    go_wp2_with fail
    refine HF.out.mono ?_
    rintro e w2 ⟨rfl, hb2⟩
    have HB2 := Lib.hid hb2
    clear hb2
    go_wp2_with fail
    go_ret2
    exact ⟨by simp, below_step HB.out HB2.out⟩

theorem text_GetNum.calls (a0 : ByteArray) (r1 : Int) (r2 : Bool) (w : World) (hG : Aside0 (Glob w)) (h : text_GetNum.f a0 = some (r1, r2)) :
    Calls Tryd.prog 19 #[.string a0] w fun e w' => e = .returned (.tuple #[.int .i64 r1, .bool r2]) ∧ Below w.heap.size w w' := by
  unfold text_GetNum.f at h
  by_cases hc : a0.size ≤ 281474976710656
  · rw [if_pos hc] at h
    have h1 := Option.some.inj h
    by_cases hok : ∃ u, Lib.parseUintB 64 a0.data.toList = .ok u
    · obtain ⟨u, hu⟩ := hok
      rw [hu] at h1
      by_cases hb : u ≤ 4611686018427387904
      · have := getNum_ok a0 hc u hu hb w hG.out
        by_cases he : Lib.decDigits u = a0.data.toList
        · rw [if_pos he, decide_eq_true he] at this
          simp only [hb, he, and_self, if_true, Prod.mk.injEq] at h1
          obtain ⟨rfl, rfl⟩ := h1
          exact this
        · rw [if_neg he, decide_eq_false he] at this
          simp only [he, and_false, if_false, Prod.mk.injEq] at h1
          obtain ⟨rfl, rfl⟩ := h1
          exact this
      · have := getNum_big a0 hc u hu (by omega) w
        simp only [hb, false_and, if_false, Prod.mk.injEq] at h1
        obtain ⟨rfl, rfl⟩ := h1
        exact this
    · have hno : ∀ u, Lib.parseUintB 64 a0.data.toList ≠ .ok u := fun u hu => hok ⟨u, hu⟩
      have := getNum_bad a0 hc hno w hG.out
      have e1 : (0, false) = (r1, r2) := by
        rw [← h1]
        cases hp : Lib.parseUintB 64 a0.data.toList with
        | ok u => exact absurd hp (hno u)
        | range => rfl
        | _ => rfl
      simp only [Prod.mk.injEq] at e1
      obtain ⟨rfl, rfl⟩ := e1
      exact this
  · rw [if_neg hc] at h; exact absurd h (by simp)
end Go.Proofs.YtmegbllhidkmoaaDoor.Tx
