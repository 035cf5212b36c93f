/- The plain law of TextBack: what is written is read again. -/
import Derived.Test.YtmegbllhidkmoaaDoorM4
import Derived.Test.YtmegbllhidkmoaaDoorPure
namespace Go.Proofs.YtmegbllhidkmoaaDoor.Ty
open Go.RowKit Go.Lib Go.Proofs.YtmegbllhidkmoaaDoorW.PrintWords Go.Proofs.YtmegbllhidkmoaaDoorW.PrintLast Go.Proofs.YtmegbllhidkmoaaDoorW.PrintMore Go.Proofs.YtmegbllhidkmoaaDoor.Plain Go.Proofs.YtmegbllhidkmoaaDoor.Tx
set_option linter.unusedVariables false

theorem back_loop1 (k : Nat) (hk : 20 ≤ k) (hi lo n : Int) (h0 : 0 ≤ hi) (h1 : hi < 18446744073709551616) (h2 : 0 ≤ lo) (h3 : lo < 18446744073709551616) (hn0 : -9223372036854775808 ≤ n) (hn1 : n ≤ 9223372036854775807) :
    tenancylaw02_TextBack.l0 (k + 1) 0 hi lo n = tenancylaw02_TextBack.l0 k 1 hi lo n := by
  obtain ⟨b, hs, hs'⟩ := sound_at hi lo n hn0 hn1
  have ea : arr46 0 = 4 := rfl
  have en : wrap64 (0 + 1) = 1 := by unfold wrap64; omega
  rw [tenancylaw02_TextBack.l0, if_pos (by decide), if_pos (by decide), ea, en]
  rcases prefix_four hi lo n h0 h1 h2 h3 hn0 hn1 b hs hs' k (by omega) with ⟨_, _, _, _, t, ht, e1, e2⟩ | ⟨_, e1⟩
  · rw [e1, Option.bind_some, e2, Option.bind_some, ByteArray.toList_eq, mkB_list]
    simp [ht]
  · rw [e1, Option.bind_some, getPrefix_none4 k (by omega), Option.bind_some, ByteArray.toList_eq, mkB_list]
    simp
theorem back_loop2 (k : Nat) (hk : 20 ≤ k) (hi lo n : Int) (h0 : 0 ≤ hi) (h1 : hi < 18446744073709551616) (h2 : 0 ≤ lo) (h3 : lo < 18446744073709551616) (hn0 : -9223372036854775808 ≤ n) (hn1 : n ≤ 9223372036854775807) :
    tenancylaw02_TextBack.l0 (k + 1) 1 hi lo n = tenancylaw02_TextBack.l0 k 2 hi lo n := by
  obtain ⟨b, hs, hs'⟩ := sound_at hi lo n hn0 hn1
  have ea : arr46 1 = 6 := rfl
  have en : wrap64 (1 + 1) = 2 := by unfold wrap64; omega
  rw [tenancylaw02_TextBack.l0, if_pos (by decide), if_pos (by decide), ea, en]
  rcases prefix_six hi lo n h0 h1 h2 h3 hn0 hn1 b hs hs' k (by omega) with ⟨rfl, t, ht, e1, e2⟩ | ⟨rfl, e1⟩
  · rw [e1, Option.bind_some, e2, Option.bind_some, ByteArray.toList_eq, mkB_list, hs k (by omega)]
    simp [ht]
  · rw [e1, Option.bind_some, getPrefix_none6 k (by omega), Option.bind_some, ByteArray.toList_eq, mkB_list, hs k (by omega)]
    simp
theorem back_end (k : Nat) (hi lo n : Int) (hn0 : -9223372036854775808 ≤ n) (hn1 : n ≤ 9223372036854775807) : tenancylaw02_TextBack.l0 (k + 2) 2 hi lo n = some true := by
  rw [tenancylaw02_TextBack.l0, if_neg (by decide)]
  by_cases hneg : n < 0
  · rw [if_pos hneg, tenancylaw02_TextBack.j3, if_pos rfl]
  · rw [if_neg hneg, tenancylaw02_TextBack.j3]
    by_cases hb : n > 4611686018427387904
    · rw [if_pos (decide_eq_true hb)]
    · rw [if_neg (by simp; omega)]
      have e : text_Num.f n = some (mkB (decDigits n.toNat)) := by
        unfold text_Num.f
        have := itoa_small n.toNat (by omega)
        rw [show ((n.toNat : Nat) : Int) = n by omega] at this
        rw [this, Option.bind_some]; rfl
      rw [e, Option.bind_some, getNum_dec n.toNat (by omega), Option.bind_some]
      simp; omega

theorem TextBack_pure (hi lo n : Int) (s : ByteArray) (h0 : 0 ≤ hi) (h1 : hi < 18446744073709551616) (h2 : 0 ≤ lo) (h3 : lo < 18446744073709551616) (hn0 : -9223372036854775808 ≤ n) (hn1 : n ≤ 9223372036854775807) :
    ∃ k, tenancylaw02_TextBack.f k hi lo n s = some true := by
  have aw : tenancylaw02_awake.f = some true := rfl
  refine ⟨31, ?_⟩
  unfold tenancylaw02_TextBack.f
  rw [aw, Option.bind_some, if_pos rfl, tenancylaw02_TextBack.j0]
  by_cases hb : (s.size : Int) > 65536
  · rw [if_pos (decide_eq_true hb), aw, Option.bind_some]
  · rw [if_neg (by simp; omega)]
    obtain ⟨l, e6, hf⟩ := put6_at hi lo h0 h1 h2 h3 30 (by omega)
    have hl : 0 ≤ lo % 4294967296 ∧ lo % 4294967296 < 4294967296 := by omega
    have hx : text_Hex.f s = some (mkB (hexOf s.data.toList)) := by
      unfold text_Hex.f
      rw [if_pos (by omega)]; rfl
    rw [put4_at (lo % 4294967296) hl.1 hl.2 30 (by omega), Option.bind_some, get4_dots (lo % 4294967296) hl.1 hl.2 30 (by omega), Option.bind_some, e6, Option.bind_some,
      get6_form hi lo h0 h1 h2 h3 l hf 30 (by omega), Option.bind_some, hx, Option.bind_some, unhex_hex s (by omega), Option.bind_some]
    simp only [if_true, beq_self_eq_true, Bool.not_true, Bool.or_self]
    rw [if_neg (by decide)]
    rw [tenancylaw02_TextBack.j1, if_neg (by decide), back_loop1 28 (by decide) hi lo n h0 h1 h2 h3 hn0 hn1, back_loop2 27 (by decide) hi lo n h0 h1 h2 h3 hn0 hn1]
    exact back_end 25 hi lo n hn0 hn1
end Go.Proofs.YtmegbllhidkmoaaDoor.Ty
