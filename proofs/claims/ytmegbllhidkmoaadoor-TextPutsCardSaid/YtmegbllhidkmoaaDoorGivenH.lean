/- text.Hex. -/
import Derived.Test.YtmegbllhidkmoaaDoorGivenG
import Derived.Outline
import Derived.Test.YtmegbllhidkmoaaDoorBuilder
namespace Go.Proofs.YtmegbllhidkmoaaDoor.Tx
open Go.RowKit Go.Lib Go.Proofs.YtmegbllhidkmoaaDoorW.PrintWords
set_option linter.unusedVariables false

theorem isBuilder_below {T e : TypeId} {B b : Nat} {bs : List Value} {w w' : World} (h : Lib.IsBuilderF T e B b bs w) (hb : Below w.heap.size w w') : Lib.IsBuilderF T e B b bs w' := by
  have step : ∀ p, Lib.BuilderAtF T e B b p bs w → Lib.BuilderAtF T e B b p bs w' := by
    intro p h
    have hlt := h.lt
    obtain ⟨hB, v, hc, hown, hne⟩ := h
    exact ⟨hB, v, (hb.block b hlt).trans hc, hown.kept (grown_of_below hb none) (by cases hv : v.ownBlock <;> simp), hne⟩
  exact h.elim (fun x => .inl (step _ x)) (fun x => .inr (step _ x))

def hexOf (l : List UInt8) : List UInt8 := l.flatMap fun c => [hexdigit (c.toNat / 16), hexdigit (c.toNat % 16)]
theorem hexOf_length (l : List UInt8) : (hexOf l).length = 2 * l.length := by
  induction l with
  | nil => rfl
  | cons c l ih => unfold hexOf at *; simp [ih]; omega
theorem hexOf_snoc (l : List UInt8) (c : UInt8) : hexOf (l ++ [c]) = hexOf l ++ [hexdigit (c.toNat / 16), hexdigit (c.toNat % 16)] := by simp [hexOf]
theorem hexDigits_one (c : Nat) (h : c < 16) : hexDigits c = [hexdigit (c % 16)] := by rw [hexDigits_small h, Nat.mod_eq_of_lt h]
theorem hexDigits_two (c : Nat) (h : 16 ≤ c) (h2 : c < 256) : hexDigits c = [hexdigit (c / 16), hexdigit (c % 16)] := by
  rw [hexDigits_big h, hexDigits_small (by omega)]; rfl
def text_Hex.f (a0 : ByteArray) : Option ByteArray := if a0.size ≤ 4294967280 then some ⟨(hexOf a0.data.toList).toArray⟩ else none

set_option maxHeartbeats 3200000 in
set_option maxRecDepth 100000 in
theorem text_Hex.calls (a0 : ByteArray) (r : ByteArray) (w : World) (hG : Aside0 (Glob w)) (h : text_Hex.f a0 = some r) :
    Calls Tryd.prog 23 #[.string a0] w fun e w' => e = .returned (.string r) ∧ Below w.heap.size w w' := by
  unfold text_Hex.f at h
  by_cases hc : a0.size ≤ 4294967280
  · rw [if_pos hc] at h
    obtain rfl := Option.some.inj h
    have HC := Aside0.mk hc
    clear h hc
    have h0 : Lib.IsBuilderF 74 5 w.heap.size w.heap.size [] (w.alloc (.cells #[.pointer none, .slice none 0 0] 74)) := Lib.IsBuilderF.of (Lib.fresh_isBuilder 74 5 w)
    have b0 : Below w.heap.size w (w.alloc (.cells #[.pointer none, .slice none 0 0] 74)) := (Below.refl _ w).alloc (Nat.le_refl _) _
    have H0 := Aside0.mk h0
    have B0 := Aside0.mk b0
    clear h0 b0
    go_enter Tryd.func23, Tryd.ntmps23
    go_wp2_with fail
    go_loopw [7] (fun v7 wr => ∃ j : Nat, v7 = .int .i64 j ∧ j ≤ a0.size ∧ Aside0 (Lib.IsBuilderF 74 5 w.heap.size w.heap.size (Lib.byteCells (hexOf (a0.data.toList.take j))) wr) ∧ Aside0 (Below w.heap.size w wr)) (fun v7 _ => a0.size - (RowKit.intOf v7).toNat)
    case atStart => exact ⟨0, rfl, Nat.zero_le _, ⟨H0.out⟩, ⟨B0.out⟩⟩
    case round =>
      clear H0 B0
      obtain ⟨j, rfl, hj, HI, HB⟩ := hrel
      have hcb := HC.out
      by_cases hlt : j < a0.size
      · have hlen : a0.data.toList.length = a0.size := by rw [Array.length_toList]; rfl
        have htk : a0.data.toList.take (j + 1) = a0.data.toList.take j ++ [a0[j]] := by
          rw [List.take_succ_eq_append_getElem (by rw [hlen]; exact hlt)]; rfl
        have hl2 : (Lib.byteCells (hexOf (a0.data.toList.take j))).length ≤ 2 * j := by
          rw [Lib.byteCells_length, hexOf_length, List.length_take]; omega
        have hc256 : (a0[j]).toNat < 256 := (a0[j]).toNat_lt
        have HL := Aside0.mk hl2
        have HT := Aside0.mk htk
        clear hl2 htk hlen
        by_cases h16 : (a0[j]).toNat < 16
        · have i16 : ((a0[j]).toNat : Int) < 16 := by omega
          have H1 := Lib.hid (Tryd.Builder_WriteByte_k w.heap.size w.heap.size _ 48 wr HI.out (by have := HL.out; have := HC.out; omega) HB.out.size)
          go_wp2_with fail
          refine H1.out.mono ?_
          rintro e w1 ⟨rfl, hb1, bl1, _⟩
          have HI1 := Aside0.mk (show Lib.IsBuilderF 74 5 w.heap.size w.heap.size _ w1 from .inr hb1)
          have HB1 := Aside0.mk (HB.out.trans bl1)
          clear hb1 bl1
          have hF : strconv_FormatUint.f ((a0[j]).toNat : Int) 16 = some ⟨(hexDigits (a0[j]).toNat).toArray⟩ := by
            unfold strconv_FormatUint.f
            rw [if_pos ⟨by omega, by omega⟩, if_neg (by decide), if_pos rfl, Int.toNat_natCast]
          have HF := Aside0.mk (strconv_FormatUint.calls ((a0[j]).toNat : Int) 16 _ _ ⟨hG.out.below HB1.out⟩ hF)
          clear hF
          go_wp2_with fail
          refine HF.out.mono ?_
          rintro e w2 ⟨rfl, bl2⟩
          have HI2 := Aside0.mk (isBuilder_below HI1.out bl2)
          have HB2 := Aside0.mk (below_step HB1.out bl2)
          clear bl2
          have hsz : (⟨(hexDigits (a0[j]).toNat).toArray⟩ : ByteArray).size = 1 := by rw [hexDigits_one _ h16]; rfl
          have H2 := Lib.hid (Tryd.Builder_WriteString_k w.heap.size w.heap.size _ ⟨(hexDigits (a0[j]).toNat).toArray⟩ w2 HI2.out (by rw [hsz, List.length_append, List.length_singleton]; have := HL.out; have := HC.out; omega) HB2.out.size)
          clear hsz
          go_wp2_with fail
          refine H2.out.mono ?_
          rintro e w3 ⟨rfl, hb3, bl3, _⟩
          have HI3 := Aside0.mk (show Lib.IsBuilderF 74 5 w.heap.size w.heap.size _ w3 from .inr hb3)
          have HB3 := Aside0.mk (HB2.out.trans bl3)
          clear hb3 bl3
          go_wp2_with fail
          go_roundw
          case rel =>
            refine ⟨j + 1, by go_num, by omega, ⟨?_⟩, ⟨HB3.out⟩⟩
            have e := HI3.out
            rw [HT.out, hexOf_snoc]
            rw [show (a0[j]).toNat / 16 = 0 by omega]
            have e2 : Lib.strCells ⟨(hexDigits (a0[j]).toNat).toArray⟩ = [Value.int .u8 ((hexdigit ((a0[j]).toNat % 16)).toNat : Int)] := by rw [hexDigits_one _ h16]; rfl
            rw [e2] at e
            simpa [Lib.byteCells, hexdigit] using e
          case measure => simp [RowKit.intOf]; omega
        · have i16 : (16 : Int) ≤ ((a0[j]).toNat : Int) := by omega
          have hF : strconv_FormatUint.f ((a0[j]).toNat : Int) 16 = some ⟨(hexDigits (a0[j]).toNat).toArray⟩ := by
            unfold strconv_FormatUint.f
            rw [if_pos ⟨by omega, by omega⟩, if_neg (by decide), if_pos rfl, Int.toNat_natCast]
          have HF := Aside0.mk (strconv_FormatUint.calls ((a0[j]).toNat : Int) 16 _ _ ⟨hG.out.below HB.out⟩ hF)
          clear hF
          go_wp2_with fail
          refine HF.out.mono ?_
          rintro e w2 ⟨rfl, bl2⟩
          have HI2 := Aside0.mk (isBuilder_below HI.out bl2)
          have HB2 := Aside0.mk (below_step HB.out bl2)
          clear bl2
          have hsz : (⟨(hexDigits (a0[j]).toNat).toArray⟩ : ByteArray).size = 2 := by rw [hexDigits_two _ (by omega) hc256]; rfl
          have H2 := Lib.hid (Tryd.Builder_WriteString_k w.heap.size w.heap.size _ ⟨(hexDigits (a0[j]).toNat).toArray⟩ w2 HI2.out (by rw [hsz]; have := HL.out; have := HC.out; omega) HB2.out.size)
          clear hsz
          go_wp2_with fail
          refine H2.out.mono ?_
          rintro e w3 ⟨rfl, hb3, bl3, _⟩
          have HI3 := Aside0.mk (show Lib.IsBuilderF 74 5 w.heap.size w.heap.size _ w3 from .inr hb3)
          have HB3 := Aside0.mk (HB2.out.trans bl3)
          clear hb3 bl3
          go_wp2_with fail
          go_roundw
          case rel =>
            refine ⟨j + 1, by go_num, by omega, ⟨?_⟩, ⟨HB3.out⟩⟩
            have e := HI3.out
            rw [HT.out, hexOf_snoc]
            have e2 : Lib.strCells ⟨(hexDigits (a0[j]).toNat).toArray⟩ = [Value.int .u8 ((hexdigit ((a0[j]).toNat / 16)).toNat : Int), Value.int .u8 ((hexdigit ((a0[j]).toNat % 16)).toNat : Int)] := by rw [hexDigits_two _ (by omega) hc256]; rfl
            rw [e2] at e
            simpa [Lib.byteCells] using e
          case measure => simp [RowKit.intOf]; omega
      · have hje : j = a0.size := by omega
        have HJ := Aside0.mk (show a0.data.toList.take j = a0.data.toList from List.take_of_length_le (by rw [Array.length_toList, hje]; exact Nat.le_refl _))
        clear hje
        have e := HI.out
        rw [HJ.out] at e
        have H1 := Lib.hid (Tryd.Builder_String_any_k w.heap.size w.heap.size _ wr e HB.out.size)
        clear e
        go_wp2_with fail
        refine H1.out.mono ?_
        rintro e w1 ⟨rfl, _, bl, _⟩
        have HB1 := Aside0.mk (HB.out.trans bl)
        clear bl
        go_wp2_with fail
        go_ret
        exact ⟨rfl, HB1.out⟩
  · rw [if_neg hc] at h; exact absurd h (by simp)
end Go.Proofs.YtmegbllhidkmoaaDoor.Tx
