/- strconv.ParseUint at base 16, 16 bits. -/
import Derived.Test.YtmegbllhidkmoaaDoorGivenC
import Derived.Lib.Strings
import Derived.Lib.Walk
import Derived.Lib.ConvBytes
import Derived.Lib.ParseIntBMem
import Derived.Lib.Hide
import Derived.Laws.Strings3
import Derived.Laws.Closers25
import Derived.Laws.Closers25b
import Derived.WalkKit
import Derived.BigCall
import Derived.BigGuard
namespace Go.Proofs.YtmegbllhidkmoaaDoor.Tx
open Go.RowKit Go.Lib Go.Proofs.YtmegbllhidkmoaaDoorW.PrintWords
set_option linter.unusedVariables false

def hexval (c : UInt8) : Option Nat :=
  if 48 ≤ c.toNat ∧ c.toNat ≤ 57 then some (c.toNat - 48) else if 97 ≤ c.toNat ∧ c.toNat ≤ 102 then some (c.toNat - 87) else if 65 ≤ c.toNat ∧ c.toNat ≤ 70 then some (c.toNat - 55) else none
def parse16 : Nat → List UInt8 → Option Nat
  | acc, [] => some acc
  | acc, c :: l => match hexval c with
    | none => none
    | some d => if 65535 < acc * 16 + d then none else parse16 (acc * 16 + d) l
def Post16 (o : Option Nat) (e : Ending) : Prop :=
  match o with
  | some n => e = .returned (.tuple #[.int .u64 n, .nilIface])
  | none => ∃ (x c : Int), (c = 1 ∨ c = 2) ∧ e = .returned (.tuple #[.int .u64 x, .iface 97 (.int .i64 c)])
theorem Post16.bad {o : Option Nat} (h : o = none) (x c : Int) (hc : c = 1 ∨ c = 2) : Post16 o (.returned (.tuple #[.int .u64 x, .iface 97 (.int .i64 c)])) := by subst h; exact ⟨x, c, hc, rfl⟩
theorem Post16.good {o : Option Nat} {n : Nat} (h : o = some n) : Post16 o (.returned (.tuple #[.int .u64 n, .nilIface])) := by subst h; rfl

theorem low_small : ∀ c : Fin 256, (97 ≤ c.val ∧ c.val ≤ 102 → bits BinOp.or IntKind.u8 (c.val : Int) 32 = (c.val : Int)) ∧ (65 ≤ c.val ∧ c.val ≤ 70 → bits BinOp.or IntKind.u8 (c.val : Int) 32 = (c.val : Int) + 32) ∧ (¬ (97 ≤ c.val ∧ c.val ≤ 102) → ¬ (65 ≤ c.val ∧ c.val ≤ 70) → ¬ (97 ≤ bits BinOp.or IntKind.u8 (c.val : Int) 32 ∧ bits BinOp.or IntKind.u8 (c.val : Int) 32 ≤ 102)) := by decide +kernel

set_option maxHeartbeats 3200000 in
set_option maxRecDepth 100000 in
theorem parseUint_16 (t : ByteArray) (hne : t.size ≠ 0) (hmax : t.size ≤ 9223372036854775806) (w : World) :
    Calls Tryd.prog 66 #[.string t, .int .i64 16, .int .i64 16] w fun e w' => Post16 (parse16 0 t.data.toList) e ∧ w' = Lib.bytesWorld w 5 t := by
  have hemp : t.toList.isEmpty = false := by
    rw [← decide_eq_emptyBytes]
    exact decide_eq_false (fun h => hne (by rw [h]; rfl))
  have hcv := Lib.run_convert_string_bytes (P := Tryd.prog) w 9 64 5 t (u := .string) Tryd.underlying9 Tryd.underlying64 Tryd.underlying5
  have hB : ∀ j, j < t.size → (Lib.bytesWorld w 5 t).cell? ⟨w.heap.size, j, none⟩ = some (.int .u8 (t.data.toList.getD j 0).toNat) := fun j hj => Lib.bytesWorld_cell w 5 t j hj
  obtain ⟨W1, hW1⟩ : ∃ W1, W1 = Lib.bytesWorld w 5 t := ⟨_, rfl⟩
  rw [← hW1] at hcv hB ⊢
  clear hW1
  obtain ⟨bs, hL⟩ : ∃ bs, bs = t.data.toList := ⟨_, rfl⟩
  have hLn : bs.length = t.size := by rw [hL, Lib.size_eq]
  rw [← hL] at hB ⊢
  clear hL
  have hmv : IntKind.u64.wrap (IntKind.u64.wrap 65536 - 1) = 65535 := by
    rw [IntKind.wrap_u64, IntKind.wrap_u64]
    decide
  go_enter Tryd.func66, Tryd.ntmps66
  go_wp2
  go_loop [12, 13, 101] (fun vu vn vi => ∃ (k acc : Nat) (a : Int), vu = .bool false ∧ vn = .int .u64 a ∧ vi = .int .i64 k ∧ k ≤ t.size ∧ Hid (a = (acc : Int) ∧ acc ≤ 65535 ∧ parse16 0 bs = parse16 acc (bs.drop k)))
    (fun _ _ vi => t.size - (RowKit.intOf vi).toNat)
  case atStart => exact ⟨0, 0, 0, rfl, rfl, rfl, by omega, rfl, by omega, rfl⟩
  case round =>
    obtain ⟨k, acc, a, rfl, rfl, rfl, hk, hh⟩ := hrel
    obtain ⟨ha, hacc, hdec⟩ := hh.out
    clear hh
    have a0 : 0 ≤ a := by omega
    have a1 : a ≤ 65535 := by omega
    by_cases hkn : k < t.size
    · have hc := hB k hkn
      have hdrop : bs.drop k = bs[k]'(by omega) :: bs.drop (k + 1) := List.drop_eq_getElem_cons (by omega)
      have hget : bs.getD k 0 = bs[k]'(by omega) := by simp [List.getD, List.getElem?_eq_getElem (show k < bs.length by omega)]
      rw [hdrop] at hdec
      rw [hget] at hc
      generalize bs[k]'(by omega) = c at hc hdec
      have hc256 : c.toNat < 256 := c.toNat_lt
      have hlow := low_small ⟨c.toNat, hc256⟩
      clear hB hdrop hget
      by_cases hdig : 48 ≤ c.toNat ∧ c.toNat ≤ 57
      · obtain ⟨hd0, hd1⟩ := hdig
        clear hlow
        by_cases hov : 65535 < acc * 16 + (c.toNat - 48)
        · have hF : parse16 acc (c :: bs.drop (k + 1)) = none := by simp [parse16, hexval, hd0, hd1, hov]
          rw [hF] at hdec
          have iov : 65535 < a * 16 + ((c.toNat : Int) - 48) := by omega
          clear hacc hF hov ha
          go_wp2
          go_ret2
          exact ⟨Post16.bad rfl 65535 1 (.inl rfl), rfl⟩
        · have hF : parse16 acc (c :: bs.drop (k + 1)) = parse16 (acc * 16 + (c.toNat - 48)) (bs.drop (k + 1)) := by simp [parse16, hexval, hd0, hd1, hov]
          have HN : Hid (a * 16 + ((c.toNat : Int) - 48) = ((acc * 16 + (c.toNat - 48) : Nat) : Int) ∧ acc * 16 + (c.toNat - 48) ≤ 65535 ∧ parse16 0 bs = parse16 (acc * 16 + (c.toNat - 48)) (bs.drop (k + 1))) := Lib.hid ⟨by omega, by omega, hdec.trans hF⟩
          have iov : a * 16 + ((c.toNat : Int) - 48) ≤ 65535 := by omega
          clear hacc hF hov hdec ha
          go_wp2
          refine ⟨⟨k + 1, acc * 16 + (c.toNat - 48), a * 16 + ((c.toNat : Int) - 48), rfl, (by first | rfl | (congr 1; omega)), (by first | rfl | (congr 1; omega)), by omega, HN⟩, by simp [RowKit.intOf]; omega⟩
      · by_cases hl1 : 97 ≤ c.toNat ∧ c.toNat ≤ 102
        · obtain ⟨hd0, hd1⟩ := hl1
          have hlw : bits BinOp.or IntKind.u8 (c.toNat : Int) 32 = (c.toNat : Int) := hlow.1 ⟨hd0, hd1⟩
          have hnd0 : (57 : Int) < (c.toNat : Int) := by omega
          clear hlow
          by_cases hov : 65535 < acc * 16 + (c.toNat - 87)
          · have hF : parse16 acc (c :: bs.drop (k + 1)) = none := by simp [parse16, hexval, hdig, hd0, hd1, hov]
            rw [hF] at hdec
            have iov : 65535 < a * 16 + ((c.toNat : Int) - 87) := by omega
            clear hacc hF hov ha hdig
            go_wp2_with (go_at_call 82; refine (Tryd.internal_strconv_lower _ _).mono ?_; rintro e w' ⟨rfl, rfl⟩)
            all_goals go_ret2
            all_goals first | exact ⟨Post16.bad rfl 65535 1 (.inl rfl), rfl⟩ | exact ⟨Post16.bad hdec 65535 1 (.inl rfl), rfl⟩
          · have hF : parse16 acc (c :: bs.drop (k + 1)) = parse16 (acc * 16 + (c.toNat - 87)) (bs.drop (k + 1)) := by simp [parse16, hexval, hdig, hd0, hd1, hov]
            have HN : Hid (a * 16 + ((c.toNat : Int) - 87) = ((acc * 16 + (c.toNat - 87) : Nat) : Int) ∧ acc * 16 + (c.toNat - 87) ≤ 65535 ∧ parse16 0 bs = parse16 (acc * 16 + (c.toNat - 87)) (bs.drop (k + 1))) := Lib.hid ⟨by omega, by omega, hdec.trans hF⟩
            have iov : a * 16 + ((c.toNat : Int) - 87) ≤ 65535 := by omega
            clear hacc hF hov hdec ha hdig
            go_wp2_with (go_at_call 82; refine (Tryd.internal_strconv_lower _ _).mono ?_; rintro e w' ⟨rfl, rfl⟩)
            all_goals exact ⟨⟨k + 1, acc * 16 + (c.toNat - 87), a * 16 + ((c.toNat : Int) - 87), rfl, (by first | rfl | (congr 1; omega)), (by first | rfl | (congr 1; omega)), by omega, HN⟩, by simp [RowKit.intOf]; omega⟩
        · have hnl := hl1
          by_cases hl2 : 65 ≤ c.toNat ∧ c.toNat ≤ 70
          · obtain ⟨hd0, hd1⟩ := hl2
            have hlw : bits BinOp.or IntKind.u8 (c.toNat : Int) 32 = (c.toNat : Int) + 32 := hlow.2.1 ⟨hd0, hd1⟩
            have hnd0 : (57 : Int) < (c.toNat : Int) := by omega
            clear hlow
            by_cases hov : 65535 < acc * 16 + (c.toNat - 55)
            · have hF : parse16 acc (c :: bs.drop (k + 1)) = none := by simp [parse16, hexval, hdig, hd0, hd1, hov, hnl]
              rw [hF] at hdec
              have iov : 65535 < a * 16 + ((c.toNat : Int) - 55) := by omega
              clear hacc hF hov ha hdig hnl
              go_wp2_with (go_at_call 82; refine (Tryd.internal_strconv_lower _ _).mono ?_; rintro e w' ⟨rfl, rfl⟩)
              all_goals go_ret2
              all_goals first | exact ⟨Post16.bad rfl 65535 1 (.inl rfl), rfl⟩ | exact ⟨Post16.bad hdec 65535 1 (.inl rfl), rfl⟩
            · have hF : parse16 acc (c :: bs.drop (k + 1)) = parse16 (acc * 16 + (c.toNat - 55)) (bs.drop (k + 1)) := by simp [parse16, hexval, hdig, hd0, hd1, hov, hnl]
              have HN : Hid (a * 16 + ((c.toNat : Int) - 55) = ((acc * 16 + (c.toNat - 55) : Nat) : Int) ∧ acc * 16 + (c.toNat - 55) ≤ 65535 ∧ parse16 0 bs = parse16 (acc * 16 + (c.toNat - 55)) (bs.drop (k + 1))) := Lib.hid ⟨by omega, by omega, hdec.trans hF⟩
              have iov : a * 16 + ((c.toNat : Int) - 55) ≤ 65535 := by omega
              clear hacc hF hov hdec ha hdig hnl
              go_wp2_with (go_at_call 82; refine (Tryd.internal_strconv_lower _ _).mono ?_; rintro e w' ⟨rfl, rfl⟩)
              all_goals exact ⟨⟨k + 1, acc * 16 + (c.toNat - 55), a * 16 + ((c.toNat : Int) - 55), rfl, (by first | rfl | (congr 1; omega)), (by first | rfl | (congr 1; omega)), by omega, HN⟩, by simp [RowKit.intOf]; omega⟩
          · have hF : parse16 acc (c :: bs.drop (k + 1)) = none := by simp [parse16, hexval, hdig, hl1, hl2]
            rw [hF] at hdec
            have hno := hlow.2.2 hl1 hl2
            have hv0 := bits_lo_u8 .or (c.toNat : Int) 32
            have hv1 := bits_hi_u8 .or (c.toNat : Int) 32
            generalize hbv : bits BinOp.or IntKind.u8 (c.toNat : Int) 32 = lv at *
            have HBV := Lib.hid hbv
            clear hbv hlow hacc hF ha hl1 hl2 hnl
            have hlowc : ∀ W, Calls Tryd.prog 82 #[.int .u8 (c.toNat : Int)] W fun e w' => e = .returned (.int .u8 lv) ∧ w' = W := fun W => by
              have h := Tryd.internal_strconv_lower (c.toNat : Int) W
              rw [HBV.out] at h
              exact h
            have HLC := Lib.hid hlowc
            clear hlowc
            have hu : bits BinOp.or IntKind.u8 95 32 = 127 := by decide +kernel
            go_wp2_with (first | (go_at_call 82; (with_reducible refine (HLC.out _).mono ?_); rintro e w' ⟨rfl, rfl⟩) | (go_at_call 82; (with_reducible refine (Tryd.internal_strconv_lower 95 _).mono ?_); rintro e w' ⟨rfl, rfl⟩))
            all_goals go_ret2
            all_goals first | exact ⟨Post16.bad rfl 0 2 (.inr rfl), rfl⟩ | exact ⟨Post16.bad hdec 0 2 (.inr rfl), rfl⟩
    · have hkk : k = t.size := by omega
      subst hkk
      have hF : parse16 acc (bs.drop t.size) = some acc := by rw [List.drop_eq_nil_of_le (by omega)]; rfl
      rw [hF] at hdec
      subst ha
      clear hacc hF a0 a1
      go_wp2
      go_ret2
      exact ⟨Post16.good rfl, rfl⟩
end Go.Proofs.YtmegbllhidkmoaaDoor.Tx
