/- strconv.FormatUint at base 16: internal/strconv.formatBits. -/
import Derived.Test.YtmegbllhidkmoaaDoorGivenB
import Derived.LoopTactic
import Derived.Outline
import Derived.Deep.QuietTactic
import Derived.BigQuiet
namespace Go.Proofs.YtmegbllhidkmoaaDoor.Tx
open Go.RowKit Go.Sort Go.Lib Go.Proofs.YtmegbllhidkmoaaDoorW.PrintWords
set_option linter.unusedVariables false

set_option maxHeartbeats 800000 in
set_option maxRecDepth 100000 in
theorem trailing16 (w : World) (hz : w.cell? ⟨7, 15, none⟩ = some (.int .u8 4)) :
    Calls Tryd.prog 107 #[.int .u64 16] w fun e w' => e = .returned (.int .i64 4) ∧ w = w' := by
  have hb : IntKind.u64.wrap (bits BinOp.and IntKind.u64 16 (IntKind.u64.wrap (-16)) * 285870213051353865) / 288230376151711744 = 15 := by decide +kernel
  go_enter Tryd.func107, Tryd.ntmps107
  go_wp2
  go_ret
  exact ⟨rfl, rfl⟩
theorem pow16 (w : World) : Calls Tryd.prog 106 #[.int .i64 16] w fun e w' => e = .returned (.bool true) ∧ w = w' := by
  have hb : (bits BinOp.and IntKind.i64 16 15 == 0) = true := by decide +kernel
  go_enter Tryd.func106, Tryd.ntmps106
  go_wp2
  go_ret
  exact ⟨rfl, rfl⟩

def hexdigit (d : Nat) : UInt8 := if d < 10 then (48 + d).toUInt8 else (87 + d).toUInt8
def hexDigits (u : Nat) : List UInt8 := if h : u < 16 then [hexdigit u] else hexDigits (u / 16) ++ [hexdigit (u % 16)]
theorem hexDigits_small {u : Nat} (h : u < 16) : hexDigits u = [hexdigit u] := by rw [hexDigits, dif_pos h]
theorem hexDigits_big {u : Nat} (h : 16 ≤ u) : hexDigits u = hexDigits (u / 16) ++ [hexdigit (u % 16)] := by rw [hexDigits, dif_neg (by omega)]

def digs : ByteArray := ⟨#[48, 49, 50, 51, 52, 53, 54, 55, 56, 57, 97, 98, 99, 100, 101, 102, 103, 104, 105, 106, 107, 108, 109, 110, 111, 112, 113, 114, 115, 116, 117, 118, 119, 120, 121, 122]⟩
theorem idx_digit0 (d : Nat) (h : d < 16) (W : World) : (Instr.index 9 (.string ⟨#[48, 49, 50, 51, 52, 53, 54, 55, 56, 57, 97, 98, 99, 100, 101, 102, 103, 104, 105, 106, 107, 108, 109, 110, 111, 112, 113, 114, 115, 116, 117, 118, 119, 120, 121, 122]⟩) (.int .u64 (d : Int))).run Tryd.prog W = .ok (.int .u8 ((hexdigit d).toNat : Int)) W := by
  have : d = 0 ∨ d = 1 ∨ d = 2 ∨ d = 3 ∨ d = 4 ∨ d = 5 ∨ d = 6 ∨ d = 7 ∨ d = 8 ∨ d = 9 ∨ d = 10 ∨ d = 11 ∨ d = 12 ∨ d = 13 ∨ d = 14 ∨ d = 15 := by omega
  rcases this with rfl | rfl | rfl | rfl | rfl | rfl | rfl | rfl | rfl | rfl | rfl | rfl | rfl | rfl | rfl | rfl <;> (show _ = _; kernel_rfl)
theorem idx_digit (v : Nat) (W : World) : (Instr.index 9 (.string ⟨#[48, 49, 50, 51, 52, 53, 54, 55, 56, 57, 97, 98, 99, 100, 101, 102, 103, 104, 105, 106, 107, 108, 109, 110, 111, 112, 113, 114, 115, 116, 117, 118, 119, 120, 121, 122]⟩) (.int .u64 ((v : Int) % 16))).run Tryd.prog W = .ok (.int .u8 ((hexdigit (v % 16)).toNat : Int)) W := idx_digit0 (v % 16) (by omega) W
theorem idx_digit1 (v : Nat) (h : v < 16) (W : World) : (Instr.index 9 (.string ⟨#[48, 49, 50, 51, 52, 53, 54, 55, 56, 57, 97, 98, 99, 100, 101, 102, 103, 104, 105, 106, 107, 108, 109, 110, 111, 112, 113, 114, 115, 116, 117, 118, 119, 120, 121, 122]⟩) (.int .u64 (v : Int))).run Tryd.prog W = .ok (.int .u8 ((hexdigit v).toNat : Int)) W := idx_digit0 v h W

/-- What the array holds when the digits below v stand from place i on. -/
def HexInv (u v i : Nat) (arr : Array Value) : Prop :=
  arr.size = 65 ∧ v < 16 ^ (i - 49) ∧ ∃ ds : List UInt8, ds.length + i = 65 ∧ hexDigits u = hexDigits v ++ ds ∧ ∀ j x, ds[j]? = some x → arr[i + j]? = some (.int .u8 (x.toNat : Int))
theorem HexInv.start (u : Nat) (h : u < 18446744073709551616) : HexInv u u 65 Tryd.zeroCells118 := by
  refine ⟨by rfl, by simpa using h, [], by simp, by simp, by simp⟩
theorem HexInv.step {u v i : Nat} {arr : Array Value} (h : HexInv u v i arr) (hv : 16 ≤ v) (hi : 51 ≤ i) : HexInv u (v / 16) (i - 1) (arr.setIfInBounds (i - 1) (.int .u8 ((hexdigit (v % 16)).toNat : Int))) := by
  obtain ⟨h1, h2, ds, h3, h4, h5⟩ := h
  refine ⟨by simpa using h1, ?_, hexdigit (v % 16) :: ds, by simp; omega, by rw [h4, hexDigits_big hv]; simp, ?_⟩
  · obtain ⟨k, rfl⟩ : ∃ k, i = k + 51 := ⟨i - 51, by omega⟩
    rw [show k + 51 - 49 = (k + 1) + 1 by omega, Nat.pow_succ] at h2
    rw [show k + 51 - 1 - 49 = k + 1 by omega]
    omega
  · intro j x hj
    cases j with
    | zero => simp at hj; subst hj; simp [Array.getElem?_setIfInBounds]; omega
    | succ j =>
      simp at hj
      rw [Array.getElem?_setIfInBounds]
      rw [if_neg (by omega), show i - 1 + (j + 1) = i + j by omega]
      exact h5 j x hj
theorem HexInv.low {u v i : Nat} {arr : Array Value} (h : HexInv u v i arr) (hv : 16 ≤ v) (hi : 50 ≤ i) : 51 ≤ i := by
  obtain ⟨h1, h2, ds, h3, h4, h5⟩ := h
  rcases Nat.lt_or_ge i 51 with h | h
  · obtain rfl : i = 50 := by omega
    simp at h2
    omega
  · exact h
/-- .. and when the last one stands. -/
def HexFin (u i : Nat) (arr : Array Value) : Prop := (hexDigits u).length + i = 65 ∧ ∀ j x, (hexDigits u)[j]? = some x → arr[i + j]? = some (.int .u8 (x.toNat : Int))
theorem HexInv.fin {u v i : Nat} {arr : Array Value} (h : HexInv u v i arr) (hv : ¬ 16 ≤ v) (hi : 50 ≤ i) : HexFin u (i - 1) (arr.setIfInBounds (i - 1) (.int .u8 ((hexdigit v).toNat : Int))) := by
  obtain ⟨h1, h2, ds, h3, h4, h5⟩ := h
  rw [hexDigits_small (u := v) (by omega)] at h4
  refine ⟨by rw [h4]; simp; omega, ?_⟩
  rw [h4]
  intro j x hj
  cases j with
  | zero => simp at hj; subst hj; simp [Array.getElem?_setIfInBounds]; omega
  | succ j =>
    simp at hj
    rw [Array.getElem?_setIfInBounds]
    rw [if_neg (by omega), show i - 1 + (j + 1) = i + j by omega]
    exact h5 j x hj
theorem and15 (v : Nat) (h : v < 18446744073709551616) : bits BinOp.and IntKind.u64 (v : Int) 15 = (v : Int) % 16 := by
  show _ = ((v % 16 : Nat) : Int)
  have := bits_and_u64_nat v 15 h (by decide)
  rw [show ((15 : Nat) : Int) = 15 from rfl] at this
  rw [this, show (15 : Nat) = 2 ^ 4 - 1 from rfl, Nat.and_two_pow_sub_one_eq_mod]
theorem alen118 : Tryd.prog.arrayLen 118 = 65 := by simp [Program.arrayLen, Tryd.underlying118]

set_option maxHeartbeats 1600000 in
set_option maxRecDepth 100000 in
theorem formatBits_16 (u : Nat) (hu64 : u < 18446744073709551616) (w : World) (hz : w.cell? ⟨7, 15, none⟩ = some (.int .u8 4)) :
    Calls Tryd.prog 91 #[.slice none 0 0, .int .u64 u, .int .i64 16, .bool false, .bool false] w fun e w' => e = .returned (.tuple #[.slice none 0 0, .string ⟨(hexDigits u).toArray⟩]) ∧ Below w.heap.size w w' := by
  have HZ := Lib.hid hz
  have HST := HexInv.start u hu64
  clear hz
  go_enter Tryd.func91, Tryd.ntmps91
  go_wp2_with (first | (go_at_call 107; refine (trailing16 _ (pw_cell_below (below_alloc (Below.refl _ _) _) HZ.out)).mono ?_; rintro e w' ⟨rfl, rfl⟩) | (go_at_call 106; refine (pow16 _).mono ?_; rintro e w' ⟨rfl, rfl⟩))
  go_loopw [1, 13] (fun x s wr => ∃ (v i : Nat) (arr : Array Value), x = .int .u64 v ∧ s = .int .i64 i ∧ 50 ≤ i ∧ i ≤ 65 ∧ v < 18446744073709551616 ∧ wr = w.alloc (.cells arr 118) ∧ HexInv u v i arr) (fun _ s _ => (RowKit.intOf s).toNat)
  case atStart => exact ⟨u, 65, _, rfl, rfl, by omega, by omega, hu64, rfl, HST⟩
  case round =>
    obtain ⟨v, i, arr, rfl, rfl, hi1, hi2, hv64, rfl, hinv⟩ := hrel
    by_cases hv : 16 ≤ v
    · have hi := hinv.low hv hi1
      have hge : (16 : Int) ≤ (v : Int) := by omega
      have hand := and15 v hv64
      have hdig := idx_digit v
      have hst := hinv.step hv hi
      obtain ⟨c0, hc0⟩ : ∃ c0, arr[i - 1]? = some c0 := ⟨_, Array.getElem?_eq_getElem (by have := hinv.1; omega)⟩
      clear HST hinv
      go_wp2
      go_roundw
      case rel => exact ⟨v / 16, i - 1, _, rfl, by go_num, by omega, by omega, by omega, rfl, hst⟩
      case measure => simp [RowKit.intOf]; omega
    · have hlt : (v : Int) < 16 := by omega
      have hdig := idx_digit1 v (by omega)
      obtain ⟨c0, hc0⟩ : ∃ c0, arr[i - 1]? = some c0 := ⟨_, Array.getElem?_eq_getElem (by have := hinv.1; omega)⟩
      have HI := Lib.hid hinv
      have hi51 : i - 1 < 65 := by omega
      have hsl : ∀ W, (Instr.sliceAt 118 (.pointer (some ⟨w.heap.size, 0, none⟩)) (some (.int .i64 ((i : Int) - 1))) none none).run Tryd.prog W = .ok (.slice (some ⟨w.heap.size, i - 1, none⟩) (66 - i) (66 - i)) W := fun W => by
        rw [run_sliceAt_array_l W 118 ⟨w.heap.size, 0, none⟩ (by simp [Program.arrayLen, Program.elem, Tryd.underlying118]) .i64 ((i : Int) - 1) (by omega) (by rw [alen118]; omega)]
        rw [alen118]
        go_simp
        omega
      have hcv : ∀ arr2, HexFin u (i - 1) arr2 → (convert 64 9 (.slice (some ⟨w.heap.size, i - 1, none⟩) (66 - i) (66 - i))).run Tryd.prog (w.alloc (.cells arr2 118)) = .ok (.string ⟨(hexDigits u).toArray⟩) (w.alloc (.cells arr2 118)) := fun arr2 hf => by
        have h := run_convert_bytes_back (P := Tryd.prog) (w.alloc (.cells arr2 118)) 64 9 5 ⟨w.heap.size, i - 1, none⟩ (66 - i) (hexDigits u) Tryd.underlying64 Tryd.underlying5 Tryd.underlying9 (fun j hj => by
          rw [Lib.add_plain, World.cell?_alloc_new]
          exact hf.2 j _ (List.getElem?_eq_getElem hj))
        rw [show (hexDigits u).length = 66 - i by have := hf.1; omega] at h
        exact h
      have HF := Lib.hid (HI.out.fin hv hi1)
      have hcv2 := hcv _ HF.out
      clear HST hinv hcv
      go_wp2
      exact bodyPost_ret (v := .tuple #[.slice none 0 0, .string ⟨(hexDigits u).toArray⟩]) (by simp [results, Tryd.results91, go_sem]) rfl ⟨rfl, (Below.refl _ _).alloc (Nat.le_refl _) _⟩

set_option maxRecDepth 100000 in
theorem formatUint_16 (u : Nat) (hu64 : u < 18446744073709551616) (w : World) (hz : w.cell? ⟨7, 15, none⟩ = some (.int .u8 4)) :
    Calls Tryd.prog 68 #[.int .u64 u, .int .i64 16] w fun e w' => e = .returned (.string ⟨(hexDigits u).toArray⟩) ∧ Below w.heap.size w w' := by
  go_enter Tryd.func68, Tryd.ntmps68
  go_wp2_with (go_at_call 91; refine (formatBits_16 u hu64 _ hz).mono ?_; rintro e w' ⟨rfl, hb⟩)
  go_ret
  exact ⟨rfl, hb⟩

def strconv_FormatUint.f (a0 a1 : Int) : Option ByteArray :=
  if 0 ≤ a0 ∧ a0 ≤ 18446744073709551615 then (if a1 = 10 then some ⟨(Lib.decDigits a0.toNat).toArray⟩ else if a1 = 16 then some ⟨(hexDigits a0.toNat).toArray⟩ else none) else none
set_option maxRecDepth 100000 in
theorem strconv_FormatUint.calls (a0 a1 : Int) (r : ByteArray) (w : World) (hG : Aside0 (Glob w)) (h : strconv_FormatUint.f a0 a1 = some r) :
    Calls Tryd.prog 46 #[.int .u64 a0, .int .i64 a1] w fun e w' => e = .returned (.string r) ∧ Below w.heap.size w w' := by
  unfold strconv_FormatUint.f at h
  by_cases hc : 0 ≤ a0 ∧ a0 ≤ 18446744073709551615
  · rw [if_pos hc] at h
    obtain ⟨u, rfl⟩ : ∃ u : Nat, a0 = u := ⟨a0.toNat, by omega⟩
    have hu : u < 18446744073709551616 := by omega
    rw [Int.toNat_natCast] at h
    by_cases h10 : a1 = 10
    · rw [if_pos h10] at h
      obtain rfl := Option.some.inj h
      subst h10
      clear hc h
      go_enter Tryd.func46, Tryd.ntmps46
      go_wp2_with (go_at_call 68; refine (formatUint_10 u hu _ hG.out.tab).mono ?_; rintro e w' ⟨rfl, hb⟩)
      go_ret
      exact ⟨rfl, hb⟩
    · rw [if_neg h10] at h
      by_cases h16 : a1 = 16
      · rw [if_pos h16] at h
        obtain rfl := Option.some.inj h
        subst h16
        clear hc h h10
        go_enter Tryd.func46, Tryd.ntmps46
        go_wp2_with (go_at_call 68; refine (formatUint_16 u hu _ hG.out.tz).mono ?_; rintro e w' ⟨rfl, hb⟩)
        go_ret
        exact ⟨rfl, hb⟩
      · rw [if_neg h16] at h; exact absurd h (by simp)
  · rw [if_neg hc] at h; exact absurd h (by simp)
end Go.Proofs.YtmegbllhidkmoaaDoor.Tx
