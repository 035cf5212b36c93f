/- Plain laws: the reference's GetNum, Cut and Get4 tell what the program's tell. -/
import Derived.Test.YtmegbllhidkmoaaDoorK3
import Derived.Test.YtmegbllhidkmoaaDoorPureX
import Derived.Test.YtmegbllhidkmoaaDoorK5
import Derived.Test.YtmegbllhidkmoaaDoorK6
import Derived.Test.YtmegbllhidkmoaaDoorK7
import Derived.Test.YtmegbllhidkmoaaDoorK8
namespace Go.Proofs.YtmegbllhidkmoaaDoor.Ty
open Go.RowKit Go.Lib Go.Proofs.YtmegbllhidkmoaaDoorW.PrintWords Go.Proofs.YtmegbllhidkmoaaDoorW.PrintLast Go.Proofs.YtmegbllhidkmoaaDoorW.PrintMore Go.Proofs.YtmegbllhidkmoaaDoor.Plain Go.Proofs.YtmegbllhidkmoaaDoor.Tx
set_option linter.unusedVariables false

theorem mkB_data (s : ByteArray) : mkB s.data.toList = s := by
  apply Go.WideShapes.bytes_inj
  simp [mkB]
theorem extract_mkB (L : List UInt8) (a b : Nat) : (mkB L).extract a b = mkB ((L.drop a).take (b - a)) := by
  apply Go.WideShapes.bytes_inj
  simp [mkB, ByteArray.data_extract]

theorem cut_go (L : List UInt8) (c : UInt8) (hL : L.length ≤ 70000) : ∀ (m i at_ k : Nat) (acc : List ByteArray) (x : List UInt8), i + m = L.length → m + 1 ≤ k → at_ ≤ i → x = (L.drop at_).take (i - at_) → c ∉ x → acc.length ≤ i →
    tenancyref02_Cut.l0 k (mkB L) (c.toNat : Int) acc (at_ : Int) (i : Int) = some (acc ++ (splitL c (L.drop at_)).map mkB)
  | m, i, at_, 0, acc, x, hi, hk, ha, hx, hc, hl => by omega
  | 0, i, at_, k + 1, acc, x, hi, hk, ha, hx, hc, hl => by
    have e : L.drop at_ = x := by
      rw [hx, List.take_of_length_le (by simp; omega)]
    rw [tenancyref02_Cut.l0, if_neg (by rw [mkB_size]; omega), if_pos (by omega), if_pos (by rw [mkB_size]; omega), if_pos (by omega), e, splitL_none c x hc, Int.toNat_natCast, extract_mkB, mkB_size]
    rw [List.take_of_length_le (by simp), e]
    rfl
  | m + 1, i, at_, k + 1, acc, x, hi, hk, ha, hx, hc, hl => by
    have hlt : i < L.length := by omega
    have hg := List.getElem?_eq_getElem hlt
    have hb := bt_mkB L i _ hg
    have ew : wrap64 ((i : Int) + 1) = ((i + 1 : Nat) : Int) := by rw [wrap64_id _ (by omega) (by omega)]; omega
    have hd : L.drop at_ = x ++ L[i] :: L.drop (i + 1) := by
      have h1 : L.drop at_ = (L.drop at_).take (i - at_) ++ (L.drop at_).drop (i - at_) := (List.take_append_drop _ _).symm
      rw [List.drop_drop, show at_ + (i - at_) = i by omega, ← hx] at h1
      rw [h1, List.drop_eq_getElem_cons hlt]
    rw [tenancyref02_Cut.l0, if_pos (by rw [mkB_size]; omega), if_pos (by omega), hb]
    by_cases he : L[i] = c
    · rw [if_pos (by rw [he]), if_pos (by omega), if_pos (by omega), if_pos (by rw [mkB_size]; omega), if_pos (by omega), ew, Int.toNat_natCast, Int.toNat_natCast, extract_mkB, ← hx]
      rw [cut_go L c hL m (i + 1) (i + 1) k (acc ++ [mkB x]) [] (by omega) (by omega) (by omega) (by simp) (by simp) (by simp; omega)]
      rw [hd, he, splitL_app c _ x hc]
      simp
    · rw [if_neg (fun h => he (UInt8.toNat_inj.1 (by exact_mod_cast h))), ew]
      exact cut_go L c hL m (i + 1) at_ k acc (x ++ [L[i]]) (by omega) (by omega) (by omega) (by
        have hlen : x.length = i - at_ := by rw [hx]; simp; omega
        rw [hd, show x ++ L[i] :: L.drop (i + 1) = (x ++ [L[i]]) ++ L.drop (i + 1) by simp, show i + 1 - at_ = (x ++ [L[i]]).length by simp; omega]
        exact (List.take_left ..).symm) (fun h => by
        rw [List.mem_append, List.mem_singleton] at h
        rcases h with h | h
        · exact hc h
        · exact he h.symm) (by omega)
theorem cut_ref (s : ByteArray) (c : UInt8) (h : s.size ≤ 65536) (k : Nat) (hk : 65540 ≤ k) : tenancyref02_Cut.f k s (c.toNat : Int) = some ((splitL c s.data.toList).map mkB) := by
  have hl : s.data.toList.length = s.size := by rw [Array.length_toList]; rfl
  have := cut_go s.data.toList c (by omega) s.data.toList.length 0 0 k [] [] (by omega) (by omega) (by omega) (by simp) (by simp) (by simp)
  rw [mkB_data] at this
  unfold tenancyref02_Cut.f
  rw [show ((0 : Nat) : Int) = 0 from rfl] at this
  rw [this]
  simp

theorem decD_short (u m : Nat) (h : u < 10 ^ (m + 1)) : (decDigits u).length ≤ m + 1 := by
  induction m generalizing u with
  | zero => rw [decDigits, dif_pos (by simpa using h)]; simp
  | succ m ih =>
    rw [decDigits]; split
    · simp
    · have h10 : 10 ^ (m + 1 + 1) = 10 ^ (m + 1) * 10 := Nat.pow_succ _ _
      have := ih (u / 10) (by omega)
      simp; omega
theorem decD_head (u : Nat) (h : 1 ≤ u) : ∃ c t, decDigits u = c :: t ∧ c.toNat ≠ 48 := by
  induction u using Nat.strongRecOn with
  | ind u ih =>
    rw [decDigits]; split
    · rename_i hu
      exact ⟨_, [], rfl, by rw [UInt8.toNat_ofNat']; omega⟩
    · obtain ⟨c, t, e, hc⟩ := ih (u / 10) (by omega) (by omega)
      exact ⟨c, t ++ [UInt8.ofNat (48 + u % 10)], by rw [e]; rfl, hc⟩
theorem decD_inj (u v : Nat) (hu : u ≤ 18446744073709551615) (hv : v ≤ 18446744073709551615) (h : decDigits u = decDigits v) : u = v := by
  have h1 := parse_dec u hu
  rw [h, parse_dec v hv] at h1
  injection h1 with h1
  exact h1.symm
theorem decD_snoc (v d : Nat) (hv : 1 ≤ v) (hd : d ≤ 9) : decDigits (v * 10 + d) = decDigits v ++ [UInt8.ofNat (48 + d)] := by
  rw [decDigits, dif_neg (by omega), show (v * 10 + d) / 10 = v by omega, show (v * 10 + d) % 10 = d by omega]
theorem digit_back (c : UInt8) (h0 : 48 ≤ c.toNat) (h1 : c.toNat ≤ 57) : UInt8.ofNat (48 + (c.toNat - 48)) = c := by
  rw [show 48 + (c.toNat - 48) = c.toNat by omega]
  simp

/-- How the reference's GetNum ends. -/
def NumEnd' (L : List UInt8) (r : Int × Bool) : Prop :=
  (r = (0, false) ∧ ∀ u : Nat, u ≤ 4611686018427387904 → decDigits u ≠ L) ∨ ∃ u : Nat, r = ((u : Int), true) ∧ u ≤ 4611686018427387904 ∧ decDigits u = L
theorem num_go (L : List UInt8) (hL : L.length ≤ 19) : ∀ (m i k v : Nat), i + m = L.length → m + 1 ≤ k → 1 ≤ i → decDigits v = L.take i → v < 10 ^ i → (m ≠ 0 → 1 ≤ v) →
    ∃ r, tenancyref02_GetNum.l0 k (mkB L) (v : Int) (i : Int) = some r ∧ NumEnd' L r
  | m, i, 0, v, hi, hk, _, _, _, _ => by omega
  | 0, i, k + 1, v, hi, hk, h1, hd, hv, _ => by
    have hp : 10 ^ i ≤ 10 ^ 19 := Nat.pow_le_pow_right (by decide) (by omega)
    have e : decDigits v = L := by rw [hd, List.take_of_length_le (by omega)]
    rw [tenancyref02_GetNum.l0, if_neg (by rw [mkB_size]; omega)]
    by_cases hb : (v : Int) > 4611686018427387904
    · rw [if_pos hb]
      refine ⟨_, rfl, .inl ⟨rfl, fun u hu h => ?_⟩⟩
      have := decD_inj u v (by omega) (by omega) (h.trans e.symm)
      omega
    · rw [if_neg hb, wrap64_id _ (by omega) (by omega)]
      exact ⟨_, rfl, .inr ⟨v, rfl, by omega, e⟩⟩
  | m + 1, i, k + 1, v, hi, hk, h1, hd, hv, hne => by
    have hlt : i < L.length := by omega
    have hg := List.getElem?_eq_getElem hlt
    have hb := bt_mkB L i _ hg
    have hp : 10 ^ i ≤ 10 ^ 18 := Nat.pow_le_pow_right (by decide) (by omega)
    have hs : 10 ^ (i + 1) = 10 ^ i * 10 := Nat.pow_succ _ _
    have ew : wrap64 ((i : Int) + 1) = ((i + 1 : Nat) : Int) := by rw [wrap64_id _ (by omega) (by omega)]; omega
    have bad : (L[i].toNat < 48 ∨ 57 < L[i].toNat) → ∀ u : Nat, u ≤ 4611686018427387904 → decDigits u ≠ L := fun hc u _ h => by
      have := decD_chars u L[i] (by rw [h]; exact List.getElem_mem hlt)
      omega
    rw [tenancyref02_GetNum.l0, if_pos (by rw [mkB_size]; omega), if_pos (by omega), hb]
    by_cases c1 : (L[i].toNat : Int) < 48
    · rw [if_pos c1]; exact ⟨_, rfl, .inl ⟨rfl, bad (.inl (by omega))⟩⟩
    · rw [if_neg c1]
      by_cases c2 : (L[i].toNat : Int) > 57
      · rw [if_pos c2]; exact ⟨_, rfl, .inl ⟨rfl, bad (.inr (by omega))⟩⟩
      · rw [if_neg c2, ew]
        have ev : IntKind.u64.wrap (IntKind.u64.wrap ((v : Int) * 10) + ((L[i].toNat : Int) - 48) % 256) = ((v * 10 + (L[i].toNat - 48) : Nat) : Int) := by
          rw [wrap_u64, wrap_u64]; omega
        rw [ev]
        have hv1 := hne (by omega)
        refine num_go L hL m (i + 1) k _ (by omega) (by omega) (by omega) ?_ (by omega) (fun _ => by omega)
        rw [decD_snoc v _ hv1 (by omega), hd, digit_back _ (by omega) (by omega), List.take_add_one, hg]
        rfl
theorem getNum_ref (L : List UInt8) (k : Nat) (hk : 30 ≤ k) : ∃ r, tenancyref02_GetNum.f k (mkB L) = some r ∧ NumEnd' L r := by
  obtain ⟨k, rfl⟩ : ∃ j, k = j + 2 := ⟨k - 2, by omega⟩
  have fal : (∀ u : Nat, u ≤ 4611686018427387904 → decDigits u ≠ L) → ∃ r, tenancyref02_GetNum.j0 (k + 2) (mkB L) true = some r ∧ NumEnd' L r := fun h => by
    rw [tenancyref02_GetNum.j0, if_pos rfl]; exact ⟨_, rfl, .inl ⟨rfl, h⟩⟩
  unfold tenancyref02_GetNum.f
  rw [mkB_size]
  by_cases h0 : (L.length : Int) = 0
  · rw [if_pos h0]
    refine fal fun u _ h => ?_
    have : L = [] := List.eq_nil_of_length_eq_zero (by omega)
    exact decD_ne u (h.trans this)
  · rw [if_neg h0]
    by_cases h19 : (L.length : Int) > 19
    · rw [if_pos h19]
      refine fal fun u hu h => ?_
      have := decD_short u 18 (by omega)
      rw [h] at this; omega
    · rw [if_neg h19]
      have hlt : 0 < L.length := by omega
      have hg := List.getElem?_eq_getElem hlt
      have hb := bt_mkB L 0 _ hg
      rw [show ((0 : Nat) : Int) = 0 from rfl] at hb
      have run : (L.length = 1 ∨ L[0].toNat ≠ 48) → ∃ r, tenancyref02_GetNum.j0 (k + 2) (mkB L) false = some r ∧ NumEnd' L r := fun hz => by
        have bad : (L[0].toNat < 48 ∨ 57 < L[0].toNat) → ∀ u : Nat, u ≤ 4611686018427387904 → decDigits u ≠ L := fun hc u _ h => by
          have := decD_chars u L[0] (by rw [h]; exact List.getElem_mem hlt)
          omega
        rw [tenancyref02_GetNum.j0, if_neg (by decide), tenancyref02_GetNum.l0, if_pos (by rw [mkB_size]; omega), if_pos (by decide), hb]
        by_cases c1 : (L[0].toNat : Int) < 48
        · rw [if_pos c1]; exact ⟨_, rfl, .inl ⟨rfl, bad (.inl (by omega))⟩⟩
        · rw [if_neg c1]
          by_cases c2 : (L[0].toNat : Int) > 57
          · rw [if_pos c2]; exact ⟨_, rfl, .inl ⟨rfl, bad (.inr (by omega))⟩⟩
          · rw [if_neg c2]
            have ev : IntKind.u64.wrap (IntKind.u64.wrap ((0 : Int) * 10) + ((L[0].toNat : Int) - 48) % 256) = ((L[0].toNat - 48 : Nat) : Int) := by
              rw [wrap_u64, wrap_u64]; omega
            rw [ev, show wrap64 (0 + 1) = ((1 : Nat) : Int) from by unfold wrap64; omega]
            refine num_go L (by omega) (L.length - 1) 1 k _ (by omega) (by omega) (by omega) ?_ (by simp; omega) (fun hm => by omega)
            rw [decDigits, dif_pos (by omega), digit_back _ (by omega) (by omega), List.take_one, List.head?_eq_getElem?, hg]
            rfl
      by_cases h1 : (L.length : Int) > 1
      · rw [if_pos h1, if_pos (by omega), hb]
        by_cases hz : (L[0].toNat : Int) = 48
        · rw [show ((L[0].toNat : Int) == 48) = true from by simpa using hz]
          refine fal fun u hu h => ?_
          by_cases hu1 : 1 ≤ u
          · obtain ⟨c, t, e, hc⟩ := decD_head u hu1
            rw [h] at e
            have : L[0] = c := by simp [e]
            rw [this] at hz; omega
          · obtain rfl : u = 0 := by omega
            rw [decDigits, dif_pos (by omega)] at h
            rw [← h] at h1; simp at h1
        · rw [show ((L[0].toNat : Int) == 48) = false from by simpa using hz]
          exact run (.inr (by omega))
      · rw [if_neg h1]; exact run (.inl (by omega))
/-- The program's GetNum ends as the reference's. -/
theorem getNum_same (p : ByteArray) (h : p.size ≤ 281474976710656) (k : Nat) (hk : 30 ≤ k) : ∃ (v : Int) (ok : Bool), text_GetNum.f p = some (v, ok) ∧ tenancyref02_GetNum.f k p = some (v, ok) ∧
    (ok = true → 0 ≤ v ∧ v ≤ 4611686018427387904) ∧ (ok = false → v = 0) := by
  obtain ⟨r, e, hr⟩ := getNum_ref p.data.toList k hk
  rw [mkB_data] at e
  rcases hr with ⟨rfl, hno⟩ | ⟨u, rfl, hu, hd⟩
  · obtain ⟨v, ok, e2, ht, hf⟩ := gn p h
    cases ok with
    | true =>
      obtain ⟨u, _, hu, hd⟩ := ht rfl
      exact absurd hd (hno u hu)
    | false =>
      obtain rfl := hf rfl
      exact ⟨0, false, e2, e, fun h => (by cases h), fun _ => rfl⟩
  · have := getNum_dec u hu
    rw [hd, mkB_data] at this
    exact ⟨u, true, this, e, fun _ => ⟨by omega, by omega⟩, fun h => by cases h⟩

theorem get4_ref_step (k : Nat) (ps : List ByteArray) (i : Nat) (x v : Int) (ok : Bool) (p : ByteArray) (hi : i < 4) (hl : ps.length = 4) (hp : ps.getD i ByteArray.empty = p) (hg : tenancyref02_GetNum.f k p = some (v, ok)) :
    tenancyref02_Get4.l0 (k + 1) ps x (i : Int) = if ok = true then (if v > 255 then some (0, false) else tenancyref02_Get4.l0 k ps ((((x * 256) % 4294967296) + (v % 4294967296)) % 4294967296) ((i + 1 : Nat) : Int)) else some (0, false) := by
  have ew : wrap64 ((i : Int) + 1) = ((i + 1 : Nat) : Int) := by rw [wrap64_id _ (by omega) (by omega)]; omega
  have er : rdOf ByteArray.empty ps (i : Int) = p := by unfold rdOf; rw [Int.toNat_natCast]; exact hp
  rw [tenancyref02_Get4.l0, if_pos (by omega), if_pos (by omega), if_pos (by omega), er, hg, Option.bind_some, ew]
theorem split_sizes' (c : UInt8) (l : List UInt8) : ∀ x ∈ splitL c l, x.length ≤ l.length := fun x hx => by
  induction l generalizing x with
  | nil => simp [splitL] at hx; subst hx; simp
  | cons a l ih =>
    rw [splitL] at hx
    split at hx
    · rw [List.mem_cons] at hx
      rcases hx with rfl | hx
      · simp
      · have := ih x hx; simp; omega
    · split at hx
      · rename_i h t e
        rw [List.mem_cons] at hx
        rcases hx with rfl | hx
        · have := ih h (by rw [e]; exact List.mem_cons_self ..); simp; omega
        · have := ih x (by rw [e]; exact List.mem_cons_of_mem _ hx); simp; omega
      · rw [List.mem_singleton] at hx; subst hx; simp
theorem splitB_mk (c : UInt8) (s : ByteArray) : splitB ⟨#[c]⟩ 0 (countB s ⟨#[c]⟩) s = (splitL c s.data.toList).map mkB := by
  have e := splitB_splitL c s
  rw [← e, List.map_map]
  conv => lhs; rw [← List.map_id (splitB ⟨#[c]⟩ 0 (countB s ⟨#[c]⟩) s)]
  exact List.map_congr_left fun x _ => (mkB_data x).symm
theorem or_same (x v y : Int) (h0 : 0 ≤ x) (h1 : x < 16777216) (h2 : 0 ≤ v) (h3 : v ≤ 255) (hy : y = x * 256 + v) : Go.bits .or .u32 ((x * 256) % 4294967296) (v % 4294967296) = y ∧ (((x * 256) % 4294967296) + (v % 4294967296)) % 4294967296 = y := by
  subst hy
  exact ⟨u32_join x v h0 h1 h2 (by omega), by omega⟩
theorem get4_both (p0 p1 p2 p3 p : ByteArray) (i j : Nat) (x : Int) (hi : i < 4) (hp : ([p0, p1, p2, p3] : List ByteArray).getD i ByteArray.empty = p) (hps : p.size ≤ 281474976710656) (hx0 : 0 ≤ x) (hx1 : x < 16777216) (hj : 30 ≤ j) :
    (∃ v y : Int, 0 ≤ v ∧ v ≤ 255 ∧ y = x * 256 + v ∧ text_Get4.l0 (j + 1) x [p0, p1, p2, p3] 4 (i : Int) = text_Get4.l0 j y [p0, p1, p2, p3] 4 ((i + 1 : Nat) : Int) ∧
      tenancyref02_Get4.l0 (j + 1) [p0, p1, p2, p3] x (i : Int) = tenancyref02_Get4.l0 j [p0, p1, p2, p3] y ((i + 1 : Nat) : Int)) ∨
    (text_Get4.l0 (j + 1) x [p0, p1, p2, p3] 4 (i : Int) = some (0, false) ∧ tenancyref02_Get4.l0 (j + 1) [p0, p1, p2, p3] x (i : Int) = some (0, false)) := by
  obtain ⟨v, ok, g1, g2, hv, _⟩ := getNum_same p hps j hj
  have er : rdOf ByteArray.empty ([p0, p1, p2, p3] : List ByteArray) (i : Int) = p := by unfold rdOf; rw [Int.toNat_natCast]; exact hp
  have ew : wrap64 ((i : Int) + 1) = ((i + 1 : Nat) : Int) := by rw [wrap64_id _ (by omega) (by omega)]; omega
  have s1 := get4_step j x (i : Int) [p0, p1, p2, p3] p v ok (by omega) (by simp; omega) er g1
  rw [show ((([p0, p1, p2, p3] : List ByteArray).length : Nat) : Int) = 4 from rfl, ew] at s1
  have s2 := get4_ref_step j [p0, p1, p2, p3] i x v ok p hi rfl hp g2
  cases ok with
  | false => right; rw [s1, s2, if_neg (by decide), if_neg (by decide)]; exact ⟨rfl, rfl⟩
  | true =>
    rw [if_pos rfl] at s1 s2
    obtain ⟨v0, _⟩ := hv rfl
    by_cases hb : v > 255
    · right; rw [s1, s2, if_pos hb, if_pos hb]; exact ⟨rfl, rfl⟩
    · left
      rw [if_neg hb] at s1 s2
      obtain ⟨q1, q2⟩ := or_same x v _ hx0 hx1 v0 (by omega) rfl
      rw [q1] at s1; rw [q2] at s2
      exact ⟨v, _, v0, by omega, rfl, s1, s2⟩
theorem get4_core (p0 p1 p2 p3 : ByteArray) (hsz : ∀ x ∈ ([p0, p1, p2, p3] : List ByteArray), x.size ≤ 281474976710656) (k : Nat) (hk : 30 ≤ k) :
    tenancyref02_Get4.l0 (k + 5) [p0, p1, p2, p3] 0 0 = text_Get4.l0 (k + 5) 0 [p0, p1, p2, p3] 4 0 := by
  rcases get4_both p0 p1 p2 p3 p0 0 (k + 4) 0 (by decide) rfl (hsz _ (by simp)) (by decide) (by decide) (by omega) with ⟨v0, y0, a0, b0, e0, s0, r0⟩ | ⟨s0, r0⟩
  · refine r0.trans (Eq.trans ?_ s0.symm)
    rcases get4_both p0 p1 p2 p3 p1 1 (k + 3) y0 (by decide) rfl (hsz _ (by simp)) (by omega) (by omega) (by omega) with ⟨v1, y1, a1, b1, e1, s1, r1⟩ | ⟨s1, r1⟩
    · refine r1.trans (Eq.trans ?_ s1.symm)
      rcases get4_both p0 p1 p2 p3 p2 2 (k + 2) y1 (by decide) rfl (hsz _ (by simp)) (by omega) (by omega) (by omega) with ⟨v2, y2, a2, b2, e2, s2, r2⟩ | ⟨s2, r2⟩
      · refine r2.trans (Eq.trans ?_ s2.symm)
        rcases get4_both p0 p1 p2 p3 p3 3 (k + 1) y2 (by decide) rfl (hsz _ (by simp)) (by omega) (by omega) (by omega) with ⟨v3, y3, a3, b3, e3, s3, r3⟩ | ⟨s3, r3⟩
        · refine r3.trans (Eq.trans ?_ s3.symm)
          rw [tenancyref02_Get4.l0, if_neg (by decide), text_Get4.l0, if_neg (by decide)]
        · exact r3.trans s3.symm
      · exact r2.trans s2.symm
    · exact r1.trans s1.symm
  · exact r0.trans s0.symm
theorem get4_same (s : ByteArray) (h : s.size ≤ 65536) (k : Nat) (hk : 70000 ≤ k) : ∃ (n : Int) (ok : Bool), text_Get4.f k s = some (n, ok) ∧ tenancyref02_Get4.f k s = some (n, ok) ∧ 0 ≤ n ∧ n < 4294967296 := by
  have hl : s.data.toList.length = s.size := by rw [Array.length_toList]; rfl
  have hsz : ∀ x ∈ (splitL 46 s.data.toList).map mkB, x.size ≤ 281474976710656 := fun x hx => by
    rw [List.mem_map] at hx
    obtain ⟨y, hy, rfl⟩ := hx
    have := split_sizes' 46 _ y hy
    rw [mkB_size]; omega
  obtain ⟨n0, ok0, e0, b0, b1⟩ := get4_all s h k (by omega)
  refine ⟨n0, ok0, e0, ?_, b0, b1⟩
  rw [← e0]
  have hsp : strings_Split.f s (⟨#[46]⟩ : ByteArray) = some ((splitL 46 s.data.toList).map mkB) := by
    unfold strings_Split.f
    rw [if_pos ⟨by omega, by decide⟩, splitB_mk]
  have hct := cut_ref s 46 h k (by omega)
  rw [show ((46 : UInt8).toNat : Int) = 46 from rfl] at hct
  unfold tenancyref02_Get4.f text_Get4.f
  rw [hct, hsp, Option.bind_some, Option.bind_some]
  generalize (splitL 46 s.data.toList).map mkB = ps at *
  by_cases h4 : (ps.length : Int) = 4
  · rw [if_pos h4, if_pos h4, h4]
    obtain ⟨m, hm, hm30⟩ : ∃ j, k = j + 5 ∧ 30 ≤ j := ⟨k - 5, by omega, by omega⟩
    rw [hm]
    match ps, h4, hsz with
    | [p0, p1, p2, p3], _, hsz => exact get4_core p0 p1 p2 p3 hsz m hm30
  · rw [if_neg h4, if_neg h4]
end Go.Proofs.YtmegbllhidkmoaaDoor.Ty

/- Plain laws: the reference's group, row and Get6 tell what the program's tell. -/
namespace Go.Proofs.YtmegbllhidkmoaaDoor.Ty
open Go.RowKit Go.Lib Go.Proofs.YtmegbllhidkmoaaDoorW.PrintWords Go.Proofs.YtmegbllhidkmoaaDoorW.PrintLast Go.Proofs.YtmegbllhidkmoaaDoorW.PrintMore Go.Proofs.YtmegbllhidkmoaaDoor.Plain Go.Proofs.YtmegbllhidkmoaaDoor.Tx
set_option linter.unusedVariables false

def told (o : Option Nat) : Int × Bool := match o with | some n => ((n : Int), true) | none => (0, false)
theorem group_go (L : List UInt8) (hL : L.length ≤ 4) : ∀ (m i k v : Nat), i + m = L.length → 3 * m + 1 ≤ k → v < 16 ^ i → tenancyref02_group.l0 k (mkB L) (v : Int) (i : Int) = some (told (parse16 v (L.drop i)))
  | m, i, 0, v, hi, hk, hv => by omega
  | 0, i, k + 1, v, hi, hk, hv => by
    rw [tenancyref02_group.l0, if_neg (by rw [mkB_size]; omega), List.drop_of_length_le (by omega)]
    rfl
  | m + 1, i, k + 1, v, hi, hk, hv => by
    obtain ⟨k, rfl⟩ : ∃ j, k = j + 2 := ⟨k - 2, by omega⟩
    have hlt : i < L.length := by omega
    have hg := List.getElem?_eq_getElem hlt
    have hb := bt_mkB L i _ hg
    have hp : 16 ^ i ≤ 16 ^ 3 := Nat.pow_le_pow_right (by decide) (by omega)
    have hs : 16 ^ (i + 1) = 16 ^ i * 16 := Nat.pow_succ _ _
    have ew : wrap64 ((i : Int) + 1) = ((i + 1 : Nat) : Int) := by rw [wrap64_id _ (by omega) (by omega)]; omega
    have hc := (L[i]).toNat_lt
    rw [List.drop_eq_getElem_cons hlt, parse16]
    rw [tenancyref02_group.l0, if_pos (by rw [mkB_size]; omega), if_pos (by omega), hb]
    generalize hcc : L[i].toNat = c at *
    have step : ∀ d, hexval L[i] = some d → d ≤ 15 → ∀ j, 3 * m + 1 ≤ j → tenancyref02_group.l0 j (mkB L) ((v * 16 + d : Nat) : Int) ((i + 1 : Nat) : Int) = some (told (match hexval L[i] with | none => none | some d => if 65535 < v * 16 + d then none else parse16 (v * 16 + d) (L.drop (i + 1)))) := by
      intro d hd hd15 j hj
      rw [hd]
      simp only
      rw [if_neg (by omega)]
      exact group_go L hL m (i + 1) j (v * 16 + d) (by omega) hj (by omega)
    have e1 : hexval L[i] = if 48 ≤ c ∧ c ≤ 57 then some (c - 48) else if 97 ≤ c ∧ c ≤ 102 then some (c - 87) else if 65 ≤ c ∧ c ≤ 70 then some (c - 55) else none := by unfold hexval; rw [hcc]
    have bad : hexval L[i] = none → (some ((0 : Int), false) : Option (Int × Bool)) = some (told (match hexval L[i] with | none => none | some d => if 65535 < v * 16 + d then none else parse16 (v * 16 + d) (L.drop (i + 1)))) := fun h => by rw [h]; rfl
    by_cases c1 : 48 ≤ c ∧ c ≤ 57
    · rw [if_pos c1] at e1
      rw [if_pos (by omega), decide_eq_true (by omega), tenancyref02_group.j2, if_pos rfl, ew]
      have ev : IntKind.u64.wrap (IntKind.u64.wrap ((v : Int) * 16) + ((c : Int) - 48) % 256) = ((v * 16 + (c - 48) : Nat) : Int) := by
        rw [wrap_u64, wrap_u64]; omega
      rw [ev]
      exact step _ e1 (by omega) _ (by omega)
    · rw [if_neg c1] at e1
      have e2 : (if (c : Int) ≥ 48 then tenancyref02_group.j2 (k + 2) (mkB L) (v : Int) (i : Int) (c : Int) (decide ((c : Int) ≤ 57)) else tenancyref02_group.j2 (k + 2) (mkB L) (v : Int) (i : Int) (c : Int) false) = tenancyref02_group.j2 (k + 2) (mkB L) (v : Int) (i : Int) (c : Int) false := by
        by_cases h48 : (c : Int) ≥ 48
        · rw [if_pos h48, decide_eq_false (by omega)]
        · rw [if_neg h48]
      rw [e2, tenancyref02_group.j2, if_neg (by decide)]
      by_cases c2 : 97 ≤ c ∧ c ≤ 102
      · rw [if_pos c2] at e1
        rw [if_pos (by omega), decide_eq_true (by omega), tenancyref02_group.j3, if_pos rfl, ew]
        have ev : IntKind.u64.wrap (IntKind.u64.wrap (IntKind.u64.wrap ((v : Int) * 16) + ((c : Int) - 97) % 256) + 10) = ((v * 16 + (c - 87) : Nat) : Int) := by
          rw [wrap_u64, wrap_u64, wrap_u64]; omega
        rw [ev]
        exact step _ e1 (by omega) _ (by omega)
      · rw [if_neg c2] at e1
        have e3 : (if (c : Int) ≥ 97 then tenancyref02_group.j3 (k + 1) (mkB L) (v : Int) (i : Int) (c : Int) (decide ((c : Int) ≤ 102)) else tenancyref02_group.j3 (k + 1) (mkB L) (v : Int) (i : Int) (c : Int) false) = tenancyref02_group.j3 (k + 1) (mkB L) (v : Int) (i : Int) (c : Int) false := by
          by_cases h97 : (c : Int) ≥ 97
          · rw [if_pos h97, decide_eq_false (by omega)]
          · rw [if_neg h97]
        rw [e3, tenancyref02_group.j3, if_neg (by decide), ew]
        by_cases c3 : 65 ≤ c ∧ c ≤ 70
        · rw [if_pos c3] at e1
          rw [if_pos (by omega), if_pos (by omega)]
          have ev : IntKind.u64.wrap (IntKind.u64.wrap (IntKind.u64.wrap ((v : Int) * 16) + ((c : Int) - 65) % 256) + 10) = ((v * 16 + (c - 55) : Nat) : Int) := by
            rw [wrap_u64, wrap_u64, wrap_u64]; omega
          rw [ev]
          exact step _ e1 (by omega) _ (by omega)
        · rw [if_neg c3] at e1
          by_cases h65 : (c : Int) ≥ 65
          · rw [if_pos h65, if_neg (by omega)]; exact bad e1
          · rw [if_neg h65]; exact bad e1
theorem group_ref (p : ByteArray) (k : Nat) (hk : 20 ≤ k) : tenancyref02_group.f k p = some (told (partVal p)) := by
  have hl : p.data.toList.length = p.size := by rw [Array.length_toList]; rfl
  obtain ⟨k, rfl⟩ : ∃ j, k = j + 1 := ⟨k - 1, by omega⟩
  unfold tenancyref02_group.f partVal hex16
  by_cases h1 : (p.size : Int) < 1
  · rw [if_pos h1, tenancyref02_group.j0, if_pos rfl, if_pos (by omega), if_pos (List.eq_nil_of_length_eq_zero (by omega))]
    rfl
  · rw [if_neg h1]
    by_cases h4 : (p.size : Int) > 4
    · rw [decide_eq_true h4, tenancyref02_group.j0, if_pos rfl, if_neg (by omega)]
      rfl
    · rw [decide_eq_false h4, tenancyref02_group.j0, if_neg (by decide), if_pos (by omega), if_neg (fun e => by rw [e] at hl; simp at hl; omega)]
      have := group_go p.data.toList (by omega) p.data.toList.length 0 k 0 (by omega) (by omega) (by decide)
      rw [mkB_data] at this
      rw [show ((0 : Nat) : Int) = 0 from rfl] at this
      rw [this]
      rfl

def rowTold (o : Option (List Int)) : List Int × Bool := match o with | some l => (l, true) | none => ([], false)
theorem row_go (ps : List ByteArray) (hps : ps.length ≤ 70000) : ∀ (m i k : Nat) (acc : List Int), i + m = ps.length → m + 21 ≤ k → acc.length ≤ 70000 + i → tenancyref02_row.l0 k acc ps (i : Int) = some (rowTold (rowGo (ps.drop i) acc))
  | m, i, 0, acc, hi, hk, ha => by omega
  | 0, i, k + 1, acc, hi, hk, ha => by
    rw [tenancyref02_row.l0, if_neg (by omega), List.drop_of_length_le (by omega)]
    rfl
  | m + 1, i, k + 1, acc, hi, hk, ha => by
    have hlt : i < ps.length := by omega
    have ew : wrap64 ((i : Int) + 1) = ((i + 1 : Nat) : Int) := by rw [wrap64_id _ (by omega) (by omega)]; omega
    have er : rdOf ByteArray.empty ps (i : Int) = ps[i] := by unfold rdOf; rw [Int.toNat_natCast, List.getD_eq_getElem?_getD, List.getElem?_eq_getElem hlt]; rfl
    rw [tenancyref02_row.l0, if_pos (by omega), if_pos (by omega), er, group_ref ps[i] k (by omega), Option.bind_some, ew, List.drop_eq_getElem_cons hlt, rowGo]
    cases hp : partVal ps[i] with
    | none =>
      simp only [told, Bool.false_eq_true, if_false]
      rfl
    | some n =>
      simp only [told, if_true]
      rw [if_pos (by omega)]
      exact row_go ps hps m (i + 1) k _ (by omega) (by omega) (by simp; omega)
theorem row_same (s : ByteArray) (h : s.size ≤ 65536) (k : Nat) (hk : 70000 ≤ k) : tenancyref02_row.f k s = text_row.f s := by
  have hl : s.data.toList.length = s.size := by rw [Array.length_toList]; rfl
  have ht : text_row.f s = if s.toList = [] then some ([], true) else some (rowTold (rowGo (rowParts s) [])) := by
    unfold text_row.f
    rw [if_pos (by omega)]
    rfl
  rw [ht]
  unfold tenancyref02_row.f
  rw [Option.bind_some]
  by_cases he : s.toList = []
  · rw [if_pos he, if_pos he]
  · rw [if_neg he, if_neg he]
    have hct := cut_ref s 58 h k (by omega)
    rw [show ((58 : UInt8).toNat : Int) = 58 from rfl] at hct
    have hsp := splitL_len 58 s.data.toList
    have hlen : ((splitL 58 s.data.toList).map mkB).length ≤ 65537 := by rw [List.length_map]; omega
    rw [hct, Option.bind_some]
    have := row_go ((splitL 58 s.data.toList).map mkB) (by omega) ((splitL 58 s.data.toList).map mkB).length 0 k [] (by omega) (by omega) (by simp)
    rw [show ((0 : Nat) : Int) = 0 from rfl] at this
    rw [this, List.drop_zero]
    unfold rowParts
    rw [splitB_mk]

theorem is58 (c : UInt8) : ((c.toNat : Int) = 58) ↔ c = 58 := by
  constructor
  · intro h
    have h2 : c.toNat = 58 := by exact_mod_cast h
    exact UInt8.toNat_inj.1 h2
  · intro h
    subst h
    rfl
theorem pair_end (L : List UInt8) (hL : L.length ≤ 70000) (i k : Nat) (hi : L.length ≤ i + 1) (hi' : i ≤ L.length) : tenancyref02_Get6.l0 (k + 2) (mkB L) (-1) (i : Int) = tenancyref02_Get6.j2 k (-1) (mkB L) (mkB []) := by
  have ew : wrap64 ((i : Int) + 1) = ((i + 1 : Nat) : Int) := by rw [wrap64_id _ (by omega) (by omega)]; omega
  have hn : ¬ (((i + 1 : Nat) : Int) < ((mkB L).size : Int)) := by rw [mkB_size]; omega
  rw [tenancyref02_Get6.l0, ew, if_neg hn, tenancyref02_Get6.j1, if_neg (by decide), if_neg (by decide)]
  rfl
theorem pair_cut (L : List UInt8) (hL : L.length ≤ 70000) (i k : Nat) (x : Int) (hlt : i + 1 < L.length) :
    tenancyref02_Get6.j1 (k + 1) (mkB L) (i : Int) x false = tenancyref02_Get6.j2 k (i : Int) (mkB (L.take i)) (mkB (L.drop (i + 2))) := by
  have e2 : wrap64 ((i : Int) + 2) = ((i + 2 : Nat) : Int) := by rw [wrap64_id _ (by omega) (by omega)]; omega
  have h1 : (i : Int) ≤ ((mkB L).size : Int) := by rw [mkB_size]; omega
  have h2 : ((i + 2 : Nat) : Int) ≤ ((mkB L).size : Int) := by rw [mkB_size]; omega
  have x1 : (mkB L).extract 0 i = mkB (L.take i) := by rw [extract_mkB]; simp
  have x2 : (mkB L).extract (i + 2) (mkB L).size = mkB (L.drop (i + 2)) := by
    rw [extract_mkB, mkB_size, List.take_of_length_le (by simp)]
  rw [tenancyref02_Get6.j1, if_neg (by decide), if_pos (by omega), if_pos (by omega), if_pos h1, e2, if_pos (by omega), if_pos h2, Int.toNat_natCast, Int.toNat_natCast, x1, x2]
theorem pair_hit (L : List UInt8) (hL : L.length ≤ 70000) (i k : Nat) (hlt : i + 1 < L.length) (h1 : L[i]? = some 58) (h2 : L[i + 1]? = some 58) :
    tenancyref02_Get6.l0 (k + 4) (mkB L) (-1) (i : Int) = tenancyref02_Get6.j2 k (i : Int) (mkB (L.take i)) (mkB (L.drop (i + 2))) := by
  have ew : wrap64 ((i : Int) + 1) = ((i + 1 : Nat) : Int) := by rw [wrap64_id _ (by omega) (by omega)]; omega
  have hb := bt_mkB L i _ h1
  have hb' := bt_mkB L (i + 1) _ h2
  have s1 : (i : Int) < ((mkB L).size : Int) := by rw [mkB_size]; omega
  have s2 : ((i + 1 : Nat) : Int) < ((mkB L).size : Int) := by rw [mkB_size]; omega
  have d1 : decide ((-1 : Int) < 0) = true := rfl
  have d2 : decide ((i : Int) < 0) = false := decide_eq_false (by omega)
  have e58 : (((58 : UInt8).toNat : Nat) : Int) = 58 := rfl
  rw [tenancyref02_Get6.l0, ew, if_pos s2, d1, tenancyref02_Get6.j1, if_pos rfl, if_pos (by omega), if_pos s1, hb, if_pos e58, ew, if_pos (by omega), if_pos s2, hb', if_pos e58, tenancyref02_Get6.l0, d2]
  have fin := pair_cut L hL i k ((i + 1 : Nat) : Int) hlt
  split
  · exact fin
  · exact fin
theorem pair_miss (L : List UInt8) (hL : L.length ≤ 70000) (i k : Nat) (hlt : i + 1 < L.length) (a b : UInt8) (h1 : L[i]? = some a) (h2 : L[i + 1]? = some b) (hno : ¬ (a = 58 ∧ b = 58)) :
    tenancyref02_Get6.l0 (k + 2) (mkB L) (-1) (i : Int) = tenancyref02_Get6.l0 k (mkB L) (-1) ((i + 1 : Nat) : Int) := by
  have ew : wrap64 ((i : Int) + 1) = ((i + 1 : Nat) : Int) := by rw [wrap64_id _ (by omega) (by omega)]; omega
  have hb := bt_mkB L i _ h1
  have hb' := bt_mkB L (i + 1) _ h2
  have s1 : (i : Int) < ((mkB L).size : Int) := by rw [mkB_size]; omega
  have s2 : ((i + 1 : Nat) : Int) < ((mkB L).size : Int) := by rw [mkB_size]; omega
  have d1 : decide ((-1 : Int) < 0) = true := rfl
  rw [tenancyref02_Get6.l0, ew, if_pos s2, d1, tenancyref02_Get6.j1, if_pos rfl, if_pos (by omega), if_pos s1, hb, ew]
  by_cases ha : a = 58
  · rw [if_pos ((is58 a).2 ha), if_pos (by omega), if_pos s2, hb', if_neg (fun e => hno ⟨ha, (is58 b).1 e⟩)]
  · rw [if_neg (fun e => ha ((is58 a).1 e))]
/-- The reference's search for a pair of colons. -/
theorem pair_go (L : List UInt8) (hL : L.length ≤ 70000) (K : Nat) : ∀ (m i k : Nat), i + m = L.length → 2 * m + K + 6 ≤ k →
    ∃ k', K ≤ k' ∧ ((index (L.drop i) [58, 58] = -1 ∧ tenancyref02_Get6.l0 k (mkB L) (-1) (i : Int) = tenancyref02_Get6.j2 k' (-1) (mkB L) (mkB [])) ∨
      ∃ q : Nat, index (L.drop i) [58, 58] = (q : Int) ∧ i + q + 2 ≤ L.length ∧ tenancyref02_Get6.l0 k (mkB L) (-1) (i : Int) = tenancyref02_Get6.j2 k' ((i + q : Nat) : Int) (mkB (L.take (i + q))) (mkB (L.drop (i + q + 2)))) := by
  intro m
  induction m with
  | zero =>
    intro i k hi hk
    obtain ⟨j, rfl⟩ : ∃ j, k = j + 2 := ⟨k - 2, by omega⟩
    refine ⟨j, by omega, .inl ⟨?_, pair_end L hL i j (by omega) (by omega)⟩⟩
    rw [List.drop_of_length_le (by omega)]; rfl
  | succ m ih =>
    intro i k hi hk
    by_cases hm : m = 0
    · obtain ⟨j, rfl⟩ : ∃ j, k = j + 2 := ⟨k - 2, by omega⟩
      refine ⟨j, by omega, .inl ⟨?_, pair_end L hL i j (by omega) (by omega)⟩⟩
      rw [List.drop_eq_getElem_cons (by omega), List.drop_of_length_le (by omega)]
      simp [index, List.isPrefixOf]
    · have hlt : i + 1 < L.length := by omega
      have g1 := List.getElem?_eq_getElem (show i < L.length by omega)
      have g2 := List.getElem?_eq_getElem hlt
      generalize L[i] = a at g1
      generalize L[i + 1] = b at g2
      have hd : L.drop i = a :: b :: L.drop (i + 2) := by
        have x1 := List.getElem?_eq_some_iff.1 g1
        have x2 := List.getElem?_eq_some_iff.1 g2
        obtain ⟨y1, z1⟩ := x1
        obtain ⟨y2, z2⟩ := x2
        rw [List.drop_eq_getElem_cons y1, List.drop_eq_getElem_cons y2, z1, z2]
      have hd' : L.drop (i + 1) = b :: L.drop (i + 2) := by
        obtain ⟨y2, z2⟩ := List.getElem?_eq_some_iff.1 g2
        rw [List.drop_eq_getElem_cons y2, z2]
      by_cases hc : a = 58 ∧ b = 58
      · obtain ⟨rfl, rfl⟩ := hc
        obtain ⟨j, rfl⟩ : ∃ j, k = j + 4 := ⟨k - 4, by omega⟩
        refine ⟨j, by omega, .inr ⟨0, ?_, by omega, pair_hit L hL i j hlt g1 g2⟩⟩
        rw [hd, index, if_pos (by simp [List.isPrefixOf])]; rfl
      · obtain ⟨j, rfl⟩ : ∃ j, k = j + 2 := ⟨k - 2, by omega⟩
        obtain ⟨k', hk', ih'⟩ := ih (i + 1) j (by omega) (by omega)
        have hidx : index (L.drop i) [58, 58] = if index (L.drop (i + 1)) [58, 58] == -1 then -1 else index (L.drop (i + 1)) [58, 58] + 1 := by
          rw [hd, index, if_neg (fun e => hc ((cc_pre _ _ _).1 e)), ← hd']
        have hst := pair_miss L hL i j hlt a b g1 g2 hc
        refine ⟨k', hk', ?_⟩
        rw [hidx, hst]
        rcases ih' with ⟨e1, e2⟩ | ⟨q, e1, e3, e2⟩
        · left; rw [e1]; exact ⟨rfl, e2⟩
        · right
          refine ⟨q + 1, ?_, by omega, ?_⟩
          · rw [e1]
            have : ((q : Int) == -1) = false := by rw [beq_eq_false_iff_ne]; omega
            rw [this]; rfl
          · rw [e2, show i + 1 + q = i + (q + 1) by omega]

theorem zeros_l1 : ∀ (n k : Nat) (x y : List Int), x.length + y.length + n = 8 → n + 1 ≤ k → ∃ k', k = k' + n + 1 ∧ tenancyref02_Get6.l1 k x y = tenancyref02_Get6.l2 k' (x ++ List.replicate n 0 ++ y) 0 0 0
  | n, 0, x, y, h, hk => by omega
  | 0, k + 1, x, y, h, hk => by
    refine ⟨k, rfl, ?_⟩
    rw [tenancyref02_Get6.l1, wrap64_id _ (by omega) (by omega), if_neg (by omega), if_pos (by omega)]
    simp
  | n + 1, k + 1, x, y, h, hk => by
    obtain ⟨k', e, ih⟩ := zeros_l1 n k (x ++ [0]) y (by simp; omega) (by omega)
    refine ⟨k', by omega, ?_⟩
    rw [tenancyref02_Get6.l1, wrap64_id _ (by omega) (by omega), if_pos (by omega), if_pos (by omega), ih]
    congr 1
    simp [List.replicate_succ]
/-- Eight groups as two numbers. -/
def hiOf (g0 g1 g2 g3 : Int) : Int := ((g0 * 65536 + g1) * 65536 + g2) * 65536 + g3
theorem l2_step (j i : Nat) (A B a b : Int) (G : List Int) (hG : G.length = 8) (hi : i < 4) (ha : G.getD i 0 = a) (hb : G.getD (4 + i) 0 = b) (A0 : 0 ≤ A) (A1 : A < 281474976710656) (B0 : 0 ≤ B) (B1 : B < 281474976710656) (a0 : 0 ≤ a) (a1 : a ≤ 65535) (b0 : 0 ≤ b) (b1 : b ≤ 65535) :
    tenancyref02_Get6.l2 (j + 1) G (i : Int) A B = tenancyref02_Get6.l2 j G ((i + 1 : Nat) : Int) (A * 65536 + a) (B * 65536 + b) := by
  have e1 : wrap64 (4 + (i : Int)) = ((4 + i : Nat) : Int) := by rw [wrap64_id _ (by omega) (by omega)]; omega
  have e2 : wrap64 ((i : Int) + 1) = ((i + 1 : Nat) : Int) := by rw [wrap64_id _ (by omega) (by omega)]; omega
  have r1 : rd G (i : Int) = a := by unfold rd; rw [Int.toNat_natCast]; exact ha
  have r2 : rd G ((4 + i : Nat) : Int) = b := by unfold rd; rw [Int.toNat_natCast]; exact hb
  have eA : IntKind.u64.wrap (IntKind.u64.wrap (A * 65536) + a) = A * 65536 + a := by rw [wrap_u64, wrap_u64]; omega
  have eB : IntKind.u64.wrap (IntKind.u64.wrap (B * 65536) + b) = B * 65536 + b := by rw [wrap_u64, wrap_u64]; omega
  rw [tenancyref02_Get6.l2, e1, e2, if_pos (by omega), if_pos (by omega), if_pos (by omega), if_pos (by omega), if_pos (by omega), r1, r2, eA, eB]
theorem l2_at (k : Nat) (g0 g1 g2 g3 g4 g5 g6 g7 : Int) (h : ∀ x ∈ [g0, g1, g2, g3, g4, g5, g6, g7], 0 ≤ x ∧ x ≤ 65535) :
    tenancyref02_Get6.l2 (k + 5) [g0, g1, g2, g3, g4, g5, g6, g7] 0 0 0 = some (hiOf g0 g1 g2 g3, hiOf g4 g5 g6 g7, true) := by
  have b0 := h g0 (by simp); have b1 := h g1 (by simp); have b2 := h g2 (by simp); have b3 := h g3 (by simp)
  have b4 := h g4 (by simp); have b5 := h g5 (by simp); have b6 := h g6 (by simp); have b7 := h g7 (by simp)
  clear h
  have s0 := l2_step (k + 4) 0 0 0 g0 g4 [g0, g1, g2, g3, g4, g5, g6, g7] rfl (by decide) rfl rfl (by decide) (by decide) (by decide) (by decide) b0.1 b0.2 b4.1 b4.2
  refine Eq.trans s0 ?_
  refine Eq.trans (l2_step (k + 3) 1 _ _ g1 g5 [g0, g1, g2, g3, g4, g5, g6, g7] rfl (by decide) rfl rfl (by omega) (by omega) (by omega) (by omega) b1.1 b1.2 b5.1 b5.2) ?_
  refine Eq.trans (l2_step (k + 2) 2 _ _ g2 g6 [g0, g1, g2, g3, g4, g5, g6, g7] rfl (by decide) rfl rfl (by omega) (by omega) (by omega) (by omega) b2.1 b2.2 b6.1 b6.2) ?_
  refine Eq.trans (l2_step (k + 1) 3 _ _ g3 g7 [g0, g1, g2, g3, g4, g5, g6, g7] rfl (by decide) rfl rfl (by omega) (by omega) (by omega) (by omega) b3.1 b3.2 b7.1 b7.2) ?_
  rw [tenancyref02_Get6.l2, if_neg (by decide), Int.zero_mul, Int.zero_add, Int.zero_add]
  rfl
theorem l0_at (k : Nat) (hk : 9 ≤ k) (g0 g1 g2 g3 g4 g5 g6 g7 : Int) (h : ∀ x ∈ [g0, g1, g2, g3, g4, g5, g6, g7], 0 ≤ x ∧ x ≤ 65535) :
    text_Get6.l0 k [g0, g1, g2, g3, g4, g5, g6, g7] 8 0 0 0 = some (hiOf g0 g1 g2 g3, hiOf g4 g5 g6 g7, true) := by
  have b0 := h g0 (by simp); have b1 := h g1 (by simp); have b2 := h g2 (by simp); have b3 := h g3 (by simp)
  have b4 := h g4 (by simp); have b5 := h g5 (by simp); have b6 := h g6 (by simp); have b7 := h g7 (by simp)
  clear h
  have e : [g0, g1, g2, g3, g4, g5, g6, g7] = gint (hiOf g0 g1 g2 g3) (hiOf g4 g5 g6 g7) 0 8 := by
    have r : List.range' 0 8 = [0, 1, 2, 3, 4, 5, 6, 7] := rfl
    unfold gint
    rw [r]
    simp only [List.map_cons, List.map_nil, grp, hiOf, List.cons.injEq, and_true]
    refine ⟨?_, ?_, ?_, ?_, ?_, ?_, ?_, ?_⟩ <;> omega
  rw [e]
  exact fold_all _ _ (by unfold hiOf; omega) (by unfold hiOf; omega) (by unfold hiOf; omega) (by unfold hiOf; omega) k hk
theorem six_good (x y : List Int) (hle : x.length + y.length ≤ 8) (gx : ∀ z ∈ x, 0 ≤ z ∧ z ≤ 65535) (gy : ∀ z ∈ y, 0 ≤ z ∧ z ≤ 65535) (k k' : Nat) (hk : 20 ≤ k) (hk' : 20 ≤ k') :
    tenancyref02_Get6.j3 k x y false = text_Get6.j0 k' x y ((x.length : Int) + (y.length : Int)) false := by
  obtain ⟨k, rfl⟩ : ∃ j, k = j + 1 := ⟨k - 1, by omega⟩
  obtain ⟨k', rfl⟩ : ∃ j, k' = j + 1 := ⟨k' - 1, by omega⟩
  obtain ⟨n, hn⟩ : ∃ n, x.length + y.length + n = 8 := ⟨8 - (x.length + y.length), by omega⟩
  obtain ⟨k2, e2, hz⟩ := zeros_l1 n k x y hn (by omega)
  have hr : (8 - ((x.length : Int) + (y.length : Int))).toNat = n := by omega
  rw [tenancyref02_Get6.j3, if_neg (by decide), hz, text_Get6.j0, if_neg (by decide), wrap64_id _ (by omega) (by omega), if_pos (by omega), if_pos (by omega), Option.bind_some, hr]
  have hl : (x ++ List.replicate n 0 ++ y).length = 8 := by simp only [List.length_append, List.length_replicate]; omega
  have hb : ∀ z ∈ x ++ List.replicate n 0 ++ y, 0 ≤ z ∧ z ≤ 65535 := fun z hz => by
    rw [List.mem_append, List.mem_append] at hz
    rcases hz with (hz | hz) | hz
    · exact gx z hz
    · have := List.eq_of_mem_replicate hz; omega
    · exact gy z hz
  have hlen2 : (x ++ List.replicate n 0).length + y.length < 17592186044416 := by
    rw [List.length_append] at hl; omega
  rw [if_pos hlen2, Option.bind_some, hl]
  obtain ⟨k3, rfl⟩ : ∃ j, k2 = j + 5 := ⟨k2 - 5, by omega⟩
  generalize x ++ List.replicate n 0 ++ y = G at hl hb
  match G, hl with
  | [g0, g1, g2, g3, g4, g5, g6, g7], _ =>
    exact (l2_at k3 g0 g1 g2 g3 g4 g5 g6 g7 hb).trans (l0_at k' (by omega) g0 g1 g2 g3 g4 g5 g6 g7 hb).symm
theorem six_bad (x y : List Int) (n : Int) (k k' : Nat) (hk : 20 ≤ k) (hk' : 20 ≤ k') : tenancyref02_Get6.j3 k x y true = text_Get6.j0 k' x y n true := by
  obtain ⟨k, rfl⟩ : ∃ j, k = j + 1 := ⟨k - 1, by omega⟩
  obtain ⟨k', rfl⟩ : ∃ j, k' = j + 1 := ⟨k' - 1, by omega⟩
  rw [tenancyref02_Get6.j3, if_pos rfl, text_Get6.j0, if_pos rfl]
theorem six_rows (h t : List UInt8) (sh : Bool) (at_ : Int) (hh : h.length ≤ 65536) (ht : t.length ≤ 65536) (k k' : Nat) (hk : 70040 ≤ k) (hk' : 20 ≤ k') (hat : (sh = true ∧ 0 ≤ at_) ∨ (sh = false ∧ at_ = -1 ∧ t = [])) :
    tenancyref02_Get6.j2 k at_ (mkB h) (mkB t) = ((text_row.f (mkB h)).bind fun bt113 => ((text_row.f (mkB t)).bind fun bt117 => (if bt113.2 = true then (if bt117.2 = true then (if sh = true then (if (wrap64 ((bt113.1.length : Int) + (bt117.1.length : Int))) > 7 then (text_Get6.j0 k' bt113.1 bt117.1 (wrap64 ((bt113.1.length : Int) + (bt117.1.length : Int))) true) else (text_Get6.j0 k' bt113.1 bt117.1 (wrap64 ((bt113.1.length : Int) + (bt117.1.length : Int))) false)) else (text_Get6.j0 k' bt113.1 bt117.1 (wrap64 ((bt113.1.length : Int) + (bt117.1.length : Int))) ((wrap64 ((bt113.1.length : Int) + (bt117.1.length : Int))) != 8))) else (text_Get6.j0 k' bt113.1 bt117.1 (wrap64 ((bt113.1.length : Int) + (bt117.1.length : Int))) true)) else (text_Get6.j0 k' bt113.1 bt117.1 (wrap64 ((bt113.1.length : Int) + (bt117.1.length : Int))) true)))) := by
  obtain ⟨k, rfl⟩ : ∃ j, k = j + 1 := ⟨k - 1, by omega⟩
  obtain ⟨x, o1, e1, l1, g1⟩ := row_all (mkB h) (by rw [mkB_size]; omega)
  obtain ⟨y, o2, e2, l2, g2⟩ := row_all (mkB t) (by rw [mkB_size]; omega)
  have r1 := row_same (mkB h) (by rw [mkB_size]; omega) k (by omega)
  have r2 := row_same (mkB t) (by rw [mkB_size]; omega) k (by omega)
  rw [tenancyref02_Get6.j2, r1, r2, e1, e2, Option.bind_some, Option.bind_some, Option.bind_some, Option.bind_some]
  simp only
  rw [wrap64_id _ (by omega) (by omega)]
  cases o1 with
  | false => rw [if_neg (by decide), if_neg (by decide)]; exact six_bad x y _ k k' (by omega) hk'
  | true =>
    rw [if_pos rfl, if_pos rfl]
    cases o2 with
    | false => rw [if_neg (by decide), if_neg (by decide)]; exact six_bad x y _ k k' (by omega) hk'
    | true =>
      rw [if_pos rfl, if_pos rfl]
      rcases hat with ⟨rfl, h0⟩ | ⟨rfl, rfl, rfl⟩
      · rw [if_neg (by omega), if_pos (by omega), if_pos rfl]
        by_cases h7 : (x.length : Int) + (y.length : Int) > 7
        · rw [if_pos h7, decide_eq_true h7]; exact six_bad x y _ k k' (by omega) hk'
        · rw [if_neg h7, decide_eq_false h7]; exact six_good x y (by omega) g1 g2 k k' (by omega) hk'
      · have hy : y = [] := by
          have := row_words 0 0 0 0 (by decide)
          rw [show join (wds 0 0 0 0) [58] = [] from rfl, e2] at this
          have := Option.some.inj this
          exact congrArg Prod.fst this
        subst hy
        rw [if_pos (show (-1 : Int) < 0 by decide), if_neg (show ¬ ((false : Bool) = true) by decide)]
        by_cases h8 : (x.length : Int) = 8
        · rw [if_pos h8, if_neg (show ¬ ((-1 : Int) ≥ 0) by decide)]
          have : (((x.length : Int) + (([] : List Int).length : Int)) != 8) = false := by simp [h8]
          rw [this]; exact six_good x [] (by simp; omega) g1 g2 k k' (by omega) hk'
        · rw [if_neg h8]
          have : (((x.length : Int) + (([] : List Int).length : Int)) != 8) = true := by simpa using h8
          rw [this]; exact six_bad x [] _ k k' (by omega) hk'
theorem get6_same (s : ByteArray) (h : s.size ≤ 65536) (k : Nat) (hk : 400000 ≤ k) : tenancyref02_Get6.f k s = text_Get6.f k s := by
  have hl : s.data.toList.length = s.size := by rw [Array.length_toList]; rfl
  obtain ⟨k', hk', hp⟩ := pair_go s.data.toList (by omega) 80000 s.data.toList.length 0 k (by omega) (by omega)
  unfold tenancyref02_Get6.f text_Get6.f strings_Cut.f
  rw [if_pos (by omega), Option.bind_some, show (⟨#[58, 58]⟩ : ByteArray).data.toList = [58, 58] from rfl]
  rw [mkB_data, show ((0 : Nat) : Int) = 0 from rfl, List.drop_zero] at hp
  rcases hp with ⟨e1, e2⟩ | ⟨q, e1, e3, e2⟩
  · have hc : cut s.data.toList [58, 58] = (s.data.toList, [], false) := by unfold cut; rw [e1, if_neg (by decide)]
    rw [hc, e2]
    have := six_rows s.data.toList [] false (-1) (by omega) (by simp) k' k (by omega) (by omega) (.inr ⟨rfl, rfl, rfl⟩)
    rw [mkB_data] at this
    rw [this]
    simp only
    rw [show (⟨s.data.toList.toArray⟩ : ByteArray) = s from mkB_data s]
    rfl
  · rw [Nat.zero_add] at e2
    have hc : cut s.data.toList [58, 58] = (s.data.toList.take q, s.data.toList.drop (q + 2), true) := by
      unfold cut
      rw [e1, if_pos (by omega)]
      rfl
    rw [hc, e2]
    exact six_rows (s.data.toList.take q) (s.data.toList.drop (q + 2)) true (q : Int) (by simp; omega) (by simp; omega) k' k (by omega) (by omega) (.inl ⟨rfl, by omega⟩)
end Go.Proofs.YtmegbllhidkmoaaDoor.Ty

/- Plain laws: the reference's Sound tells what the program's tells. -/
namespace Go.Proofs.YtmegbllhidkmoaaDoor.Ty
open Go.RowKit Go.Lib Go.Proofs.YtmegbllhidkmoaaDoorW.PrintWords Go.Proofs.YtmegbllhidkmoaaDoorW.PrintLast Go.Proofs.YtmegbllhidkmoaaDoorW.PrintMore Go.Proofs.YtmegbllhidkmoaaDoor.Plain Go.Proofs.YtmegbllhidkmoaaDoor.Tx
set_option linter.unusedVariables false

/-- An address cut to n bits. -/
def clipN (H L n : Nat) : Nat × Nat := if n ≤ 64 then (H / 2 ^ (64 - n) * 2 ^ (64 - n), 0) else (H, L / 2 ^ (128 - n) * 2 ^ (128 - n))
theorem pow_le64 (a : Nat) (h : a ≤ 64) : 2 ^ a ≤ 18446744073709551616 := Nat.le_trans (Nat.pow_le_pow_right (by decide) h) (by decide)
theorem div_mul_lt (H d : Nat) (hH : H < 18446744073709551616) : H / d * d < 18446744073709551616 := Nat.lt_of_le_of_lt (Nat.div_mul_le_self H d) hH

theorem or_nat (i a b : Nat) (ha : a % 2 ^ i = 0) (ha1 : a < 18446744073709551616) (hb : b < 2 ^ i) (hi : i ≤ 64) : Go.bits .or .u64 (a : Int) (b : Int) = ((a + b : Nat) : Int) := by
  have h1 : (a : Int) % 2 ^ i = 0 := by
    have : ((a % 2 ^ i : Nat) : Int) = 0 := by rw [ha]; rfl
    rw [Int.natCast_emod, Int.natCast_pow] at this
    exact this
  have h2 : (b : Int) < 2 ^ i := by
    have : ((b : Nat) : Int) < ((2 ^ i : Nat) : Int) := by exact_mod_cast hb
    rw [Int.natCast_pow] at this
    exact this
  rw [Tx.u64_or i _ _ (Int.natCast_nonneg a) h1 (by omega) (Int.natCast_nonneg b) h2 hi]
  rfl
theorem or_nat' (i a b : Nat) (ha : a % 2 ^ i = 0) (ha1 : a < 18446744073709551616) (hb : b < 2 ^ i) (hi : i ≤ 64) : Go.bits .or .u64 (b : Int) (a : Int) = ((a + b : Nat) : Int) := by
  have := pow_le64 i hi
  rw [Tx.u64_or_comm _ _ (Int.natCast_nonneg b) (by omega) (Int.natCast_nonneg a) (by omega)]
  exact or_nat i a b ha ha1 hb hi
theorem down_up (H L n : Nat) (hH : H < 18446744073709551616) (hL : L < 18446744073709551616) (hn : n ≤ 128) :
    ∃ x y : Int, addr_Down.f (H : Int) (L : Int) (128 - (n : Int)) = some (x, y) ∧ addr_Up.f x y (128 - (n : Int)) = some (((clipN H L n).1 : Int), ((clipN H L n).2 : Int)) := by
  by_cases h64 : n ≤ 64
  · refine ⟨0, (H : Int) / 2 ^ (64 - n), down_far (H : Int) (L : Int) _ (64 - n) (by omega) (by omega) (by omega), ?_⟩
    have e : wrap64 (128 - (n : Int) - 64) = ((64 - n : Nat) : Int) := by unfold wrap64; omega
    have hd : ((H : Int) / 2 ^ (64 - n)) * 2 ^ (64 - n) = ((H / 2 ^ (64 - n) * 2 ^ (64 - n) : Nat) : Int) := by rw [Int.natCast_mul, Int.natCast_ediv, Int.natCast_pow]; rfl
    have hlt := div_mul_lt H (2 ^ (64 - n)) hH
    unfold addr_Up.f clipN
    rw [if_neg (by omega), if_pos (by omega), e, if_pos (by omega), shl64 _ (64 - n) (by omega) _ rfl, hd, if_pos h64]
    simp only
    rw [Int.emod_eq_of_lt (by omega) (by omega)]
    rfl
  · by_cases h128 : n = 128
    · subst h128
      refine ⟨H, L, by unfold addr_Down.f; rw [if_pos (by omega)], ?_⟩
      unfold addr_Up.f clipN
      rw [if_pos (by omega), if_neg h64]
      simp
    · obtain ⟨s, hs⟩ : ∃ s, n + s = 128 := ⟨128 - n, by omega⟩
      have es : 128 - (n : Int) = (s : Int) := by omega
      have hDE : 2 ^ s * 2 ^ (64 - s) = 18446744073709551616 := by rw [← Nat.pow_add, show s + (64 - s) = 64 by omega]
      have hD0 : 0 < 2 ^ s := Nat.two_pow_pos s
      have hE0 : 0 < 2 ^ (64 - s) := Nat.two_pow_pos _
      have hm : (H * 2 ^ (64 - s)) % 18446744073709551616 = (H % 2 ^ s) * 2 ^ (64 - s) := by rw [← hDE, Nat.mul_mod_mul_right]
      have hLD : L / 2 ^ s < 2 ^ (64 - s) := by
        apply Nat.div_lt_of_lt_mul
        rw [hDE]; exact hL
      have hHD : H % 2 ^ s < 2 ^ s := Nat.mod_lt _ hD0
      have hprod : (H % 2 ^ s) * 2 ^ (64 - s) + 2 ^ (64 - s) ≤ 18446744073709551616 := by
        rw [← hDE, ← Nat.succ_mul]
        exact Nat.mul_le_mul_right _ hHD
      have hy : Go.bits .or .u64 ((L : Int) / 2 ^ s) (((H : Int) * 2 ^ (64 - s)) % 18446744073709551616) = (((H % 2 ^ s) * 2 ^ (64 - s) + L / 2 ^ s : Nat) : Int) := by
        have c1 : ((L : Int) / 2 ^ s) = ((L / 2 ^ s : Nat) : Int) := by rw [Int.natCast_ediv, Int.natCast_pow]; rfl
        have c2 : (((H : Int) * 2 ^ (64 - s)) % 18446744073709551616) = (((H % 2 ^ s) * 2 ^ (64 - s) : Nat) : Int) := by
          rw [← hm, Int.natCast_emod, Int.natCast_mul, Int.natCast_pow]; rfl
        rw [c1, c2]
        exact or_nat' (64 - s) _ _ (Nat.mul_mod_left _ _) (by omega) hLD (by omega)
      refine ⟨(H : Int) / 2 ^ s, (((H % 2 ^ s) * 2 ^ (64 - s) + L / 2 ^ s : Nat) : Int), ?_, ?_⟩
      · rw [down_near (H : Int) (L : Int) _ s es (by omega) (by omega), hy]
      · have e : wrap64 (64 - (s : Int)) = ((64 - s : Nat) : Int) := by unfold wrap64; omega
        have hHd := div_mul_lt H (2 ^ s) hH
        have hLd := div_mul_lt L (2 ^ s) hL
        have a1 : ((H : Int) / 2 ^ s * 2 ^ s) % 18446744073709551616 = ((H / 2 ^ s * 2 ^ s : Nat) : Int) := by
          have : (H : Int) / 2 ^ s * 2 ^ s = ((H / 2 ^ s * 2 ^ s : Nat) : Int) := by push_cast; rfl
          rw [this, Int.emod_eq_of_lt (by omega) (by omega)]
        have a2 : ((((H % 2 ^ s) * 2 ^ (64 - s) + L / 2 ^ s : Nat) : Int) / 2 ^ (64 - s)) = ((H % 2 ^ s : Nat) : Int) := by
          have : (((H % 2 ^ s) * 2 ^ (64 - s) + L / 2 ^ s : Nat) : Int) / 2 ^ (64 - s) = ((((H % 2 ^ s) * 2 ^ (64 - s) + L / 2 ^ s) / 2 ^ (64 - s) : Nat) : Int) := by push_cast; rfl
          rw [this, Nat.add_comm, Nat.add_mul_div_right _ _ hE0, Nat.div_eq_of_lt hLD, Nat.zero_add]
        have a3 : ((((H % 2 ^ s) * 2 ^ (64 - s) + L / 2 ^ s : Nat) : Int) * 2 ^ s) % 18446744073709551616 = ((L / 2 ^ s * 2 ^ s : Nat) : Int) := by
          have c : (((H % 2 ^ s) * 2 ^ (64 - s) + L / 2 ^ s : Nat) : Int) * 2 ^ s = (((((H % 2 ^ s) * 2 ^ (64 - s) + L / 2 ^ s) * 2 ^ s : Nat)) : Int) := by push_cast; rfl
          have d : ((H % 2 ^ s) * 2 ^ (64 - s) + L / 2 ^ s) * 2 ^ s = L / 2 ^ s * 2 ^ s + 18446744073709551616 * (H % 2 ^ s) := by
            rw [Nat.add_mul, Nat.mul_assoc, Nat.mul_comm (2 ^ (64 - s)), hDE, Nat.mul_comm (H % 2 ^ s)]; omega
          rw [c, d]
          have : (((L / 2 ^ s * 2 ^ s + 18446744073709551616 * (H % 2 ^ s) : Nat)) : Int) % 18446744073709551616 = (((L / 2 ^ s * 2 ^ s + 18446744073709551616 * (H % 2 ^ s)) % 18446744073709551616 : Nat) : Int) := by rw [Int.natCast_emod]; rfl
          rw [this, Nat.add_mul_mod_self_left, Nat.mod_eq_of_lt hLd]
        have hor : Go.bits .or .u64 ((H / 2 ^ s * 2 ^ s : Nat) : Int) ((H % 2 ^ s : Nat) : Int) = (H : Int) := by
          rw [or_nat s _ _ (Nat.mul_mod_left _ _) hHd hHD (by omega)]
          have := Nat.div_add_mod H (2 ^ s)
          rw [Nat.mul_comm] at this
          omega
        unfold addr_Up.f clipN
        rw [es, if_neg (by omega), if_neg (by omega), if_pos (by omega), e, if_pos (by omega), shl64 _ s (by omega) _ rfl, shr64 _ (64 - s) (by omega) _ rfl, shl64 _ s (by omega) _ rfl, a1, a2, a3, hor, if_neg h64, show 128 - n = s by omega]

theorem u64_and1 (x : Nat) (h : x < 18446744073709551616) : Go.bits .and .u64 (x : Int) 1 = ((x % 2 : Nat) : Int) := by
  have := bits_mask .u64 64 (by decide) wraps_u64 1 (by decide) (x : Int) (by omega) (by omega)
  rw [show (2 : Int) ^ 1 - 1 = 1 from rfl] at this
  rw [this]
  omega
theorem half_step (H D : Nat) : H / D * D = H / (2 * D) * (2 * D) + (H / D % 2) * D := by
  have e : H / (2 * D) = H / D / 2 := by rw [Nat.mul_comm, Nat.div_div_eq_div_mul]
  have q := Nat.div_add_mod (H / D) 2
  rw [e]
  calc H / D * D = (2 * (H / D / 2) + H / D % 2) * D := by rw [q]
    _ = H / D / 2 * (2 * D) + H / D % 2 * D := by rw [Nat.add_mul, Nat.mul_comm 2 (H / D / 2), Nat.mul_assoc]
theorem clip_step (H L i : Nat) (hL : L < 18446744073709551616) (hi : i < 128) :
    clipN H L (i + 1) = if i < 64 then ((clipN H L i).1 + (H / 2 ^ (63 - i) % 2) * 2 ^ (63 - i), (clipN H L i).2) else ((clipN H L i).1, (clipN H L i).2 + (L / 2 ^ (127 - i) % 2) * 2 ^ (127 - i)) := by
  by_cases h : i < 64
  · rw [if_pos h]
    unfold clipN
    rw [if_pos (by omega), if_pos (by omega)]
    have hs := half_step H (2 ^ (63 - i))
    have e : 2 * 2 ^ (63 - i) = 2 ^ (64 - i) := by rw [show 64 - i = (63 - i) + 1 by omega, Nat.pow_succ, Nat.mul_comm]
    rw [e] at hs
    rw [show 64 - (i + 1) = 63 - i by omega, hs]
  · rw [if_neg h]
    have hs := half_step L (2 ^ (127 - i))
    have e : 2 * 2 ^ (127 - i) = 2 ^ (128 - i) := by rw [show 128 - i = (127 - i) + 1 by omega, Nat.pow_succ, Nat.mul_comm]
    rw [e] at hs
    by_cases h64 : i = 64
    · subst h64
      unfold clipN
      rw [if_neg (by omega), if_pos (by omega), show 128 - (64 + 1) = 127 - 64 by omega, hs]
      have : L / 2 ^ (128 - 64) = 0 := Nat.div_eq_of_lt hL
      rw [this]
      simp
    · unfold clipN
      rw [if_neg (by omega), if_neg (by omega), show 128 - (i + 1) = 127 - i by omega, hs]
theorem clip_lt (H L i : Nat) (hH : H < 18446744073709551616) (hL : L < 18446744073709551616) : (clipN H L i).1 < 18446744073709551616 ∧ (clipN H L i).2 < 18446744073709551616 := by
  unfold clipN
  split
  · exact ⟨div_mul_lt _ _ hH, show 0 < 18446744073709551616 by decide⟩
  · exact ⟨hH, div_mul_lt _ _ hL⟩
theorem wrap_cnt (x : Int) (j : Nat) (h : x = (j : Int)) (hj : j ≤ 200) : IntKind.u64.wrap (wrap64 x) = (j : Int) := by
  subst h
  rw [wrap64_id _ (by omega) (by omega), wrap_u64]; omega
theorem bit_at (H L i : Nat) (hH : H < 18446744073709551616) (hL : L < 18446744073709551616) (hi : i < 128) :
    tenancyref01_bit.f (H : Int) (L : Int) (i : Int) = some (((if i < 64 then H / 2 ^ (63 - i) % 2 else L / 2 ^ (127 - i) % 2 : Nat)) : Int) := by
  unfold tenancyref01_bit.f
  by_cases h : i < 64
  · rw [if_pos (by omega), wrap_cnt (63 - (i : Int)) (63 - i) (by omega) (by omega), if_pos (by omega), shr64 _ (63 - i) (by omega) _ rfl, if_pos h]
    have c : ((H : Int) / 2 ^ (63 - i)) = ((H / 2 ^ (63 - i) : Nat) : Int) := by rw [Int.natCast_ediv, Int.natCast_pow]; rfl
    rw [c, u64_and1 _ (Nat.lt_of_le_of_lt (Nat.div_le_self _ _) hH)]
  · rw [if_neg (by omega), wrap_cnt (127 - (i : Int)) (127 - i) (by omega) (by omega), if_pos (by omega), shr64 _ (127 - i) (by omega) _ rfl, if_neg h]
    have c : ((L : Int) / 2 ^ (127 - i)) = ((L / 2 ^ (127 - i) : Nat) : Int) := by rw [Int.natCast_ediv, Int.natCast_pow]; rfl
    rw [c, u64_and1 _ (Nat.lt_of_le_of_lt (Nat.div_le_self _ _) hL)]
theorem shl_one (j : Nat) (hj : j < 64) : shl .u64 1 (j : Int) = ((2 ^ j : Nat) : Int) := by
  have h := pow_le64 j (by omega)
  have h2 : 2 ^ j < 18446744073709551616 := Nat.lt_of_lt_of_le (Nat.pow_lt_pow_right (by decide) hj) (by decide)
  rw [shl64 _ j (by omega) _ rfl, Int.one_mul]
  have : (2 : Int) ^ j = ((2 ^ j : Nat) : Int) := by rw [Int.natCast_pow]; rfl
  have h3 : ((2 ^ j : Nat) : Int) < 18446744073709551616 := Int.lt_of_lt_of_le (Int.ofNat_lt.2 h2) (Int.le_of_eq rfl)
  rw [this, Int.emod_eq_of_lt (Int.natCast_nonneg _) h3]
theorem with_at (H L i : Nat) (hH : H < 18446744073709551616) (hL : L < 18446744073709551616) (hi : i < 128) :
    tenancyref01_with.f ((clipN H L i).1 : Int) ((clipN H L i).2 : Int) (i : Int) = some (((if i < 64 then (clipN H L i).1 + 2 ^ (63 - i) else (clipN H L i).1 : Nat) : Int), ((if i < 64 then (clipN H L i).2 else (clipN H L i).2 + 2 ^ (127 - i) : Nat) : Int)) := by
  obtain ⟨b1, b2⟩ := clip_lt H L i hH hL
  unfold tenancyref01_with.f
  by_cases h : i < 64
  · rw [if_pos (by omega), wrap_cnt (63 - (i : Int)) (63 - i) (by omega) (by omega), if_pos (by omega), shl_one _ (by omega), if_pos h, if_pos h]
    have hm : (clipN H L i).1 % 2 ^ (64 - i) = 0 := by
      unfold clipN
      rw [if_pos (by omega)]
      exact Nat.mul_mod_left _ _
    rw [or_nat (64 - i) _ _ hm b1 (Nat.pow_lt_pow_right (by decide) (by omega)) (by omega)]
  · rw [if_neg (by omega), wrap_cnt (127 - (i : Int)) (127 - i) (by omega) (by omega), if_pos (by omega), shl_one _ (by omega), if_neg h, if_neg h]
    have hm : (clipN H L i).2 % 2 ^ (128 - i) = 0 := by
      unfold clipN
      split
      · simp
      · exact Nat.mul_mod_left _ _
    rw [or_nat (128 - i) _ _ hm b2 (Nat.pow_lt_pow_right (by decide) (by omega)) (by omega)]
theorem clip_go (H L n : Nat) (hH : H < 18446744073709551616) (hL : L < 18446744073709551616) (hn : n ≤ 128) : ∀ (m i k : Nat), i + m = n → m + 1 ≤ k →
    tenancyref01_Clip.l0 k (n : Int) (i : Int) (H : Int) (L : Int) ((clipN H L i).1 : Int) ((clipN H L i).2 : Int) = some (((clipN H L n).1 : Int), ((clipN H L n).2 : Int), (n : Int), true)
  | m, i, 0, hi, hk => by omega
  | 0, i, k + 1, hi, hk => by
    obtain rfl : i = n := by omega
    rw [tenancyref01_Clip.l0, if_neg (by omega)]
  | m + 1, i, k + 1, hi, hk => by
    have ih := clip_go H L n hH hL hn m (i + 1) k (by omega) (by omega)
    have ew : wrap64 ((i : Int) + 1) = ((i + 1 : Nat) : Int) := by rw [wrap64_id _ (by omega) (by omega)]; omega
    have hs := clip_step H L i hL (by omega)
    rw [tenancyref01_Clip.l0, if_pos (by omega), bit_at H L i hH hL (by omega), Option.bind_some, ew]
    by_cases h : i < 64
    · rw [if_pos h] at hs ⊢
      have hb : H / 2 ^ (63 - i) % 2 = 0 ∨ H / 2 ^ (63 - i) % 2 = 1 := by omega
      rcases hb with hb | hb
      · rw [hb] at hs ⊢
        rw [if_neg (by decide)]
        rw [hs] at ih
        simpa using ih
      · rw [hb] at hs ⊢
        rw [if_pos (by decide), with_at H L i hH hL (by omega), Option.bind_some, if_pos h, if_pos h]
        rw [hs, Nat.one_mul] at ih
        exact ih
    · rw [if_neg h] at hs ⊢
      have hb : L / 2 ^ (127 - i) % 2 = 0 ∨ L / 2 ^ (127 - i) % 2 = 1 := by omega
      rcases hb with hb | hb
      · rw [hb] at hs ⊢
        rw [if_neg (by decide)]
        rw [hs] at ih
        simpa using ih
      · rw [hb] at hs ⊢
        rw [if_pos (by decide), with_at H L i hH hL (by omega), Option.bind_some, if_neg h, if_neg h]
        rw [hs, Nat.one_mul] at ih
        exact ih
/-- The program's Sound and the reference's. -/
theorem sound_same (hi lo n : Int) (h0 : 0 ≤ hi) (h1 : hi < 18446744073709551616) (h2 : 0 ≤ lo) (h3 : lo < 18446744073709551616) (hn0 : -9223372036854775808 ≤ n) (hn1 : n ≤ 9223372036854775807) (k k' : Nat) (hk : 1 ≤ k) (hk' : 200 ≤ k') :
    tenancyref01_Sound.f k' hi lo n = addr_Sound.f k hi lo n := by
  obtain ⟨H, rfl⟩ := Int.eq_ofNat_of_zero_le h0
  obtain ⟨L, rfl⟩ := Int.eq_ofNat_of_zero_le h2
  obtain ⟨k, rfl⟩ : ∃ j, k = j + 1 := ⟨k - 1, by omega⟩
  obtain ⟨k', rfl⟩ : ∃ j, k' = j + 1 := ⟨k' - 1, by omega⟩
  unfold tenancyref01_Sound.f addr_Sound.f tenancyref01_Clip.f addr_Clip.f
  by_cases hneg : n < 0
  · rw [if_pos hneg, if_pos hneg, tenancyref01_Clip.j0, if_pos rfl, addr_Clip.j0, if_pos rfl]
  · rw [if_neg hneg, if_neg hneg]
    by_cases hb : n > 128
    · rw [decide_eq_true hb, tenancyref01_Clip.j0, if_pos rfl, addr_Clip.j0, if_pos rfl]
    · obtain ⟨N, rfl⟩ := Int.eq_ofNat_of_zero_le (show 0 ≤ n by omega)
      obtain ⟨x, y, e1, e2⟩ := down_up H L N (by omega) (by omega) (by omega)
      have hg := clip_go H L N (by omega) (by omega) (by omega) N 0 k' (by omega) (by omega)
      have c0 : clipN H L 0 = (0, 0) := by
        unfold clipN
        rw [if_pos (by decide), Nat.div_eq_of_lt (show H < 2 ^ (64 - 0) by omega)]
      rw [c0] at hg
      rw [decide_eq_false hb, tenancyref01_Clip.j0, if_neg (by decide), addr_Clip.j0, if_neg (by decide), wrap64_id _ (by omega) (by omega), e1, Option.bind_some]
      simp only
      rw [e2, Option.bind_some]
      have hg' : tenancyref01_Clip.l0 k' (N : Int) 0 (H : Int) (L : Int) 0 0 = some (((clipN H L N).1 : Int), ((clipN H L N).2 : Int), (N : Int), true) := hg
      rw [hg']
end Go.Proofs.YtmegbllhidkmoaaDoor.Ty

/- Plain laws: the reference's Get and GetPrefix tell what the program's tell. -/
namespace Go.Proofs.YtmegbllhidkmoaaDoor.Ty
open Go.RowKit Go.Lib Go.Proofs.YtmegbllhidkmoaaDoorW.PrintWords Go.Proofs.YtmegbllhidkmoaaDoorW.PrintLast Go.Proofs.YtmegbllhidkmoaaDoorW.PrintMore Go.Proofs.YtmegbllhidkmoaaDoor.Plain Go.Proofs.YtmegbllhidkmoaaDoor.Tx
set_option linter.unusedVariables false

theorem get4_zero (s : ByteArray) (h : s.size ≤ 65536) (k : Nat) (hk : 70000 ≤ k) : ∃ (n : Int) (ok : Bool), text_Get4.f k s = some (n, ok) ∧ tenancyref02_Get4.f k s = some (n, ok) ∧ 0 ≤ n ∧ n < 4294967296 ∧ (ok = false → n = 0) := by
  obtain ⟨n, ok, e1, e2, b0, b1⟩ := get4_same s h k hk
  obtain ⟨n', ok', e3, z, _⟩ := dotted s h
  have e4 := up_of (f := fun k => text_Get4.f k s) (fun k => text_Get4.mono _ k) (k := 8) e3 k (by omega)
  have : (some (n, ok) : Option (Int × Bool)) = some (n', ok') := e1.symm.trans e4
  simp only [Option.some.injEq, Prod.mk.injEq] at this
  obtain ⟨rfl, rfl⟩ := this
  exact ⟨n, ok, e1, e2, b0, b1, z⟩
theorem get_same (fam : Int) (s : ByteArray) (h : s.size ≤ 65536) (k : Nat) (hk : 400000 ≤ k) :
    ∃ a b ok, text_Get.f k fam s = some (a, b, ok) ∧ tenancyref02_Get.f k fam s = some (a, b, ok) ∧ 0 ≤ a ∧ a < 18446744073709551616 ∧ 0 ≤ b ∧ b < 18446744073709551616 := by
  obtain ⟨n, ok, e1, e2, b0, b1, hz⟩ := get4_zero s h k (by omega)
  obtain ⟨a, b, ok6, e6, a0, a1, c0, c1, _⟩ := get6_all s h k (by omega)
  have e7 := (get6_same s h k hk).trans e6
  by_cases h6 : fam = 6
  · subst h6
    refine ⟨a, b, ok6, get_six k s a b ok6 e6, ?_, a0, a1, c0, c1⟩
    unfold tenancyref02_Get.f
    rw [if_pos rfl, e7, Option.bind_some]
  · by_cases h4 : fam = 4
    · subst h4
      refine ⟨0, n, ok, get_four k s n ok e1 b0 (by omega), ?_, by decide, by decide, b0, by omega⟩
      unfold tenancyref02_Get.f tenancyref01_Of4.f
      rw [if_neg (by decide), e2, Option.bind_some, if_pos rfl]
      cases ok with
      | false =>
        obtain rfl := hz rfl
        rw [if_neg (by decide)]
      | true =>
        rw [if_pos rfl, Option.bind_some, wraps_u64 n b0 (by omega)]
    · refine ⟨0, 0, false, ?_, ?_, by decide, by decide, by decide, by decide⟩
      · unfold text_Get.f
        rw [if_neg h4, if_neg h6]
      · unfold tenancyref02_Get.f
        rw [if_neg h6, e2, Option.bind_some, if_neg h4]

theorem index_none (c : UInt8) : ∀ l : List UInt8, c ∉ l → index l [c] = -1
  | [], _ => by simp [index]
  | a :: l, h => by
    have ha : ¬ c = a := fun e => h (by simp [e])
    rw [index_cons, if_neg ha, if_pos (index_none c l (fun m => h (List.mem_cons_of_mem _ m)))]
theorem mem_split (c : UInt8) : ∀ l : List UInt8, c ∈ l → ∃ h t, l = h ++ c :: t ∧ c ∉ h
  | [], h => by cases h
  | a :: l, hm => by
    by_cases e : a = c
    · exact ⟨[], l, by rw [e]; rfl, by simp⟩
    · have : c ∈ l := by
        rw [List.mem_cons] at hm
        rcases hm with hm | hm
        · exact absurd hm.symm e
        · exact hm
      obtain ⟨h, t, rfl, hc⟩ := mem_split c l this
      exact ⟨a :: h, t, rfl, fun m => by
        rw [List.mem_cons] at m
        rcases m with m | m
        · exact e m.symm
        · exact hc m⟩
theorem getNum_none (p : ByteArray) (h : p.size ≤ 281474976710656) (hno : ∀ u : Nat, decDigits u ≠ p.data.toList) : text_GetNum.f p = some (0, false) := by
  obtain ⟨v, ok, e, ht, hf⟩ := gn p h
  cases ok with
  | false => obtain rfl := hf rfl; exact e
  | true => obtain ⟨u, _, _, hd⟩ := ht rfl; exact absurd hd (hno u)

theorem prefix_tail (fam a b : Int) (v : Int) (ok ok2 : Bool) (k : Nat) (hk : 300 ≤ k) (a0 : 0 ≤ a) (a1 : a < 18446744073709551616) (b0 : 0 ≤ b) (b1 : b < 18446744073709551616) (hv : ok2 = true → 0 ≤ v ∧ v ≤ 4611686018427387904) :
    (if ok = true then (if ok2 = true then (if v > 128 then (tenancyref02_GetPrefix.j0 k fam v true a b) else (if fam = 4 then (tenancyref02_GetPrefix.j0 k fam v (decide (v > 32)) a b) else (tenancyref02_GetPrefix.j0 k fam v false a b))) else (tenancyref02_GetPrefix.j0 k fam v true a b)) else (tenancyref02_GetPrefix.j0 k fam v true a b)) =
    ((text_base.f fam).bind fun t164 => (if ok = true then (if ok2 = true then ((addr_Sound.f k a b (wrap64 (t164 + v))).bind fun t166 => (if t166 = true then (some (a, b, wrap64 (t164 + v), true)) else (some (0, 0, 0, false)))) else (some (0, 0, 0, false))) else (some (0, 0, 0, false)))) := by
  obtain ⟨k, rfl⟩ : ∃ j, k = j + 1 := ⟨k - 1, by omega⟩
  have bad : tenancyref02_GetPrefix.j0 (k + 1) fam v true a b = some (0, 0, 0, false) := by rw [tenancyref02_GetPrefix.j0, if_pos rfl]
  have hb : ∃ base, text_base.f fam = some base ∧ ((fam = 4 ∧ base = 96) ∨ (fam ≠ 4 ∧ base = 0)) := by
    unfold text_base.f
    by_cases h : fam = 4
    · exact ⟨96, by rw [if_pos h], .inl ⟨h, rfl⟩⟩
    · exact ⟨0, by rw [if_neg h], .inr ⟨h, rfl⟩⟩
  obtain ⟨base, eb, hbase⟩ := hb
  rw [eb, Option.bind_some]
  cases ok with
  | false => rw [if_neg (by decide), if_neg (by decide)]; exact bad
  | true =>
    rw [if_pos rfl, if_pos rfl]
    cases ok2 with
    | false => rw [if_neg (by decide), if_neg (by decide)]; exact bad
    | true =>
      obtain ⟨v0, v1⟩ := hv rfl
      rw [if_pos rfl, if_pos rfl]
      have hbb : 0 ≤ base ∧ base ≤ 96 := by rcases hbase with ⟨_, rfl⟩ | ⟨_, rfl⟩ <;> omega
      rw [wrap64_id _ (by omega) (by omega)]
      obtain ⟨t, hs, hs'⟩ := sound_at a b (base + v) (by omega) (by omega)
      have big : base + v > 128 → (addr_Sound.f (k + 1) a b (base + v)).bind (fun t166 => (if t166 = true then (some (a, b, base + v, true)) else (some (0, 0, 0, false)))) = (some (0, 0, 0, false) : Option (Int × Int × Int × Bool)) := fun hgt => by
        rw [hs (k + 1) (by omega), Option.bind_some]
        cases t with
        | false => rw [if_neg (by decide)]
        | true => have := hs' rfl; omega
      have same := sound_same a b (base + v) a0 a1 b0 b1 (by omega) (by omega) (k + 1) k (by omega) (by omega)
      by_cases h128 : v > 128
      · rw [if_pos h128, bad, big (by omega)]
      · rw [if_neg h128]
        rcases hbase with ⟨rfl, rfl⟩ | ⟨hf, rfl⟩
        · rw [if_pos rfl]
          by_cases h32 : v > 32
          · rw [decide_eq_true h32, bad, big (by omega)]
          · rw [decide_eq_false h32, tenancyref02_GetPrefix.j0, if_neg (by decide), if_pos rfl, wrap64_id _ (by omega) (by omega), same]
        · rw [if_neg hf, tenancyref02_GetPrefix.j0, if_neg (by decide), if_neg hf]
          rw [Int.zero_add] at same ⊢
          rw [same]
theorem getPrefix_same (fam : Int) (s : ByteArray) (h : s.size ≤ 65536) (k : Nat) (hk : 400000 ≤ k) :
    ∃ q0 q1 q2 ok, text_GetPrefix.f k fam s = some (q0, q1, q2, ok) ∧ tenancyref02_GetPrefix.f k fam s = some (q0, q1, q2, ok) := by
  have tot : tenancyref02_GetPrefix.f k fam s = text_GetPrefix.f k fam s ∧ ∃ q, text_GetPrefix.f k fam s = some q := by
    have hl : s.data.toList.length = s.size := by rw [Array.length_toList]; rfl
    have hct := cut_ref s 47 h k (by omega)
    rw [show ((47 : UInt8).toNat : Int) = 47 from rfl] at hct
    by_cases hm : (47 : UInt8) ∈ s.data.toList
    · obtain ⟨hd, t, e, hno⟩ := mem_split 47 _ hm
      have hlen : hd.length + t.length + 1 = s.size := by rw [← hl, e]; simp; omega
      obtain ⟨a, b, ok, g1, g2, a0, a1, b0, b1⟩ := get_same fam (mkB hd) (by rw [mkB_size]; omega) k hk
      obtain ⟨v, ok2, n1, n2, hv, _⟩ := getNum_same (mkB t) (by rw [mkB_size]; omega) k (by omega)
      have hT : text_GetPrefix.f k fam s = ((text_base.f fam).bind fun t164 => (if ok = true then (if ok2 = true then ((addr_Sound.f k a b (wrap64 (t164 + v))).bind fun t166 => (if t166 = true then (some (a, b, wrap64 (t164 + v), true)) else (some (0, 0, 0, false)))) else (some (0, 0, 0, false))) else (some (0, 0, 0, false)))) := by
        unfold text_GetPrefix.f strings_Cut.f
        rw [if_pos (by omega), Option.bind_some, show (⟨#[47]⟩ : ByteArray).data.toList = [47] from rfl, e, cut_one 47 hd t hno]
        simp only
        rw [show (⟨hd.toArray⟩ : ByteArray) = mkB hd from rfl, g1, Option.bind_some, show (⟨t.toArray⟩ : ByteArray) = mkB t from rfl, n1, Option.bind_some]
      have tl := prefix_tail fam a b v ok ok2 k (by omega) a0 a1 b0 b1 hv
      have ex : ∃ q, text_GetPrefix.f k fam s = some q := by
        rw [hT]
        have hb : ∃ base, text_base.f fam = some base ∧ 0 ≤ base ∧ base ≤ 96 := by
          unfold text_base.f
          by_cases h : fam = 4
          · exact ⟨96, by rw [if_pos h], by decide, by decide⟩
          · exact ⟨0, by rw [if_neg h], by decide, by decide⟩
        obtain ⟨base, eb, bb0, bb1⟩ := hb
        rw [eb, Option.bind_some]
        cases ok with
        | false => exact ⟨_, by rw [if_neg (by decide)]⟩
        | true =>
          rw [if_pos rfl]
          cases ok2 with
          | false => exact ⟨_, by rw [if_neg (by decide)]⟩
          | true =>
            obtain ⟨v0, v1⟩ := hv rfl
            obtain ⟨t', hs, _⟩ := sound_at a b (wrap64 (base + v)) (by rw [wrap64_id _ (by omega) (by omega)]; omega) (by rw [wrap64_id _ (by omega) (by omega)]; omega)
            rw [if_pos rfl, hs k (by omega), Option.bind_some]
            cases t' with
            | false => exact ⟨_, by rw [if_neg (by decide)]⟩
            | true => exact ⟨_, by rw [if_pos rfl]⟩
      refine ⟨?_, ex⟩
      unfold tenancyref02_GetPrefix.f
      rw [hct, Option.bind_some, e, splitL_app 47 t hd hno]
      by_cases hm2 : (47 : UInt8) ∈ t
      · obtain ⟨h2, t2, e3, hno2⟩ := mem_split 47 _ hm2
        have hlen3 : ¬ (((hd :: splitL 47 t).map mkB).length : Int) = 2 := by
          rw [e3, splitL_app 47 t2 h2 hno2]
          have := splitL_ne 47 t2
          cases hq : splitL 47 t2 with
          | nil => exact absurd hq this
          | cons y z => simp; omega
        rw [if_neg hlen3]
        have nz := getNum_none (mkB t) (by rw [mkB_size]; omega) (fun u hu => by
          rw [mkB_list] at hu
          exact decD_no u 47 (by decide) (by rw [hu]; exact hm2))
        rw [n1] at nz
        simp only [Option.some.injEq, Prod.mk.injEq] at nz
        obtain ⟨rfl, rfl⟩ := nz
        rw [← hT] at tl
        rw [← tl]
        obtain ⟨k, rfl⟩ : ∃ j, k = j + 1 := ⟨k - 1, by omega⟩
        cases ok <;> simp [tenancyref02_GetPrefix.j0]
      · rw [splitL_none 47 t hm2]
        have r0 : rdOf ByteArray.empty (([hd, t] : List (List UInt8)).map mkB) 0 = mkB hd := rfl
        have r1 : rdOf ByteArray.empty (([hd, t] : List (List UInt8)).map mkB) 1 = mkB t := rfl
        have l2 : ((([hd, t] : List (List UInt8)).map mkB).length : Int) = 2 := rfl
        rw [l2, if_pos rfl, if_pos (by decide), r0, g2, Option.bind_some, if_pos (by decide), r1, n2, Option.bind_some]
        exact tl.trans hT.symm
    · obtain ⟨a, b, ok, g1, g2, a0, a1, b0, b1⟩ := get_same fam s h k hk
      have hT : text_GetPrefix.f k fam s = some (0, 0, 0, false) := by
        have hc : cut s.data.toList [47] = (s.data.toList, [], false) := by unfold cut; rw [index_none 47 _ hm, if_neg (by decide)]
        have nz := getNum_none (mkB []) (by decide) (fun u hu => decD_ne u hu)
        unfold text_GetPrefix.f strings_Cut.f
        rw [if_pos (by omega), Option.bind_some, show (⟨#[47]⟩ : ByteArray).data.toList = [47] from rfl, hc]
        simp only
        rw [show (⟨s.data.toList.toArray⟩ : ByteArray) = s from mkB_data s, g1, Option.bind_some, show (⟨([] : List UInt8).toArray⟩ : ByteArray) = mkB [] from rfl, nz, Option.bind_some]
        unfold text_base.f
        by_cases h4 : fam = 4
        · rw [if_pos h4, Option.bind_some]; cases ok <;> simp
        · rw [if_neg h4, Option.bind_some]; cases ok <;> simp
      refine ⟨?_, _, hT⟩
      rw [hT]
      unfold tenancyref02_GetPrefix.f
      rw [hct, Option.bind_some, splitL_none 47 _ hm]
      rfl
  obtain ⟨e, ⟨q0, q1, q2, ok⟩, hq⟩ := tot
  exact ⟨q0, q1, q2, ok, hq, e.trans hq⟩
end Go.Proofs.YtmegbllhidkmoaaDoor.Ty

/- Plain laws: the reference's Unhex tells what the program's tells. -/
namespace Go.Proofs.YtmegbllhidkmoaaDoor.Ty
open Go.RowKit Go.Lib Go.Proofs.YtmegbllhidkmoaaDoorW.PrintWords Go.Proofs.YtmegbllhidkmoaaDoorW.PrintLast Go.Proofs.YtmegbllhidkmoaaDoorW.PrintMore Go.Proofs.YtmegbllhidkmoaaDoor.Plain Go.Proofs.YtmegbllhidkmoaaDoor.Tx
set_option linter.unusedVariables false

theorem digit_step (L : List UInt8) (hL : L.length ≤ 70000) (acc : List Int) (i x : Nat) (d : Nat) (c : UInt8) (hx : x < 2) (hc : L[i + x]? = some c) (hd : d ≤ 255) (k : Nat) :
    tenancyref02_Unhex.l1 (k + 2) (mkB L) acc (i : Int) (d : Int) (x : Int) = match lowval c with
      | some v => tenancyref02_Unhex.l1 k (mkB L) acc (i : Int) ((d * 16 + v : Nat) : Int) ((x + 1 : Nat) : Int)
      | none => some ((⟨#[]⟩ : ByteArray), false) := by
  have hlt : i + x < L.length := by
    rcases Nat.lt_or_ge (i + x) L.length with h | h
    · exact h
    · rw [List.getElem?_eq_none h] at hc; cases hc
  have hb := bt_mkB L (i + x) c hc
  have e1 : wrap64 ((i : Int) + (x : Int)) = ((i + x : Nat) : Int) := by rw [wrap64_id _ (by omega) (by omega)]; omega
  have e2 : wrap64 ((x : Int) + 1) = ((x + 1 : Nat) : Int) := by rw [wrap64_id _ (by omega) (by omega)]; omega
  have s1 : ((i + x : Nat) : Int) < ((mkB L).size : Int) := by rw [mkB_size]; omega
  have hcl := c.toNat_lt
  rw [tenancyref02_Unhex.l1, if_pos (by omega), e1, if_pos (by omega), if_pos s1, hb]
  have hlow : lowval c = if 48 ≤ c.toNat ∧ c.toNat ≤ 57 then some (c.toNat - 48) else if 97 ≤ c.toNat ∧ c.toNat ≤ 102 then some (c.toNat - 87) else none := rfl
  generalize c.toNat = n at *
  by_cases c1 : 48 ≤ n ∧ n ≤ 57
  · rw [if_pos c1] at hlow
    rw [hlow, if_pos (by omega), decide_eq_true (by omega), tenancyref02_Unhex.j2, if_pos rfl, e2]
    simp only
    have ev : wrap64 (wrap64 ((d : Int) * 16) + ((n : Int) - 48) % 256) = ((d * 16 + (n - 48) : Nat) : Int) := by
      rw [wrap64_id ((d : Int) * 16) (by omega) (by omega), wrap64_id _ (by omega) (by omega)]; omega
    rw [ev]
  · rw [if_neg c1] at hlow
    have e3 : (if (n : Int) ≥ 48 then tenancyref02_Unhex.j2 (k + 1) (mkB L) acc (i : Int) (d : Int) (x : Int) (n : Int) (decide ((n : Int) ≤ 57)) else tenancyref02_Unhex.j2 (k + 1) (mkB L) acc (i : Int) (d : Int) (x : Int) (n : Int) false) = tenancyref02_Unhex.j2 (k + 1) (mkB L) acc (i : Int) (d : Int) (x : Int) (n : Int) false := by
      by_cases h48 : (n : Int) ≥ 48
      · rw [if_pos h48, decide_eq_false (by omega)]
      · rw [if_neg h48]
    rw [e3, tenancyref02_Unhex.j2, if_neg (by decide), e2]
    by_cases c2 : 97 ≤ n ∧ n ≤ 102
    · rw [if_pos c2] at hlow
      rw [hlow, if_pos (by omega), if_pos (by omega)]
      simp only
      have ev : wrap64 (wrap64 (wrap64 ((d : Int) * 16) + ((n : Int) - 97) % 256) + 10) = ((d * 16 + (n - 87) : Nat) : Int) := by
        rw [wrap64_id ((d : Int) * 16) (by omega) (by omega), wrap64_id ((d : Int) * 16 + ((n : Int) - 97) % 256) (by omega) (by omega), wrap64_id _ (by omega) (by omega)]; omega
      rw [ev]
    · rw [if_neg c2] at hlow
      rw [hlow]
      by_cases h97 : (n : Int) ≥ 97
      · rw [if_pos h97, if_neg (by omega)]
      · rw [if_neg h97]
theorem lowval_lt (c : UInt8) (v : Nat) (h : lowval c = some v) : v < 16 := by
  have := hv_lt c
  unfold hv at this
  rw [h] at this
  exact this
theorem pair_good (L : List UInt8) (hL : L.length ≤ 70000) (acc : List Int) (hacc : acc.length ≤ 70000) (i : Nat) (a b : UInt8) (p q : Nat) (ha : L[i]? = some a) (hb : L[i + 1]? = some b) (hp : lowval a = some p) (hq : lowval b = some q) (k : Nat) :
    tenancyref02_Unhex.l0 (k + 6) (mkB L) acc (i : Int) = tenancyref02_Unhex.l0 k (mkB L) (acc ++ [((p * 16 + q : Nat) : Int)]) ((i + 2 : Nat) : Int) := by
  have hlt : i + 1 < L.length := by
    rcases Nat.lt_or_ge (i + 1) L.length with h | h
    · exact h
    · rw [List.getElem?_eq_none h] at hb; cases hb
  have s1 : (i : Int) < ((mkB L).size : Int) := by rw [mkB_size]; omega
  have p16 := lowval_lt a p hp
  have q16 := lowval_lt b q hq
  have e2 : wrap64 ((i : Int) + 2) = ((i + 2 : Nat) : Int) := by rw [wrap64_id _ (by omega) (by omega)]; omega
  have d1 := digit_step L hL acc i 0 0 a (by omega) ha (by omega) (k + 3)
  have d2 := digit_step L hL acc i 1 p b (by omega) hb (by omega) (k + 1)
  rw [hp] at d1
  rw [hq] at d2
  simp only [Nat.zero_mul, Nat.zero_add] at d1 d2
  rw [tenancyref02_Unhex.l0, if_pos s1]
  refine Eq.trans d1 (Eq.trans d2 ?_)
  rw [tenancyref02_Unhex.l1, if_neg (by decide), if_pos (by omega), e2]
  have : ((p * 16 + q : Nat) : Int) % 256 = ((p * 16 + q : Nat) : Int) := by omega
  rw [this]
theorem pair_bad (L : List UInt8) (hL : L.length ≤ 70000) (acc : List Int) (i : Nat) (a b : UInt8) (ha : L[i]? = some a) (hb : L[i + 1]? = some b) (hno : lowval a = none ∨ lowval b = none) (k : Nat) :
    tenancyref02_Unhex.l0 (k + 6) (mkB L) acc (i : Int) = some ((⟨#[]⟩ : ByteArray), false) := by
  have hlt : i + 1 < L.length := by
    rcases Nat.lt_or_ge (i + 1) L.length with h | h
    · exact h
    · rw [List.getElem?_eq_none h] at hb; cases hb
  have s1 : (i : Int) < ((mkB L).size : Int) := by rw [mkB_size]; omega
  have d1 := digit_step L hL acc i 0 0 a (by omega) ha (by omega) (k + 3)
  rw [tenancyref02_Unhex.l0, if_pos s1]
  refine Eq.trans d1 ?_
  cases hp : lowval a with
  | none => rfl
  | some p =>
    have p16 := lowval_lt a p hp
    have d2 := digit_step L hL acc i 1 p b (by omega) hb (by omega) (k + 1)
    rcases hno with h | h
    · rw [h] at hp; cases hp
    · rw [h] at d2
      simp only
      rw [Nat.zero_mul, Nat.zero_add]
      exact d2
theorem bad_go (L : List UInt8) (hL : L.length ≤ 70000) : ∀ (m i k : Nat) (acc : List Int), i + 2 * m = L.length → 6 * m + 6 ≤ k → acc.length ≤ i → (∃ j c, i ≤ j ∧ L[j]? = some c ∧ lowval c = none) →
    tenancyref02_Unhex.l0 k (mkB L) acc (i : Int) = some ((⟨#[]⟩ : ByteArray), false) := by
  intro m
  induction m with
  | zero =>
    intro i k acc hi hk ha hb
    obtain ⟨j, c, h1, h2, _⟩ := hb
    rw [List.getElem?_eq_none (by omega)] at h2; cases h2
  | succ m ih =>
    intro i k acc hi hk ha hb
    obtain ⟨k, rfl⟩ : ∃ j, k = j + 6 := ⟨k - 6, by omega⟩
    have g1 := List.getElem?_eq_getElem (show i < L.length by omega)
    have g2 := List.getElem?_eq_getElem (show i + 1 < L.length by omega)
    generalize L[i] = a at g1
    generalize L[i + 1] = b at g2
    cases hp : lowval a with
    | none => exact pair_bad L hL acc i a b g1 g2 (.inl hp) k
    | some p =>
      cases hq : lowval b with
      | none => exact pair_bad L hL acc i a b g1 g2 (.inr hq) k
      | some q =>
        rw [pair_good L hL acc (by omega) i a b p q g1 g2 hp hq k]
        refine ih (i + 2) k _ (by omega) (by omega) (by simp; omega) ?_
        obtain ⟨j, c, h1, h2, h3⟩ := hb
        refine ⟨j, c, ?_, h2, h3⟩
        by_cases e0 : j = i
        · subst e0; rw [g1] at h2; rw [← Option.some.inj h2, hp] at h3; cases h3
        · by_cases e1 : j = i + 1
          · subst e1; rw [g2] at h2; rw [← Option.some.inj h2, hq] at h3; cases h3
          · omega
theorem good_go (B : List UInt8) (hB : B.length ≤ 35000) : ∀ (m t k : Nat), t + m = B.length → 6 * m + 6 ≤ k →
    tenancyref02_Unhex.l0 k (mkB (hexOf B)) ((B.take t).map fun c => (c.toNat : Int)) ((2 * t : Nat) : Int) = some (strOfNums (B.map fun c => (c.toNat : Int)), true) := by
  intro m
  have hlen := hexOf_len B
  induction m with
  | zero =>
    intro t k ht hk
    obtain ⟨k, rfl⟩ : ∃ j, k = j + 1 := ⟨k - 1, by omega⟩
    have s1 : ¬ (((2 * t : Nat) : Int) < ((mkB (hexOf B)).size : Int)) := by rw [mkB_size]; omega
    rw [tenancyref02_Unhex.l0, if_neg s1, List.take_of_length_le (by omega)]
  | succ m ih =>
    intro t k ht hk
    obtain ⟨k, rfl⟩ : ∃ j, k = j + 6 := ⟨k - 6, by omega⟩
    have hlt : t < B.length := by omega
    have g := List.getElem?_eq_getElem hlt
    obtain ⟨h1, h2⟩ := hexOf_at B t _ g
    have hc := (B[t]).toNat_lt
    rw [pair_good (hexOf B) (by omega) _ (by simp; omega) (2 * t) _ _ (B[t].toNat / 16) (B[t].toNat % 16) h1 h2 (lowval_digit _ (by omega)) (lowval_digit _ (by omega)) k]
    have := ih (t + 1) k (by omega) (by omega)
    rw [show 2 * t + 2 = 2 * (t + 1) by omega, show B[t].toNat / 16 * 16 + B[t].toNat % 16 = B[t].toNat by omega, ← this]
    rw [List.take_add_one, g, List.map_append]
    rfl
theorem strOf_bytes (B : List UInt8) : strOfNums (B.map fun c => (c.toNat : Int)) = mkB B := by
  apply Go.WideShapes.bytes_inj
  rw [mkB_list, ← ByteArray.toList_eq, strOfNums_toList]
  unfold Lib.bytesOf
  rw [List.map_map]
  conv => rhs; rw [← List.map_id B]
  exact List.map_congr_left fun c _ => by simp
theorem unhex_same (s : ByteArray) (h : s.size ≤ 65536) (k : Nat) (hk : 400000 ≤ k) : ∃ (r : ByteArray) (ok : Bool), text_Unhex.f s = some (r, ok) ∧ tenancyref02_Unhex.f k s = some (r, ok) := by
  have hl : s.data.toList.length = s.size := by rw [Array.length_toList]; rfl
  have hT : text_Unhex.f s = some (if s.size % 2 = 0 then (if unhexOk s = true then (⟨(unhexBytes s).toArray⟩, true) else (⟨#[]⟩, false)) else (⟨#[]⟩, false)) := by
    unfold text_Unhex.f
    rw [if_pos (by omega)]
  rw [hT]
  by_cases he : s.size % 2 = 0
  · have hR : tenancyref02_Unhex.f k s = tenancyref02_Unhex.l0 k s ([] : List Int) 0 := by
      unfold tenancyref02_Unhex.f
      rw [if_neg (by omega)]
    rw [if_pos he, hR]
    by_cases hok : unhexOk s = true
    · rw [if_pos hok]
      refine ⟨_, _, rfl, ?_⟩
      have hb := hex_back s he hok
      have hlen := hexOf_len (unhexBytes s)
      rw [hb] at hlen
      have := good_go (unhexBytes s) (by omega) (unhexBytes s).length 0 k (by omega) (by omega)
      rw [hb, mkB_data, strOf_bytes] at this
      exact this
    · rw [if_neg hok]
      refine ⟨_, _, rfl, ?_⟩
      have hex : ∃ j c, 0 ≤ j ∧ s.data.toList[j]? = some c ∧ lowval c = none := by
        unfold unhexOk at hok
        rw [List.all_eq_true] at hok
        have : ∃ c, c ∈ s.data.toList ∧ ¬ (lowval c).isSome = true := by
          refine Classical.byContradiction fun hn => hok fun c hc => ?_
          exact Classical.byContradiction fun h2 => hn ⟨c, hc, h2⟩
        obtain ⟨c, hc, hn⟩ := this
        obtain ⟨j, hj, e⟩ := List.getElem_of_mem hc
        refine ⟨j, c, Nat.zero_le _, by rw [List.getElem?_eq_getElem hj, e], ?_⟩
        cases hlv : lowval c with
        | none => rfl
        | some v => rw [hlv] at hn; exact absurd rfl hn
      have := bad_go s.data.toList (by omega) (s.size / 2) 0 k [] (by omega) (by omega) (by simp) hex
      rw [mkB_data] at this
      exact this
  · have hR : tenancyref02_Unhex.f k s = some ((⟨#[]⟩ : ByteArray), false) := by
      unfold tenancyref02_Unhex.f
      rw [if_pos (by omega)]
    rw [if_neg he, hR]
    exact ⟨_, _, rfl, rfl⟩
end Go.Proofs.YtmegbllhidkmoaaDoor.Ty

/- The plain law of TextGets: every text is read as the reference reads it, or refused. -/
namespace Go.Proofs.YtmegbllhidkmoaaDoor.Ty
open Go.RowKit Go.Lib Go.Proofs.YtmegbllhidkmoaaDoorW.PrintWords Go.Proofs.YtmegbllhidkmoaaDoorW.PrintLast Go.Proofs.YtmegbllhidkmoaaDoorW.PrintMore Go.Proofs.YtmegbllhidkmoaaDoor.Plain Go.Proofs.YtmegbllhidkmoaaDoor.Tx
set_option linter.unusedVariables false

theorem gets_run (fam : Int) (s : ByteArray) (h : s.size ≤ 65536) (k : Nat) (hk : 400000 ≤ k) : tenancylaw02_TextGets.j0 (k + 6) fam s false = some true := by
  obtain ⟨n, ok4, a1, a2, _, _⟩ := get4_same s h (k + 5) (by omega)
  obtain ⟨x, y, ok6, b1, _⟩ := get6_all s h (k + 4) (by omega)
  have b2 := (get6_same s h (k + 4) (by omega)).trans b1
  obtain ⟨c0, c1, okg, g1, g2, _⟩ := get_same fam s h (k + 3) (by omega)
  obtain ⟨q0, q1, q2, okp, p1, p2⟩ := getPrefix_same fam s h (k + 2) (by omega)
  obtain ⟨r, oku, u1, u2⟩ := unhex_same s h (k + 1) (by omega)
  obtain ⟨v, okn, n1, n2, _, _⟩ := getNum_same s (by omega) k (by omega)
  rw [tenancylaw02_TextGets.j0, if_neg (by decide), a1, Option.bind_some, a2, Option.bind_some, if_pos rfl, bne_self_eq_false]
  rw [tenancylaw02_TextGets.j1, if_neg (by decide), b1, Option.bind_some, b2, Option.bind_some]
  simp only [beq_self_eq_true, Bool.not_true, Bool.or_self, Bool.false_eq_true, if_false, bne_self_eq_false]
  rw [tenancylaw02_TextGets.j2, if_neg (by decide), g1, Option.bind_some, g2, Option.bind_some]
  simp only [beq_self_eq_true, Bool.not_true, Bool.or_self, Bool.false_eq_true, if_false, bne_self_eq_false]
  rw [tenancylaw02_TextGets.j3, if_neg (by decide), p1, Option.bind_some, p2, Option.bind_some]
  simp only [beq_self_eq_true, Bool.not_true, Bool.or_self, Bool.false_eq_true, if_false, bne_self_eq_false]
  rw [tenancylaw02_TextGets.j4, if_neg (by decide), u1, Option.bind_some, u2, Option.bind_some, if_pos rfl, bne_self_eq_false]
  rw [tenancylaw02_TextGets.j5, if_neg (by decide), n1, Option.bind_some, n2, Option.bind_some, if_pos rfl, beq_self_eq_true]
theorem TextGets_pure (fam : Int) (s : ByteArray) : ∃ k, tenancylaw02_TextGets.f k fam s = some true := by
  have aw : tenancylaw02_awake.f = some true := rfl
  by_cases hb : (s.size : Int) > 65536
  · refine ⟨1, ?_⟩
    unfold tenancylaw02_TextGets.f
    rw [aw, Option.bind_some, if_pos rfl, tenancylaw02_TextGets.j0, if_pos (decide_eq_true hb), aw, Option.bind_some]
  · obtain ⟨k, hk⟩ : ∃ k : Nat, 400000 ≤ k := ⟨400000, Nat.le_refl _⟩
    refine ⟨k + 6, ?_⟩
    unfold tenancylaw02_TextGets.f
    rw [aw, Option.bind_some, if_pos rfl, decide_eq_false hb]
    exact gets_run fam s (by omega) k hk
end Go.Proofs.YtmegbllhidkmoaaDoor.Ty
