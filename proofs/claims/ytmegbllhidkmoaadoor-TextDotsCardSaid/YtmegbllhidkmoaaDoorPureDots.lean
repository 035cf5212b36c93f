/- The plain law of TextDots: an address of 32 bits, a number and bytes are read from their own text alone. -/
import Derived.Test.YtmegbllhidkmoaaDoorD6
import Derived.Test.YtmegbllhidkmoaaDoorPlainA
namespace Go.Proofs.YtmegbllhidkmoaaDoor.Tx
open Go.RowKit Go.Lib Go.Proofs.YtmegbllhidkmoaaDoorW.PrintWords Go.Proofs.YtmegbllhidkmoaaDoorW.PrintLast Go.Proofs.YtmegbllhidkmoaaDoorW.PrintMore Go.Proofs.YtmegbllhidkmoaaDoor.Plain
set_option linter.unusedVariables false

set_option maxRecDepth 100000 in
theorem awake_true : ∀ k, 20 ≤ k → tenancylaw02_awake.f k = some true := by
  intro k hk
  have h : tenancylaw02_awake.f 20 = some true := by decide +kernel
  induction k with
  | zero => omega
  | succ k ih =>
    by_cases e : k + 1 = 20
    · rw [e]; exact h
    · exact tenancylaw02_awake.mono k _ (ih (by omega))

theorem gn (p : ByteArray) (h : p.size ≤ 281474976710656) : ∃ (v : Int) (ok : Bool), text_GetNum.f p = some (v, ok) ∧ (ok = true → ∃ u : Nat, v = u ∧ u ≤ 4611686018427387904 ∧ decDigits u = p.data.toList) ∧ (ok = false → v = 0) := by
  unfold text_GetNum.f
  rw [if_pos h]
  cases hp : parseUintB 64 p.data.toList with
  | ok u =>
    by_cases hc : u ≤ 4611686018427387904 ∧ decDigits u = p.data.toList
    · exact ⟨u, true, by simp only [if_pos hc], fun _ => ⟨u, rfl, hc.1, hc.2⟩, fun h => by cases h⟩
    · exact ⟨0, false, by simp only [if_neg hc], fun h => by (cases h), fun _ => rfl⟩
  | range => exact ⟨0, false, rfl, fun h => by (cases h), fun _ => rfl⟩
  | _ => exact ⟨0, false, rfl, fun h => by (cases h), fun _ => rfl⟩

theorem get4_step (k : Nat) (x i : Int) (ps : List ByteArray) (p : ByteArray) (v : Int) (ok : Bool) (h0 : 0 ≤ i) (h1 : i < (ps.length : Int)) (hp : rdOf ByteArray.empty ps i = p) (hg : text_GetNum.f p = some (v, ok)) :
    text_Get4.l0 (k + 1) x ps (ps.length : Int) i = if ok = true then (if v > 255 then some (0, false) else text_Get4.l0 k (Go.bits .or .u32 ((x * 256) % 4294967296) (v % 4294967296)) ps (ps.length : Int) (wrap64 (i + 1))) else some (0, false) := by
  rw [text_Get4.l0, if_pos h1, if_pos h0, if_pos h1, hp, hg, Option.bind_some]

theorem dotted (s : ByteArray) (h : s.size ≤ 65536) : ∃ (n : Int) (ok : Bool), text_Get4.f 8 s = some (n, ok) ∧ (ok = false → n = 0) ∧
    (ok = true → ∃ a b c d : Nat, a ≤ 255 ∧ b ≤ 255 ∧ c ≤ 255 ∧ d ≤ 255 ∧ n = (((a : Int) * 256 + b) * 256 + c) * 256 + d ∧ s.data.toList = join [decDigits a, decDigits b, decDigits c, decDigits d] [46]) := by
  have hsp : strings_Split.f s ⟨#[46]⟩ = some (splitB ⟨#[46]⟩ 0 (countB s ⟨#[46]⟩) s) := by
    unfold strings_Split.f; rw [if_pos ⟨by omega, by decide⟩]
  have hj : join ((splitB ⟨#[46]⟩ 0 (countB s ⟨#[46]⟩) s).map (·.data.toList)) [46] = s.data.toList := by
    rw [splitB_splitL]; exact join_splitL 46 _
  have hsz : ∀ p ∈ splitB ⟨#[46]⟩ 0 (countB s ⟨#[46]⟩) s, p.size ≤ 281474976710656 := fun p hp => by
    have := split_sizes _ _ _ _ hp; omega
  unfold text_Get4.f
  rw [hsp, Option.bind_some]
  generalize splitB ⟨#[46]⟩ 0 (countB s ⟨#[46]⟩) s = ps at *
  by_cases hl : (ps.length : Int) = 4
  · rw [if_pos hl]
    match ps, hl, hj, hsz with
    | [p0, p1, p2, p3], _, hj, hsz =>
      obtain ⟨v0, o0, g0, t0, f0⟩ := gn p0 (hsz _ (by simp))
      obtain ⟨v1, o1, g1, t1, f1⟩ := gn p1 (hsz _ (by simp))
      obtain ⟨v2, o2, g2, t2, f2⟩ := gn p2 (hsz _ (by simp))
      obtain ⟨v3, o3, g3, t3, f3⟩ := gn p3 (hsz _ (by simp))
      have bad : ∃ (n : Int) (ok : Bool), (some ((0 : Int), false)) = some (n, ok) ∧ (ok = false → n = 0) ∧
          (ok = true → ∃ a b c d : Nat, a ≤ 255 ∧ b ≤ 255 ∧ c ≤ 255 ∧ d ≤ 255 ∧ n = (((a : Int) * 256 + b) * 256 + c) * 256 + d ∧ s.data.toList = join [decDigits a, decDigits b, decDigits c, decDigits d] [46]) := ⟨0, false, rfl, fun _ => rfl, fun h => by cases h⟩
      rw [get4_step 7 0 0 [p0, p1, p2, p3] p0 v0 o0 (by decide) (by simp) rfl g0]
      cases o0 with
      | false => exact bad
      | true =>
      obtain ⟨a, rfl, ha, da⟩ := t0 rfl
      rw [if_pos rfl]
      by_cases ha2 : (a : Int) > 255
      · rw [if_pos ha2]; exact bad
      rw [if_neg ha2, u32_join 0 a (by decide) (by decide) (by omega) (by omega), show wrap64 (0 + 1) = 1 by unfold wrap64; omega]
      rw [get4_step 6 _ 1 [p0, p1, p2, p3] p1 v1 o1 (by decide) (by simp) rfl g1]
      cases o1 with
      | false => exact bad
      | true =>
      obtain ⟨b, rfl, hb, db⟩ := t1 rfl
      rw [if_pos rfl]
      by_cases hb2 : (b : Int) > 255
      · rw [if_pos hb2]; exact bad
      rw [if_neg hb2, u32_join _ b (by omega) (by omega) (by omega) (by omega), show wrap64 (1 + 1) = 2 by unfold wrap64; omega]
      rw [get4_step 5 _ 2 [p0, p1, p2, p3] p2 v2 o2 (by decide) (by simp) rfl g2]
      cases o2 with
      | false => exact bad
      | true =>
      obtain ⟨c, rfl, hc, dc⟩ := t2 rfl
      rw [if_pos rfl]
      by_cases hc2 : (c : Int) > 255
      · rw [if_pos hc2]; exact bad
      rw [if_neg hc2, u32_join _ c (by omega) (by omega) (by omega) (by omega), show wrap64 (2 + 1) = 3 by unfold wrap64; omega]
      rw [get4_step 4 _ 3 [p0, p1, p2, p3] p3 v3 o3 (by decide) (by simp) rfl g3]
      cases o3 with
      | false => exact bad
      | true =>
      obtain ⟨d, rfl, hd, dd⟩ := t3 rfl
      rw [if_pos rfl]
      by_cases hd2 : (d : Int) > 255
      · rw [if_pos hd2]; exact bad
      rw [if_neg hd2, u32_join _ d (by omega) (by omega) (by omega) (by omega), show wrap64 (3 + 1) = 4 by unfold wrap64; omega]
      rw [text_Get4.l0, if_neg (by simp)]
      refine ⟨_, true, rfl, fun h => by (cases h), fun _ => ⟨a, b, c, d, by omega, by omega, by omega, by omega, by omega, ?_⟩⟩
      rw [← hj]
      simp only [List.map_cons, List.map_nil, ← da, ← db, ← dc, ← dd]
  · rw [if_neg hl]
    exact ⟨0, false, rfl, fun _ => rfl, fun h => by cases h⟩

theorem itoa_small (a : Nat) (h : a ≤ 4611686018427387904) : strconv_Itoa.f (a : Int) = some ⟨(decDigits a).toArray⟩ := by
  unfold strconv_Itoa.f
  rw [if_pos ⟨by omega, by omega⟩, itoa_nonneg]
theorem put4_step (k : Nat) (n i : Int) (xs : List ByteArray) (sh : Int) (a : Nat) (h0 : 0 ≤ i) (h1 : i < 4) (hl : xs.length = 4) (hs : wrap64 (24 - (wrap64 (8 * i))) = sh) (hsh : 0 ≤ sh) (ha : a ≤ 255) (hb : bits .and .u32 (shr .u32 n sh) 255 = (a : Int)) :
    text_Put4.l0 (k + 1) n xs 4 i = text_Put4.l0 k n (xs.set i.toNat ⟨(decDigits a).toArray⟩) 4 (wrap64 (i + 1)) := by
  rw [text_Put4.l0, if_pos h1, hs, if_pos hsh, hb]
  rw [show wrap64 (a : Int) = (a : Int) by unfold wrap64; omega, itoa_small a (by omega), Option.bind_some, if_pos h0, if_pos (by rw [hl]; exact h1)]
theorem shr_at (n : Int) (j : Nat) (hj : j ≤ 32) (sh : Int) (e : sh = (j : Int)) : shr .u32 n sh = n / 2 ^ j := by
  subst e
  unfold shr
  rw [Int.toNat_natCast, Nat.min_eq_left (by simpa [IntKind.bits] using hj)]
theorem put4 (a b c d : Nat) (ha : a ≤ 255) (hb : b ≤ 255) (hc : c ≤ 255) (hd : d ≤ 255) (n : Int) (hn : n = (((a : Int) * 256 + b) * 256 + c) * 256 + d) :
    text_Put4.f 8 n = some ⟨(join [decDigits a, decDigits b, decDigits c, decDigits d] [46]).toArray⟩ := by
  unfold text_Put4.f
  rw [if_pos (by decide), Option.bind_some]
  have w0 : wrap64 (24 - (wrap64 (8 * 0))) = 24 := by unfold wrap64; omega
  have w1 : wrap64 (24 - (wrap64 (8 * 1))) = 16 := by unfold wrap64; omega
  have w2 : wrap64 (24 - (wrap64 (8 * 2))) = 8 := by unfold wrap64; omega
  have w3 : wrap64 (24 - (wrap64 (8 * 3))) = 0 := by unfold wrap64; omega
  have e0 : bits .and .u32 (shr .u32 n 24) 255 = (a : Int) := by rw [shr_at n 24 (by decide) 24 rfl, u32_and255 _ (by omega) (by omega)]; omega
  have e1 : bits .and .u32 (shr .u32 n 16) 255 = (b : Int) := by rw [shr_at n 16 (by decide) 16 rfl, u32_and255 _ (by omega) (by omega)]; omega
  have e2 : bits .and .u32 (shr .u32 n 8) 255 = (c : Int) := by rw [shr_at n 8 (by decide) 8 rfl, u32_and255 _ (by omega) (by omega)]; omega
  have e3 : bits .and .u32 (shr .u32 n 0) 255 = (d : Int) := by rw [shr_at n 0 (by decide) 0 rfl, u32_and255 _ (by omega) (by omega)]; omega
  show text_Put4.l0 8 n [⟨#[]⟩, ⟨#[]⟩, ⟨#[]⟩, ⟨#[]⟩] 4 0 = _
  rw [put4_step 7 n 0 _ 24 a (by decide) (by decide) rfl w0 (by decide) ha e0]
  rw [show wrap64 (0 + 1) = 1 by unfold wrap64; omega]
  rw [put4_step 6 n 1 _ 16 b (by decide) (by decide) rfl w1 (by decide) hb e1]
  rw [show wrap64 (1 + 1) = 2 by unfold wrap64; omega]
  rw [put4_step 5 n 2 _ 8 c (by decide) (by decide) rfl w2 (by decide) hc e2]
  rw [show wrap64 (2 + 1) = 3 by unfold wrap64; omega]
  rw [put4_step 4 n 3 _ 0 d (by decide) (by decide) rfl w3 (by decide) hd e3]
  rw [show wrap64 (3 + 1) = 4 by unfold wrap64; omega]
  show text_Put4.l0 4 n [⟨(decDigits a).toArray⟩, ⟨(decDigits b).toArray⟩, ⟨(decDigits c).toArray⟩, ⟨(decDigits d).toArray⟩] 4 4 = _
  rw [text_Put4.l0, if_neg (by decide)]
  have hlen : ∀ x, x ≤ 255 → (decDigits x).length ≤ 21 := fun x hx => by
    have := itoa_length_le (x : Int) (by omega) (by omega)
    rwa [itoa_nonneg] at this
  have hj : strings_Join.f [⟨(decDigits a).toArray⟩, ⟨(decDigits b).toArray⟩, ⟨(decDigits c).toArray⟩, ⟨(decDigits d).toArray⟩] ⟨#[46]⟩ = some ⟨(join [decDigits a, decDigits b, decDigits c, decDigits d] [46]).toArray⟩ := by
    unfold strings_Join.f
    have e : ([⟨(decDigits a).toArray⟩, ⟨(decDigits b).toArray⟩, ⟨(decDigits c).toArray⟩, ⟨(decDigits d).toArray⟩] : List ByteArray).map (·.data.toList) = [decDigits a, decDigits b, decDigits c, decDigits d] := by simp
    rw [e, show (⟨#[46]⟩ : ByteArray).data.toList = [46] from rfl, if_pos]
    refine ⟨by simp, ?_⟩
    rw [join_cons2 _ _ _ (by simp), join_cons2 _ _ _ (by simp), join_cons2 _ _ _ (by simp), join_one]
    have := hlen a ha; have := hlen b hb; have := hlen c hc; have := hlen d hd
    simp only [List.length_append, List.length_cons]
    omega
  rw [hj]; rfl

theorem lowval_hex (c : UInt8) (d : Nat) (h : lowval c = some d) : hexdigit d = c := by
  unfold lowval at h
  unfold hexdigit
  split at h
  · injection h with h
    subst h
    rw [if_pos (by omega)]
    rw [show 48 + (c.toNat - 48) = c.toNat by omega]
    simp
  · split at h
    · injection h with h
      subst h
      rw [if_neg (by omega)]
      rw [show 87 + (c.toNat - 87) = c.toNat by omega]
      simp
    · cases h
theorem hex_back (s : ByteArray) (he : s.size % 2 = 0) (h : unhexOk s = true) : hexOf (unhexBytes s) = s.data.toList := by
  have hl : s.data.toList.length = s.size := by rw [Array.length_toList]; rfl
  have hall : ∀ i, i < s.size → ∃ d, lowval (s.data.toList.getD i 0) = some d := by
    intro i hi
    unfold unhexOk at h
    rw [List.all_eq_true] at h
    have hi2 : i < s.data.toList.length := by omega
    have := h _ (List.getElem_mem hi2)
    rw [List.getD, List.getElem?_eq_getElem hi2]
    exact Option.isSome_iff_exists.1 this
  have hnib : ∀ i, i < s.size → hexdigit (nib s i) = s.data.toList.getD i 0 := by
    intro i hi
    obtain ⟨d, hd⟩ := hall i hi
    have : nib s i = d := by unfold nib hv; rw [hd]; rfl
    rw [this]
    exact lowval_hex _ _ hd
  have pairs : ∀ n, 2 * n ≤ s.data.toList.length → ((List.range n).flatMap fun k => [s.data.toList.getD (2 * k) 0, s.data.toList.getD (2 * k + 1) 0]) = s.data.toList.take (2 * n) := by
    intro n
    induction n with
    | zero => intro _; simp
    | succ n ih =>
      intro hn
      rw [List.range_succ, List.flatMap_append, ih (by omega)]
      have e1 : 2 * (n + 1) = 2 * n + 1 + 1 := by omega
      rw [e1, List.take_succ_eq_append_getElem (by omega), List.take_succ_eq_append_getElem (by omega)]
      have g1 : s.data.toList.getD (2 * n) 0 = s.data.toList[2 * n]'(by omega) := by rw [List.getD, List.getElem?_eq_getElem (show 2 * n < s.data.toList.length by omega)]; rfl
      have g2 : s.data.toList.getD (2 * n + 1) 0 = s.data.toList[2 * n + 1]'(by omega) := by rw [List.getD, List.getElem?_eq_getElem (show 2 * n + 1 < s.data.toList.length by omega)]; rfl
      rw [List.append_assoc]
      simp only [List.flatMap_cons, List.flatMap_nil, List.append_nil, g1, g2, List.cons_append, List.nil_append]
  have hp := pairs (s.size / 2) (by omega)
  rw [show 2 * (s.size / 2) = s.size by omega, ← hl, List.take_length] at hp
  rw [← hp]
  unfold hexOf unhexBytes
  rw [List.flatMap_map, hl]
  have congr : ∀ (l : List Nat) (f g : Nat → List UInt8), (∀ k ∈ l, f k = g k) → l.flatMap f = l.flatMap g := by
    intro l f g h
    induction l with
    | nil => rfl
    | cons x l ih => rw [List.flatMap_cons, List.flatMap_cons, h x (by simp), ih fun k hk => h k (by simp [hk])]
  apply congr
  intro k hk
  have hk2 : k < s.size / 2 := List.mem_range.1 hk
  have h1 := nib_lt s (2 * k)
  have h2 := nib_lt s (2 * k + 1)
  have e : ((nib s (2 * k) * 16 + nib s (2 * k + 1)).toUInt8).toNat = nib s (2 * k) * 16 + nib s (2 * k + 1) := by
    simp [Nat.toUInt8, UInt8.toNat_ofNat']
    omega
  rw [e, show (nib s (2 * k) * 16 + nib s (2 * k + 1)) / 16 = nib s (2 * k) by omega, show (nib s (2 * k) * 16 + nib s (2 * k + 1)) % 16 = nib s (2 * k + 1) by omega, hnib _ (by omega), hnib _ (by omega)]

theorem TextDots_pure : ∀ s : ByteArray, s.size ≤ 140737488351232 → ∃ k, tenancylaw02_TextDots.f k s = some true := by
  intro s _
  refine ⟨40, ?_⟩
  unfold tenancylaw02_TextDots.f
  rw [awake_true 40 (by decide), Option.bind_some, if_pos rfl, tenancylaw02_TextDots.j0]
  by_cases hs : (s.size : Int) > 65536
  · rw [if_pos (by simpa using hs), awake_true 39 (by decide)]; rfl
  · rw [if_neg (by simpa using hs)]
    have hs2 : s.size ≤ 65536 := by omega
    obtain ⟨n, ok, hg, hno, hyes⟩ := dotted s hs2
    have hg2 : text_Get4.f 39 s = some (n, ok) := by
      have : ∀ j, text_Get4.f (8 + j) s = some (n, ok) := by
        intro j
        induction j with
        | zero => exact hg
        | succ j ih => exact text_Get4.mono s (8 + j) _ ih
      exact this 31
    rw [hg2, Option.bind_some]
    have rest : tenancylaw02_TextDots.j1 39 s false = some true := by
      rw [tenancylaw02_TextDots.j1, if_neg (by decide)]
      obtain ⟨v, ok, hv, tv, fv⟩ := gn s (by omega)
      rw [hv, Option.bind_some]
      have rest2 : tenancylaw02_TextDots.j2 38 s false = some true := by
        rw [tenancylaw02_TextDots.j2, if_neg (by decide)]
        unfold text_Unhex.f
        rw [if_pos (by omega), Option.bind_some]
        by_cases he : s.size % 2 = 0
        · rw [if_pos he]
          by_cases hu : unhexOk s = true
          · rw [if_pos hu, if_pos rfl]
            unfold text_Hex.f
            have hsz : (⟨(unhexBytes s).toArray⟩ : ByteArray).size ≤ 4294967280 := by
              show (unhexBytes s).toArray.size ≤ _
              simp [unhexBytes]; omega
            rw [if_pos hsz, Option.bind_some, if_pos]
            rw [ByteArray.toList_eq, ByteArray.toList_eq]
            exact hex_back s he hu
          · rw [if_neg hu, if_neg (by decide)]
            rw [ByteArray.toList_eq]; rfl
        · rw [if_neg he, if_neg (by decide)]
          rw [ByteArray.toList_eq]; rfl
      cases ok with
      | true =>
        obtain ⟨u, rfl, hu, hd⟩ := tv rfl
        rw [if_pos rfl]
        unfold text_Num.f
        rw [itoa_small u hu, Option.bind_some, Option.bind_some, if_pos]
        · exact rest2
        · rw [ByteArray.toList_eq, ByteArray.toList_eq]; exact hd
      | false =>
        rw [if_neg (by simp), fv rfl]
        exact rest2
    cases ok with
    | true =>
      obtain ⟨a, b, c, d, ha, hb, hc, hd, hn, hjoin⟩ := hyes rfl
      rw [if_pos rfl]
      have hp := put4 a b c d ha hb hc hd n hn
      have hp2 : text_Put4.f 39 n = some ⟨(join [decDigits a, decDigits b, decDigits c, decDigits d] [46]).toArray⟩ := by
        have : ∀ j, text_Put4.f (8 + j) n = some ⟨(join [decDigits a, decDigits b, decDigits c, decDigits d] [46]).toArray⟩ := by
          intro j
          induction j with
          | zero => exact hp
          | succ j ih => exact text_Put4.mono n (8 + j) _ ih
        exact this 31
      rw [hp2, Option.bind_some, if_pos]
      · exact rest
      · rw [ByteArray.toList_eq, ByteArray.toList_eq, hjoin]
    | false =>
      rw [if_neg (by simp), hno rfl]
      exact rest
end Go.Proofs.YtmegbllhidkmoaaDoor.Tx
