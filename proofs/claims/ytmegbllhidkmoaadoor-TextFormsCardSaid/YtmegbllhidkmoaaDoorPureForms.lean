/- The plain law of TextForms: an address has one written form; a prefix that is read is written as a text that is read as the same. -/
import Derived.Test.YtmegbllhidkmoaaDoorM5
import Derived.Test.YtmegbllhidkmoaaDoorPure
namespace Go.Proofs.YtmegbllhidkmoaaDoor.Ty
open Go.RowKit Go.Lib Go.Proofs.YtmegbllhidkmoaaDoorW.PrintWords Go.Proofs.YtmegbllhidkmoaaDoorW.PrintLast Go.Proofs.YtmegbllhidkmoaaDoorW.PrintMore Go.Proofs.YtmegbllhidkmoaaDoor.Plain Go.Proofs.YtmegbllhidkmoaaDoor.Tx
set_option linter.unusedVariables false

theorem sound_true (hi lo n : Int) (k : Nat) (hk : 1 ≤ k) (hn0 : -9223372036854775808 ≤ n) (hn1 : n ≤ 9223372036854775807) (h : addr_Sound.f k hi lo n = some true) :
    (∀ k, 1 ≤ k → addr_Sound.f k hi lo n = some true) ∧ 0 ≤ n ∧ n ≤ 128 := by
  obtain ⟨b, hs, hs'⟩ := sound_at hi lo n hn0 hn1
  have := hs k hk
  rw [h] at this
  obtain rfl := Option.some.inj this
  exact ⟨hs, hs' rfl⟩
theorem forms_loop1 (k : Nat) (hk : 20 ≤ k) (s : ByteArray) (h : s.size ≤ 65536) : tenancylaw02_TextForms.l0 (k + 1) s 0 = tenancylaw02_TextForms.l0 k s 1 := by
  have ea : arr46 0 = 4 := rfl
  have en : wrap64 (0 + 1) = 1 := by unfold wrap64; omega
  obtain ⟨q0, q1, q2, ok, e, ht⟩ := getPrefix_all 4 96 (.inl ⟨rfl, rfl⟩) s h k (by omega)
  rw [tenancylaw02_TextForms.l0, if_pos (by decide), if_pos (by decide), ea, en, e, Option.bind_some]
  rcases ht with ⟨rfl, rfl, rfl, rfl⟩ | ⟨rfl, a0, a1, b0, b1, c0, c1, hs, h4⟩
  · obtain ⟨b, hs, hs'⟩ := sound_at 0 0 0 (by decide) (by decide)
    rcases prefix_four 0 0 0 (by decide) (by decide) (by decide) (by decide) (by decide) (by decide) b hs hs' k (by omega) with ⟨_, _, _, hx, _⟩ | ⟨_, e1⟩
    · omega
    · simp only
      rw [e1, Option.bind_some, getPrefix_none4 k (by omega), Option.bind_some]
      simp
  · obtain ⟨z0, z1, z2⟩ := h4 rfl
    obtain ⟨hs1, hs2⟩ := sound_true q0 q1 q2 k (by omega) (by omega) (by omega) hs
    rcases prefix_four q0 q1 q2 a0 a1 b0 b1 (by omega) (by omega) true hs1 (fun _ => hs2) k (by omega) with ⟨_, _, _, _, t, ht, e1, e2⟩ | ⟨hno, e1⟩
    · simp only
      rw [e1, Option.bind_some, e2, Option.bind_some, hs]
      simp
    · exact absurd ⟨z0, z1, rfl, z2⟩ hno
theorem forms_loop2 (k : Nat) (hk : 20 ≤ k) (s : ByteArray) (h : s.size ≤ 65536) : tenancylaw02_TextForms.l0 (k + 1) s 1 = tenancylaw02_TextForms.l0 k s 2 := by
  have ea : arr46 1 = 6 := rfl
  have en : wrap64 (1 + 1) = 2 := by unfold wrap64; omega
  obtain ⟨q0, q1, q2, ok, e, ht⟩ := getPrefix_all 6 0 (.inr ⟨rfl, rfl⟩) s h k (by omega)
  rw [tenancylaw02_TextForms.l0, if_pos (by decide), if_pos (by decide), ea, en, e, Option.bind_some]
  rcases ht with ⟨rfl, rfl, rfl, rfl⟩ | ⟨rfl, a0, a1, b0, b1, c0, c1, hs, h4⟩
  · obtain ⟨b, hs, hs'⟩ := sound_at 0 0 0 (by decide) (by decide)
    rcases prefix_six 0 0 0 (by decide) (by decide) (by decide) (by decide) (by decide) (by decide) b hs hs' k (by omega) with ⟨_, t, _, e1, e2⟩ | ⟨_, e1⟩
    · simp only
      rw [e1, Option.bind_some, e2, Option.bind_some]
      simp
    · simp only
      rw [e1, Option.bind_some, getPrefix_none6 k (by omega), Option.bind_some]
      simp
  · obtain ⟨hs1, hs2⟩ := sound_true q0 q1 q2 k (by omega) (by omega) (by omega) hs
    rcases prefix_six q0 q1 q2 a0 a1 b0 b1 (by omega) (by omega) true hs1 (fun _ => hs2) k (by omega) with ⟨_, t, ht, e1, e2⟩ | ⟨hno, e1⟩
    · simp only
      rw [e1, Option.bind_some, e2, Option.bind_some, hs]
      simp
    · cases hno

/-- The count of pairs of colons. -/
theorem forms_count (l : List UInt8) (hl : l.length ≤ 39) (hch : ∀ c ∈ l, ¬ (65 ≤ c.toNat ∧ c.toNat ≤ 70)) (p : Nat) (hp : ∀ i, l[i]? = some 58 → l[i + 1]? = some 58 → i = p) (a b : Int) :
    ∀ (m i k : Nat) (c : Int), i + m = l.length → 2 * m + 1 ≤ k → 0 ≤ c → c ≤ 1 → (i ≤ p + 1 → c = 0) → tenancylaw02_TextForms.l1 k true (mkB l) c (i : Int) a b a b = some true
  | 0, i, k, c, hi, hk, c0, c1, hc => by
    obtain ⟨k, rfl⟩ : ∃ j, k = j + 1 := ⟨k - 1, by omega⟩
    rw [tenancylaw02_TextForms.l1, if_neg (by rw [mkB_size]; omega), if_pos rfl, if_pos (by simp), if_pos (by rw [mkB_size]; omega), decide_eq_true c1]
  | m + 1, i, k, c, hi, hk, c0, c1, hc => by
    obtain ⟨k, rfl⟩ : ∃ j, k = j + 2 := ⟨k - 2, by omega⟩
    have hlt : i < l.length := by omega
    have hx := List.getElem?_eq_getElem hlt
    have hb := bt_mkB l i _ hx
    have hcc := hch _ (List.getElem_mem hlt)
    have ew : wrap64 ((i : Int) + 1) = ((i + 1 : Nat) : Int) := by rw [wrap64_id _ (by omega) (by omega)]; omega
    have stay : tenancylaw02_TextForms.l1 k true (mkB l) c ((i + 1 : Nat) : Int) a b a b = some true ∨ (i + 1 ≤ p + 1 → c = 0) → (i + 1 ≤ p + 1 → c = 0) → tenancylaw02_TextForms.l1 k true (mkB l) c ((i + 1 : Nat) : Int) a b a b = some true :=
      fun _ h => forms_count l hl hch p hp a b m (i + 1) k c (by omega) (by omega) c0 c1 h
    have inner : tenancylaw02_TextForms.j3 (k + 1) true (mkB l) c (i : Int) false a b a b = some true := by
      rw [tenancylaw02_TextForms.j3, if_neg (by decide), ew]
      by_cases hz : (i : Int) > 0
      · rw [if_pos hz, if_pos (by omega), if_pos (by rw [mkB_size]; omega), hb]
        have ep : wrap64 ((i : Int) - 1) = ((i - 1 : Nat) : Int) := by rw [wrap64_id _ (by omega) (by omega)]; omega
        have hlt' : i - 1 < l.length := by omega
        have hx' := List.getElem?_eq_getElem hlt'
        have hb' := bt_mkB l (i - 1) _ hx'
        by_cases h58 : ((l[i]).toNat : Int) = 58
        · rw [if_pos h58, ep, if_pos (by omega), if_pos (by rw [mkB_size]; omega), hb']
          have e58 : l[i] = 58 := by
            apply UInt8.toNat_inj.1
            have : (l[i]).toNat = 58 := by exact_mod_cast h58
            rw [this]; rfl
          by_cases h58' : ((l[i - 1]).toNat : Int) = 58
          · have e58' : l[i - 1] = 58 := by
              apply UInt8.toNat_inj.1
              have : (l[i - 1]).toNat = 58 := by exact_mod_cast h58'
              rw [this]; rfl
            have hpi : i - 1 = p := hp (i - 1) (by rw [hx', e58']) (by rw [show i - 1 + 1 = i by omega, hx, e58])
            have c00 : c = 0 := hc (by omega)
            rw [if_pos h58', c00, show wrap64 (0 + 1) = 1 from by unfold wrap64; omega]
            exact forms_count l hl hch p hp a b m (i + 1) k 1 (by omega) (by omega) (by decide) (by decide) (fun h => by omega)
          · rw [if_neg h58']
            refine forms_count l hl hch p hp a b m (i + 1) k c (by omega) (by omega) c0 c1 (fun h => hc (by omega))
        · rw [if_neg h58]
          refine forms_count l hl hch p hp a b m (i + 1) k c (by omega) (by omega) c0 c1 (fun h => hc (by omega))
      · rw [if_neg hz]
        refine forms_count l hl hch p hp a b m (i + 1) k c (by omega) (by omega) c0 c1 (fun h => hc (by omega))
    rw [tenancylaw02_TextForms.l1, if_pos (by rw [mkB_size]; omega), if_pos (by omega), hb]
    by_cases h65 : ((l[i]).toNat : Int) ≥ 65
    · rw [if_pos h65, decide_eq_false (by intro h; exact hcc ⟨by exact_mod_cast h65, by exact_mod_cast h⟩)]; exact inner
    · rw [if_neg h65]; exact inner

theorem TextForms_pure (s : ByteArray) : ∃ k, tenancylaw02_TextForms.f k s = some true := by
  have aw : tenancylaw02_awake.f = some true := rfl
  refine ⟨200, ?_⟩
  unfold tenancylaw02_TextForms.f
  rw [aw, Option.bind_some, if_pos rfl, tenancylaw02_TextForms.j0]
  by_cases hb : (s.size : Int) > 65536
  · rw [if_pos (decide_eq_true hb), aw, Option.bind_some]
  · rw [if_neg (by simp; omega), forms_loop1 198 (by decide) s (by omega), forms_loop2 197 (by decide) s (by omega)]
    obtain ⟨a, b, ok, e, a0, a1, b0, b1, hz⟩ := get6_all s (by omega) 196 (by decide)
    rw [tenancylaw02_TextForms.l0, if_neg (by decide), e, Option.bind_some]
    cases ok with
    | false =>
      obtain ⟨rfl, rfl⟩ := hz rfl
      simp
    | true =>
      obtain ⟨l, e6, hf⟩ := put6_at a b a0 a1 b0 b1 196 (by decide)
      simp only [if_true]
      rw [e6, Option.bind_some, get6_form a b a0 a1 b0 b1 l hf 196 (by decide), Option.bind_some]
      obtain ⟨p, hp⟩ := form_pairs a b l hf
      have hl := form_len a b l hf
      exact forms_count l hl (form_chars a b l hf) p hp a b l.length 0 196 0 (by omega) (by omega) (by decide) (by decide) (fun _ => rfl)
end Go.Proofs.YtmegbllhidkmoaaDoor.Ty
