/- The reference's leases (tenancyref08): what its functions answer is what the program's do. -/
import Derived.Test.YtmegbllhidkmoaaGreatPe3
namespace Go.Proofs.YtmegbllhidkmoaaGreat.Tb
open Go.RowKit Go.Proofs.YtmegbllhidkmoaaGreatW.PrintWords Go.Proofs.YtmegbllhidkmoaaGreatW.PrintLast Go.Proofs.YtmegbllhidkmoaaGreatW.PrintMore
set_option linter.unusedVariables false
attribute [local go_sem] fldA_0 fldA_1 fldP_0 fldP_1
attribute [local go_sem high] eqA27 eqA30
theorem rright_ways (K : Key) (hk : K.ok) : (soundP K = false ∧ rightB K = false) ∨ (soundP K = true ∧
    ((K.kind = 1 ∧ (((K.bits == 128) = false ∧ rightB K = false) ∨ (K.bits = 128 ∧ (K.hi == 0) = false ∧ rightB K = false) ∨ (K.bits = 128 ∧ K.hi = 0 ∧ rightB K = decide (K.lo < 4294967296)))) ∨ (K.kind = 2 ∧ rightB K = (K.bits == 128)) ∨ (K.kind = 3 ∧ rightB K = (K.bits == 128)) ∨
     (K.kind = 4 ∧ ((K.bits < 1 ∧ rightB K = false) ∨ (1 ≤ K.bits ∧ rightB K = decide (K.bits ≤ 127)))) ∨ ((K.kind == 1) = false ∧ (K.kind == 2) = false ∧ (K.kind == 3) = false ∧ (K.kind == 4) = false ∧ rightB K = false))) := by
  have h128 := (refSoundP K hk 200 (by omega)).2
  have h3 := (wf_u64 hk.2.2.1).1
  unfold rightB is4
  by_cases k1 : K.kind = 1
  · rw [if_pos k1]
    cases hs : soundP K with
    | false => exact .inl ⟨rfl, by rw [decide_eq_false (fun h => by rw [h128 h] at hs; cases hs)]; rfl⟩
    | true =>
      refine .inr ⟨rfl, .inl ⟨k1, ?_⟩⟩
      by_cases hb : K.bits = 128
      · by_cases hz : K.hi = 0
        · refine .inr (.inr ⟨hb, hz, ?_⟩)
          rw [decide_eq_true hb, decide_eq_true hz, Bool.true_and, Bool.true_and, Bool.eq_iff_iff, decide_eq_true_eq, decide_eq_true_eq]; omega
        · exact .inr (.inl ⟨hb, by simpa using hz, by rw [decide_eq_false hz]; simp⟩)
      · exact .inl ⟨by simpa using hb, by rw [decide_eq_false hb]; rfl⟩
  · rw [if_neg k1]
    by_cases k23 : K.kind = 2 ∨ K.kind = 3
    · rw [if_pos k23]
      cases hs : soundP K with
      | false => exact .inl ⟨rfl, decide_eq_false (fun h => by rw [h128 h] at hs; cases hs)⟩
      | true =>
        refine .inr ⟨rfl, .inr ?_⟩
        rcases k23 with k2 | k3
        · exact .inl ⟨k2, by rw [Bool.eq_iff_iff]; simp⟩
        · exact .inr (.inl ⟨k3, by rw [Bool.eq_iff_iff]; simp⟩)
    · rw [if_neg k23]
      by_cases k4 : K.kind = 4
      · rw [if_pos k4]
        cases hs : soundP K with
        | false => exact .inl ⟨rfl, rfl⟩
        | true =>
          refine .inr ⟨rfl, .inr (.inr (.inr (.inl ⟨k4, ?_⟩)))⟩
          by_cases h1 : 1 ≤ K.bits
          · refine .inr ⟨h1, ?_⟩
            rw [decide_eq_true h1, Bool.true_and, Bool.true_and, Bool.eq_iff_iff, decide_eq_true_eq, decide_eq_true_eq]; omega
          · exact .inl ⟨by omega, by rw [decide_eq_false h1]; rfl⟩
      · rw [if_neg k4]
        cases hs : soundP K with
        | false => exact .inl ⟨rfl, rfl⟩
        | true => exact .inr ⟨rfl, .inr (.inr (.inr (.inr ⟨by simpa using k1, by simpa using fun e => k23 (.inl e), by simpa using fun e => k23 (.inr e), by simpa using k4, rfl⟩)))⟩
set_option maxHeartbeats 1600000 in
set_option maxRecDepth 100000 in
theorem rright_run (w : World) (K : Key) (hk : K.ok) : Calls Tryz.prog 63 #[.int .i64 K.kind, .agg #[.int .u64 K.hi, .int .u64 K.lo, .int .i64 K.bits]] w fun e w' => e = .returned (.bool (rightB K)) ∧ Quiet w w' := by
  have HS := Aside1.mk (fun W => tenancyref01_Sound.calls 200 _ _ _ _ W (refSoundP K hk 200 (by omega)).1)
  have hw := rright_ways K hk
  generalize rightB K = r at hw ⊢
  generalize soundP K = s at HS hw
  obtain ⟨k, h, l, n⟩ := K
  simp only at *
  clear hk
  rcases hw with ⟨rfl, rfl⟩ | ⟨rfl, ⟨rfl, ⟨hb, rfl⟩ | ⟨rfl, hz, rfl⟩ | ⟨rfl, rfl, rfl⟩⟩ | ⟨rfl, rfl⟩ | ⟨rfl, rfl⟩ | ⟨rfl, ⟨hb, rfl⟩ | ⟨hb, rfl⟩⟩ | ⟨k1, k2, k3, k4, rfl⟩⟩
  all_goals
    go_enter Tryz.func63, Tryz.ntmps63
    go_wp2_with fail
    refine (HS.out _).mono ?_
    rintro e w1 ⟨rfl, hq1⟩
    obtain ⟨a0, a1, a2, _⟩ := at3 (blk (new0 w _) hq1)
    go_wp2_with fail
    go_ret
    exact ⟨rfl, by (repeat (first | exact Kept.refl _ _ | assumption | apply Kept.drew | apply Kept.drewN | apply Kept.alloc | refine Kept.setCell ?_ (fun hlt => absurd hlt (Nat.lt_irrefl _)) _ | refine Kept.andThen ?_ (by assumption) (fun _ _ h => h)))⟩
theorem bytes_size (c : ByteArray) : c.toList.length = c.size := by rw [ByteArray.toList_eq, Array.length_toList]; rfl
set_option maxHeartbeats 1600000 in
set_option maxRecDepth 100000 in
theorem rsound_run (w : World) (l : Lease) (hl : l.ok) : Calls Tryz.prog 62 #[l.val] w fun e w' => e = .returned (.bool (soundL l)) ∧ Quiet w w' := by
  have HA := Aside1.mk (fun W => rright_run W l.key hl.1)
  have hw := sound_ways l
  generalize soundL l = r at hw ⊢
  generalize rightB l.key = ra at HA hw
  obtain ⟨⟨k, h, lo, n⟩, s, c, i, t⟩ := l
  have hsz := bytes_size c
  simp only [Lease.val] at *
  clear hl
  rcases hw with ⟨rfl, rfl⟩ | ⟨rfl, ⟨h0, rfl⟩ | ⟨h0, h1, rfl⟩ | ⟨h0, h1, ⟨rfl, ⟨hc, rfl⟩ | ⟨hc, hz, rfl⟩ | ⟨hc, hz, hk, rfl⟩ | ⟨hc, hz, rfl, rfl⟩⟩ | ⟨rfl, ⟨rfl, rfl⟩ | ⟨hk, hc, rfl⟩ | ⟨hk, hc, rfl⟩⟩ | ⟨s1, s2, rfl⟩⟩⟩
  all_goals
    (try (have hk1 : (k != 1) = true := by simpa using hk))
    (try (have hk4 : (k != 4) = true := by simpa using hk))
    (try (have hc1 : ¬ c.toList = [] := by simpa using hc))
    have hlen : (c.toList = [] ∧ ¬ (1 : Int) ≤ (c.size : Int)) ∨ (1 : Int) ≤ (c.size : Int) := by
      cases hcl : c.toList with
      | nil => rw [hcl] at hsz; simp at hsz; exact .inl ⟨rfl, by omega⟩
      | cons x y => rw [hcl] at hsz; simp at hsz; exact .inr (by omega)
    clear hsz
  · go_enter Tryz.func62, Tryz.ntmps62
    go_wp2_with fail
    refine (HA.out _).mono ?_
    rintro e w1 ⟨rfl, hq1⟩
    obtain ⟨a0, a1, a2, a3, a4, a5, a6, a7⟩ := at8 (blk (new0 w _) hq1)
    go_wp2_with fail
    go_ret
    exact ⟨rfl, by (repeat (first | exact Kept.refl _ _ | assumption | apply Kept.drew | apply Kept.drewN | apply Kept.alloc | refine Kept.setCell ?_ (fun hlt => absurd hlt (Nat.lt_irrefl _)) _ | refine Kept.andThen ?_ (by assumption) (fun _ _ h => h)))⟩
  all_goals
    rcases hlen with ⟨hce, hno⟩ | hyes
    all_goals (first | (exfalso; exact hc1 hce) | skip)
    all_goals (first | (exfalso; (have := bytes_size c; rw [hc] at this; simp only [List.length_nil] at this; omega)) | skip)
  all_goals
    go_enter Tryz.func62, Tryz.ntmps62
    go_wp2_with fail
    refine (HA.out _).mono ?_
    rintro e w1 ⟨rfl, hq1⟩
    obtain ⟨a0, a1, a2, a3, a4, a5, a6, a7⟩ := at8 (blk (new0 w _) hq1)
    go_wp2_with fail
    go_ret
    exact ⟨rfl, by (repeat (first | exact Kept.refl _ _ | assumption | apply Kept.drew | apply Kept.drewN | apply Kept.alloc | refine Kept.setCell ?_ (fun hlt => absurd hlt (Nat.lt_irrefl _)) _ | refine Kept.andThen ?_ (by assumption) (fun _ _ h => h)))⟩
/-- What Change's answer hangs on where something is taken out. -/
theorem gone_ways (x : Lease) (ra : Bool) : (ra = false ∧ (ra && (x.state == 0 && (x.client.toList == ([] : List UInt8) && (x.iaid == 0 && x.till == 0)))) = false) ∨ (ra = true ∧ (((x.state == 0) = false ∧ (ra && (x.state == 0 && (x.client.toList == ([] : List UInt8) && (x.iaid == 0 && x.till == 0)))) = false) ∨ (x.state = 0 ∧ ((¬ x.client.toList = [] ∧ (ra && (x.state == 0 && (x.client.toList == ([] : List UInt8) && (x.iaid == 0 && x.till == 0)))) = false) ∨
    (x.client.toList = [] ∧ (((x.iaid == 0) = false ∧ (ra && (x.state == 0 && (x.client.toList == ([] : List UInt8) && (x.iaid == 0 && x.till == 0)))) = false) ∨ (x.iaid = 0 ∧ (ra && (x.state == 0 && (x.client.toList == ([] : List UInt8) && (x.iaid == 0 && x.till == 0)))) = (x.till == 0)))))))) := by
  cases ra with
  | false => exact .inl ⟨rfl, rfl⟩
  | true =>
    refine .inr ⟨rfl, ?_⟩
    cases hs : x.state == 0 with
    | false => exact .inl ⟨rfl, rfl⟩
    | true =>
      refine .inr ⟨by simpa using hs, ?_⟩
      by_cases hc : x.client.toList = []
      · refine .inr ⟨hc, ?_⟩
        rw [hc]
        cases hi : x.iaid == 0 with
        | false => exact .inl ⟨rfl, rfl⟩
        | true => exact .inr ⟨by simpa using hi, rfl⟩
      · exact .inl ⟨hc, by rw [show (x.client.toList == []) = false by simpa using hc]; rfl⟩
set_option maxHeartbeats 1600000 in
set_option maxRecDepth 100000 in
theorem rchange_run (w : World) (c : Change) (hl : c.lease.ok) : Calls Tryz.prog 46 #[c.val] w fun e w' => e = .returned (.bool (changeB c)) ∧ Quiet w w' := by
  obtain ⟨g, x⟩ := c
  have HA := Aside1.mk (fun W => rright_run W x.key hl.1)
  have HS := Aside1.mk (fun W => rsound_run W x hl)
  have hc : changeB ⟨g, x⟩ = (if g then rightB x.key && (x.state == 0 && (x.client.toList == ([] : List UInt8) && (x.iaid == 0 && x.till == 0))) else soundL x) := rfl
  have hw := gone_ways x (rightB x.key)
  generalize changeB ⟨g, x⟩ = r at hc ⊢
  cases g with
  | false =>
    rw [if_neg (by decide)] at hc
    generalize soundL x = rs at HS hc
    subst hc
    obtain ⟨⟨k, h, lo, n⟩, s, c, i, t⟩ := x
    simp only [Lease.val, Change.val] at *
    clear hw hl
    go_enter Tryz.func46, Tryz.ntmps46
    go_wp2_with fail
    refine (HS.out _).mono ?_
    rintro e w1 ⟨rfl, hq1⟩
    go_wp2_with fail
    go_ret
    exact ⟨rfl, by (repeat (first | exact Kept.refl _ _ | assumption | apply Kept.drew | apply Kept.drewN | apply Kept.alloc | refine Kept.setCell ?_ (fun hlt => absurd hlt (Nat.lt_irrefl _)) _ | refine Kept.andThen ?_ (by assumption) (fun _ _ h => h)))⟩
  | true =>
    rw [if_pos rfl] at hc
    rw [← hc] at hw
    clear hc HS hl
    generalize rightB x.key = ra at HA hw
    obtain ⟨⟨k, h, lo, n⟩, s, c, i, t⟩ := x
    simp only [Lease.val, Change.val] at *
    rcases hw with ⟨rfl, rfl⟩ | ⟨rfl, ⟨hs, rfl⟩ | ⟨rfl, ⟨hc, rfl⟩ | ⟨hc, ⟨hi, rfl⟩ | ⟨rfl, rfl⟩⟩⟩⟩
    all_goals
      go_enter Tryz.func46, Tryz.ntmps46
      go_wp2_with fail
      refine (HA.out _).mono ?_
      rintro e w1 ⟨rfl, hq1⟩
      obtain ⟨a0, a1, a2, a3, a4, a5, a6, a7⟩ := at8 (blk (new1 w _ _) hq1)
      go_wp2_with fail
      go_ret
      exact ⟨rfl, by (repeat (first | exact Kept.refl _ _ | assumption | apply Kept.drew | apply Kept.drewN | apply Kept.alloc | refine Kept.setCell ?_ (fun hlt => absurd hlt (Nat.lt_irrefl _)) _ | refine Kept.andThen ?_ (by assumption) (fun _ _ h => h)))⟩
set_option maxHeartbeats 1600000 in
set_option maxRecDepth 100000 in
theorem rmeets_run (w : World) (a b : Key) (ha : a.ok) (hb : b.ok) : Calls Tryz.prog 48 #[.int .i64 a.kind, .agg #[.int .u64 a.hi, .int .u64 a.lo, .int .i64 a.bits], .int .i64 b.kind, .agg #[.int .u64 b.hi, .int .u64 b.lo, .int .i64 b.bits]] w fun e w' => e = .returned (.bool (meetsB a b)) ∧ Quiet w w' := by
  have HA := Aside1.mk (fun W => rright_run W a ha)
  have HB := Aside1.mk (fun W => rright_run W b hb)
  have HM0 := Aside1.mk (fun (ra : rightB a = true) (rb : rightB b = true) (W : World) => tenancyref01_Meets.calls 200 _ _ _ _ _ _ _ W (refMeetsP a b ha hb ra rb 200 (by omega)))
  have hm : meetsB a b = (rightB a && rightB b && (if a.kind = 1 ∨ b.kind = 1 then decide (a = b) else coversP a b || coversP b a)) := rfl
  have hk : decide (a = b) = (decide (a.kind = b.kind) && ((a.hi == b.hi && a.lo == b.lo) && a.bits == b.bits)) := by
    rw [Bool.eq_iff_iff]
    simp only [decide_eq_true_eq, Bool.and_eq_true, beq_iff_eq]
    exact ⟨fun e => by subst e; exact ⟨rfl, ⟨rfl, rfl⟩, rfl⟩, fun ⟨e1, ⟨e2, e3⟩, e4⟩ => Key.eq_of e1 e2 e3 e4⟩
  rw [hk] at hm
  have HH := Aside1.mk hm
  clear hm hk ha hb
  generalize meetsB a b = r at HH ⊢
  generalize rightB a = ra at HA HH HM0
  generalize rightB b = rb at HB HH HM0
  generalize (coversP a b || coversP b a) = c at HM0 HH
  obtain ⟨k, h, l, n⟩ := a
  obtain ⟨k', h', l', n'⟩ := b
  cases ra with
  | false =>
    go_enter Tryz.func48, Tryz.ntmps48
    go_wp2_with fail
    refine (HA.out _).mono ?_
    rintro e w1 ⟨rfl, hq1⟩
    go_wp2_with fail
    go_ret
    exact ⟨by rw [HH.out]; rfl, by (repeat (first | exact Kept.refl _ _ | assumption | apply Kept.drew | apply Kept.drewN | apply Kept.alloc | refine Kept.setCell ?_ (fun hlt => absurd hlt (Nat.lt_irrefl _)) _ | refine Kept.andThen ?_ (by assumption) (fun _ _ h => h)))⟩
  | true =>
    cases rb with
    | false =>
      go_enter Tryz.func48, Tryz.ntmps48
      go_wp2_with fail
      refine (HA.out _).mono ?_
      rintro e w1 ⟨rfl, hq1⟩
      obtain ⟨b0, b1, b2, _⟩ := at3 (blk (new1 w _ _) hq1)
      go_wp2_with fail
      refine (HB.out _).mono ?_
      rintro e w2 ⟨rfl, hq2⟩
      go_wp2_with fail
      go_ret
      exact ⟨by rw [HH.out]; rfl, by (repeat (first | exact Kept.refl _ _ | assumption | apply Kept.drew | apply Kept.drewN | apply Kept.alloc | refine Kept.setCell ?_ (fun hlt => absurd hlt (Nat.lt_irrefl _)) _ | refine Kept.andThen ?_ (by assumption) (fun _ _ h => h)))⟩
    | true =>
      have HM := Aside1.mk (HM0.out rfl rfl)
      clear HM0
      simp only [Bool.and_self, Bool.true_and] at HH
      by_cases h1 : k = 1 ∨ k' = 1
      · have HH2 : Aside1 (r = (decide (k = k') && ((h == h' && l == l') && n == n'))) := ⟨by have := HH.out; rw [if_pos h1] at this; exact this⟩
        clear HH
        have hw : ((k == 1) = true) ∨ ((k == 1) = false ∧ (k' == 1) = true) := by
          by_cases h : k = 1
          · exact .inl (by simp [h])
          · exact .inr ⟨by simp [h], by rcases h1 with e | e; (· exact absurd e h); (· simp [e])⟩
        clear h1
        by_cases hkk : k = k'
        · have HH3 : Aside1 (r = ((h == h' && l == l') && n == n')) := ⟨by rw [HH2.out, decide_eq_true hkk, Bool.true_and]⟩
          subst hkk
          clear HH2
          rcases hw with hw | ⟨hw, hw'⟩
          · go_enter Tryz.func48, Tryz.ntmps48
            go_wp2_with fail
            refine (HA.out _).mono ?_
            rintro e w1 ⟨rfl, hq1⟩
            obtain ⟨b0, b1, b2, _⟩ := at3 (blk (new1 w _ _) hq1)
            go_wp2_with fail
            refine (HB.out _).mono ?_
            rintro e w2 ⟨rfl, hq2⟩
            obtain ⟨b0', b1', b2', _⟩ := at3 (blk (new1 w _ _) (hq1.andThen hq2 (fun _ _ h => h)))
            obtain ⟨a0', a1', a2', _⟩ := at3 (blk (old1 w _ _) (hq1.andThen hq2 (fun _ _ h => h)))
            go_wp2_with fail
            go_ret
            exact ⟨by rw [HH3.out]; rfl, by (repeat (first | exact Kept.refl _ _ | assumption | apply Kept.drew | apply Kept.drewN | apply Kept.alloc | refine Kept.setCell ?_ (fun hlt => absurd hlt (Nat.lt_irrefl _)) _ | refine Kept.andThen ?_ (by assumption) (fun _ _ h => h)))⟩
          · rw [hw] at hw'; cases hw'
        · have HH3 : Aside1 (r = false) := ⟨by rw [HH2.out, decide_eq_false hkk, Bool.false_and]⟩
          have hkk' : (k == k') = false := by simpa using hkk
          clear HH2 hkk
          rcases hw with hw | ⟨hw, hw'⟩
          all_goals
            go_enter Tryz.func48, Tryz.ntmps48
            go_wp2_with fail
            refine (HA.out _).mono ?_
            rintro e w1 ⟨rfl, hq1⟩
            obtain ⟨b0, b1, b2, _⟩ := at3 (blk (new1 w _ _) hq1)
            go_wp2_with fail
            refine (HB.out _).mono ?_
            rintro e w2 ⟨rfl, hq2⟩
            go_wp2_with fail
            go_ret
            exact ⟨by rw [HH3.out]; rfl, by (repeat (first | exact Kept.refl _ _ | assumption | apply Kept.drew | apply Kept.drewN | apply Kept.alloc | refine Kept.setCell ?_ (fun hlt => absurd hlt (Nat.lt_irrefl _)) _ | refine Kept.andThen ?_ (by assumption) (fun _ _ h => h)))⟩
      · have HH2 : Aside1 (r = c) := ⟨by have := HH.out; rw [if_neg h1] at this; exact this⟩
        have hw : (k == 1) = false := by simpa using fun e => h1 (.inl e)
        have hw' : (k' == 1) = false := by simpa using fun e => h1 (.inr e)
        clear h1 HH
        go_enter Tryz.func48, Tryz.ntmps48
        go_wp2_with fail
        refine (HA.out _).mono ?_
        rintro e w1 ⟨rfl, hq1⟩
        obtain ⟨b0, b1, b2, _⟩ := at3 (blk (new1 w _ _) hq1)
        go_wp2_with fail
        refine (HB.out _).mono ?_
        rintro e w2 ⟨rfl, hq2⟩
        obtain ⟨b0', b1', b2', _⟩ := at3 (blk (new1 w _ _) (hq1.andThen hq2 (fun _ _ h => h)))
        obtain ⟨a0', a1', a2', _⟩ := at3 (blk (old1 w _ _) (hq1.andThen hq2 (fun _ _ h => h)))
        go_wp2_with fail
        refine (HM.out _).mono ?_
        rintro e w3 ⟨rfl, hq3⟩
        go_wp2_with fail
        go_ret
        exact ⟨by rw [HH2.out]; rfl, by (repeat (first | exact Kept.refl _ _ | assumption | apply Kept.drew | apply Kept.drewN | apply Kept.alloc | refine Kept.setCell ?_ (fun hlt => absurd hlt (Nat.lt_irrefl _)) _ | refine Kept.andThen ?_ (by assumption) (fun _ _ h => h)))⟩
theorem cmpK_ways (a b : Key) : ((a.kind != b.kind) = true ∧ a.kind < b.kind ∧ cmpK a b = -1) ∨ ((a.kind != b.kind) = true ∧ b.kind < a.kind ∧ cmpK a b = 1) ∨ (a.kind = b.kind ∧ (((cmpA a.hi a.lo b.hi b.lo != 0) = true ∧ cmpK a b = cmpA a.hi a.lo b.hi b.lo) ∨ (cmpA a.hi a.lo b.hi b.lo = 0 ∧ ((a.bits = b.bits ∧ cmpK a b = 0) ∨ ((a.bits == b.bits) = false ∧ a.bits < b.bits ∧ cmpK a b = -1) ∨ ((a.bits == b.bits) = false ∧ b.bits < a.bits ∧ cmpK a b = 1))))) := by
  unfold cmpK
  by_cases hk : a.kind = b.kind
  · refine .inr (.inr ⟨hk, ?_⟩)
    have e1 : cmpI a.kind b.kind = 0 := by rw [hk]; unfold cmpI; rw [if_neg (by omega), if_neg (by omega)]
    rw [e1]
    by_cases hc : cmpA a.hi a.lo b.hi b.lo = 0
    · refine .inr ⟨hc, ?_⟩
      rw [hc]
      unfold cmpI
      by_cases h1 : a.bits = b.bits
      · exact .inl ⟨h1, by rw [if_neg (by omega), if_neg (by omega)]; simp [orI]⟩
      · by_cases h2 : a.bits < b.bits
        · exact .inr (.inl ⟨by simpa using h1, h2, by rw [if_pos h2]; simp [orI]⟩)
        · exact .inr (.inr ⟨by simpa using h1, by omega, by rw [if_neg h2, if_pos (by omega)]; simp [orI]⟩)
    · exact .inl ⟨by simpa using hc, by simp [orI, hc]⟩
  · unfold cmpI
    by_cases h1 : a.kind < b.kind
    · exact .inl ⟨by simpa using hk, h1, by rw [if_pos h1]; simp [orI]⟩
    · exact .inr (.inl ⟨by simpa using hk, by omega, by rw [if_neg h1, if_pos (by omega)]; simp [orI]⟩)
set_option maxHeartbeats 1600000 in
set_option maxRecDepth 100000 in
theorem rcompare_run (w : World) (a b : Key) (ha : a.ok) (hb : b.ok) : Calls Tryz.prog 66 #[.int .i64 a.kind, .agg #[.int .u64 a.hi, .int .u64 a.lo, .int .i64 a.bits], .int .i64 b.kind, .agg #[.int .u64 b.hi, .int .u64 b.lo, .int .i64 b.bits]] w fun e w' => e = .returned (.int .i64 (cmpK a b)) ∧ Quiet w w' := by
  have HC := Aside1.mk (fun W => tenancyref01_Cmp.calls 200 _ _ _ _ _ W (refCmp _ _ _ _ (wf_u64 ha.2.1) (wf_u64 ha.2.2.1) (wf_u64 hb.2.1) (wf_u64 hb.2.2.1) 200 (by omega)))
  have hw := cmpK_ways a b
  generalize cmpK a b = r at hw ⊢
  generalize cmpA a.hi a.lo b.hi b.lo = c at HC hw
  obtain ⟨k, h, l, n⟩ := a
  obtain ⟨k', h', l', n'⟩ := b
  simp only at *
  clear ha hb
  rcases hw with ⟨hk, hlt, rfl⟩ | ⟨hk, hlt, rfl⟩ | ⟨rfl, ⟨hc, rfl⟩ | ⟨rfl, ⟨rfl, rfl⟩ | ⟨hn, hlt, rfl⟩ | ⟨hn, hlt, rfl⟩⟩⟩
  · go_enter Tryz.func66, Tryz.ntmps66
    go_wp2_with fail
    go_ret
    exact ⟨rfl, by (repeat (first | exact Kept.refl _ _ | assumption | apply Kept.drew | apply Kept.drewN | apply Kept.alloc | refine Kept.setCell ?_ (fun hlt => absurd hlt (Nat.lt_irrefl _)) _ | refine Kept.andThen ?_ (by assumption) (fun _ _ h => h)))⟩
  · have hno : ¬ k < k' := by omega
    go_enter Tryz.func66, Tryz.ntmps66
    go_wp2_with fail
    go_ret
    exact ⟨rfl, by (repeat (first | exact Kept.refl _ _ | assumption | apply Kept.drew | apply Kept.drewN | apply Kept.alloc | refine Kept.setCell ?_ (fun hlt => absurd hlt (Nat.lt_irrefl _)) _ | refine Kept.andThen ?_ (by assumption) (fun _ _ h => h)))⟩
  all_goals
    (try (have hno : ¬ n < n' := by omega))
    go_enter Tryz.func66, Tryz.ntmps66
    go_wp2_with fail
    refine (HC.out _).mono ?_
    rintro e w1 ⟨rfl, hq1⟩
    obtain ⟨a0, a1, a2, _⟩ := at3 (blk (old1 w _ _) hq1)
    obtain ⟨b0, b1, b2, _⟩ := at3 (blk (new1 w _ _) hq1)
    go_wp2_with fail
    go_ret
    exact ⟨rfl, by (repeat (first | exact Kept.refl _ _ | assumption | apply Kept.drew | apply Kept.drewN | apply Kept.alloc | refine Kept.setCell ?_ (fun hlt => absurd hlt (Nat.lt_irrefl _)) _ | refine Kept.andThen ?_ (by assumption) (fun _ _ h => h)))⟩
end Go.Proofs.YtmegbllhidkmoaaGreat.Tb

/- What the laws' awake plays, reckoned. -/
namespace Go.Proofs.YtmegbllhidkmoaaGreat.Tb
open Go.RowKit Go.Maps
set_option linter.unusedVariables false
def la : Lease := hostL 5 ⟨#[97]⟩ 10
def lb : Lease := hostL 6 ⟨#[98]⟩ 9
def lc : Lease := hostL 7 ⟨#[97]⟩ 10
def awL : List Lease := [la, lb]
def awE : List End := [lb.fin, la.fin]
theorem aw_e1 : applyE [] [⟨false, la⟩, ⟨false, lb⟩] = 0 := by decide +kernel
theorem aw_l1 : applyL [] [⟨false, la⟩, ⟨false, lb⟩] = awL := by decide +kernel
theorem aw_n1 : applyEnds [] [⟨false, la⟩, ⟨false, lb⟩] = awE := by decide +kernel
theorem aw_e2 : applyE awL [⟨false, lc⟩] = 90 := by decide +kernel
theorem aw_next : nextR 2 awL awE = (9, true) := by decide +kernel
theorem aw_nextE : nextE 2 awL awE = awE := by decide +kernel
theorem aw_ofk : (findO awL ⟨1, ⟨#[97]⟩, 0⟩).getD zeroKey = la.key := by decide +kernel
theorem aw_ofs : (findO awL ⟨1, ⟨#[97]⟩, 0⟩).isSome = true := by decide +kernel
theorem aw_ofl : (findL awL la.key).getD zeroLease = la := by decide +kernel
theorem aw_find : (findL awL lb.key).getD zeroLease = lb := by decide +kernel
theorem aw_finds : (findL awL lb.key).isSome = true := by decide +kernel
theorem aw_due : awL.filter (fun l => decide (l.till ≤ 10)) = awL := by decide +kernel
theorem aw_sorted : (Sort.insertionSort (ltOf cmpT) awL.toArray 0 awL.length).toList = [lb, la] := by decide +kernel
theorem aw_client : awL.filter (fun l => l.bound && decide (l.client = ⟨#[97]⟩)) = [la] := by decide +kernel
theorem changes_row {w : World} {b : Nat} {t : TypeId} (cs : List Change) (h : w.heap[b]? = some (.cells (cs.flatMap Change.cells).toArray t (0, 0))) (hok : ∀ c ∈ cs, c.lease.ok) (hlen : cs.length ≤ maxLen) : ChangesAt w (.slice (some ⟨b, 0, none⟩) cs.length cs.length) cs := by
  refine ⟨_, _, rfl, Nat.le_refl _, hlen, fun j hj => ⟨b, 0, rfl, fun i hi => ?_⟩, hok⟩
  rw [Nat.zero_add, (cell_of h (j * 9 + i)).1, List.getElem?_toArray]
  exact flat_idx Change.cells 9 (fun _ => rfl) i hi cs j hj
theorem leases_row {w : World} {b : Nat} (R : List Lease) (h : w.heap[b]? = some (.cells (R.flatMap Lease.cells).toArray 30 (0, 0))) (hlen : R.length ≤ maxLen) : LeasesIs w 0 (.slice (some ⟨b, 0, none⟩) R.length R.length) R := by
  have hl := flat_length Lease.cells 8 lcells R
  refine ⟨hl, .inr ⟨b, R.length, _, rfl, Nat.zero_le _, h, Nat.le_refl _, hlen, by simpa using hl, ?_⟩⟩
  rw [List.toList_toArray, List.take_of_length_le (by omega)]
end Go.Proofs.YtmegbllhidkmoaaGreat.Tb

/- What holds of every table that is filled: all sound, none meets another, at most 1024. -/
namespace Go.Proofs.YtmegbllhidkmoaaGreat.Tb
open Go.RowKit Go.Maps
set_option linter.unusedVariables false
structure Good (L : List Lease) : Prop where
  sound : ∀ l ∈ L, soundL l = true
  apart : ∀ a ∈ L, ∀ b ∈ L, a.key ≠ b.key → meetsB a.key b.key = false
  size : L.length ≤ 1024
theorem good_nil : Good [] := ⟨(fun l h => by cases h), (fun l h => by cases h), by simp⟩
theorem good_without {L : List Lease} (h : Good L) (k : Key) : Good (without L k) :=
  ⟨fun l hl => h.sound l (mem_without.1 hl).1, fun a ha b hb => h.apart a (mem_without.1 ha).1 b (mem_without.1 hb).1, Nat.le_trans (List.length_filter_le _ _) h.size⟩
theorem insertK_len (l : Lease) (X : List Lease) : (insertK l X).length = X.length + 1 := (insertK_perm l X).length_eq
theorem good_put {L : List Lease} {l : Lease} (h : Good L) (hs : soundL l = true) (he : putE L l = 0) : Good (putL L l) := by
  unfold putE at he
  have ht : takenB L l = false := by cases hb : takenB L l with
    | false => rfl
    | true => rw [hb] at he; cases he
  rw [ht] at he
  simp only [Bool.false_eq_true, if_false] at he
  have hm : meetAny L l = false := by cases hb : meetAny L l with
    | false => rfl
    | true => rw [hb] at he; cases he
  rw [hm] at he
  simp only [Bool.false_eq_true, if_false] at he
  have hf : fullB L l = false := by cases hb : fullB L l with
    | false => rfl
    | true => rw [hb] at he; cases he
  have hmm : ∀ x ∈ L, x.key ≠ l.key → meetsB l.key x.key = false := fun x hx hk => by
    unfold meetAny at hm
    rw [List.any_eq_false] at hm
    have := hm x hx
    simpa [hk] using this
  refine ⟨fun x hx => ?_, fun a ha b hb hk => ?_, ?_⟩
  · rcases mem_putL.1 hx with rfl | hx
    · exact hs
    · exact h.sound x hx.1
  · rcases mem_putL.1 ha with rfl | ha'
    · rcases mem_putL.1 hb with rfl | hb'
      · exact absurd rfl hk
      · exact hmm b hb'.1 hb'.2
    · rcases mem_putL.1 hb with rfl | hb'
      · rw [meetsB_symm]; exact hmm a ha'.1 ha'.2
      · exact h.apart a ha'.1 b hb'.1 hk
  · unfold putL
    rw [insertK_len]
    unfold fullB at hf
    cases hfl : findL L l.key with
    | none =>
      rw [hfl] at hf
      simp at hf
      have := List.length_filter_le (fun x : Lease => decide (x.key ≠ l.key)) L
      unfold without
      omega
    | some x =>
      obtain ⟨h1, h2⟩ := findL_some hfl
      have hlt : (without L l.key).length < L.length := by
        unfold without
        rw [List.length_filter_lt_length_iff_exists]
        exact ⟨x, h1, by simp [h2]⟩
      have := h.size
      omega
theorem good_change {L : List Lease} {c : Change} (h : Good L) (he : changeE L c = 0) : Good (changeL L c) := by
  unfold changeE at he
  cases hb : changeB c with
  | false => rw [hb] at he; cases he
  | true =>
    rw [hb] at he
    unfold changeL
    cases hg : c.gone with
    | true => exact good_without h _
    | false =>
      rw [hg] at he
      simp only [if_true, Bool.false_eq_true, if_false] at he
      refine good_put h ?_ he
      unfold changeB at hb
      rw [hg] at hb
      exact hb
theorem good_apply : ∀ (cs : List Change) {L : List Lease}, Good L → applyE L cs = 0 → Good (applyL L cs)
  | [], L, h, _ => h
  | c :: cs, L, h, he => by
    unfold applyE at he
    by_cases h0 : changeE L c = 0
    · rw [if_pos h0] at he
      exact good_apply cs (good_change h h0) he
    · rw [if_neg h0] at he
      exact absurd he h0
theorem good_applyS {S : List Lease × List End} (h : Good S.1) (cs : List Change) : Good (applyS S cs).1 := by
  unfold applyS
  by_cases he : applyE S.1 cs = 0
  · rw [if_pos he]; exact good_apply cs h he
  · rw [if_neg he]; exact h
theorem good_step {S : List Lease × List End} (h : Good S.1) (cs : List Change) : Good (stepS S cs).1 := by
  unfold stepS
  split
  · exact good_applyS h cs
  · exact h
theorem good_fold : ∀ (css : List (List Change)) {S : List Lease × List End}, Good S.1 → Good (css.foldl stepS S).1
  | [], S, h => h
  | cs :: css, S, h => good_fold css (good_step h cs)
theorem good_filled (css : List (List Change)) : Good (filledS css).1 := good_fold _ good_nil
end Go.Proofs.YtmegbllhidkmoaaGreat.Tb

/- The ends of a table are a heap, and what that says of Next: the plain part. -/
namespace Go.Proofs.YtmegbllhidkmoaaGreat.Tb
set_option linter.unusedVariables false
--BEGIN
theorem tillAt_swap {E : List End} {i j : Nat} (hi : i < E.length) (hj : j < E.length) (k : Nat) : tillAt (swapE E i j) k = if k = j then tillAt E i else if k = i then tillAt E j else tillAt E k := by
  rw [swapE_eq hi hj]
  unfold tillAt
  rw [List.getElem?_set, List.getElem?_set]
  by_cases h1 : k = j
  · subst h1; simp [hi, hj]
  · rw [if_neg (fun e => h1 e.symm), if_neg h1]
    by_cases h2 : k = i
    · subst h2; simp [hi, hj]
    · rw [if_neg (fun e => h2 e.symm), if_neg h2]
/-- A heap, but for what lies at c against what is above it. -/
structure UpTo (E : List End) (c : Nat) : Prop where
  rest : ∀ i, 0 < i → i < E.length → i ≠ c → tillAt E ((i - 1) / 2) ≤ tillAt E i
  over : 0 < c → ∀ i, 0 < i → i < E.length → (i - 1) / 2 = c → tillAt E ((c - 1) / 2) ≤ tillAt E i
def HeapE (E : List End) : Prop := ∀ i, 0 < i → i < E.length → tillAt E ((i - 1) / 2) ≤ tillAt E i
theorem siftUp_heap : ∀ (j : Nat) (E : List End), j < E.length → UpTo E j → HeapE (siftUp E j) := by
  intro j
  induction j using Nat.strongRecOn with
  | _ j ih =>
    intro E hj h
    rw [siftUp]
    by_cases h0 : j = 0
    · rw [dif_pos h0]
      intro i hi hl
      exact h.rest i hi hl (by omega)
    · rw [dif_neg h0]
      have hp : (j - 1) / 2 < j := by omega
      by_cases hc : tillAt E j < tillAt E ((j - 1) / 2)
      · rw [if_pos hc]
        have hpl : (j - 1) / 2 < E.length := by omega
        generalize hP : (j - 1) / 2 = p at *
        refine ih p hp _ (by rw [swapE_len]; exact hpl) ⟨fun i hi hl hne => ?_, fun hc0 i hi hl hip => ?_⟩
        · rw [swapE_len] at hl
          rw [tillAt_swap hpl hj, tillAt_swap hpl hj]
          by_cases e1 : i = j
          · subst e1
            rw [if_pos rfl, hP, if_neg (by omega), if_pos rfl]
            omega
          · rw [if_neg e1, if_neg hne]
            by_cases e2 : (i - 1) / 2 = j
            · rw [if_pos e2]
              have := h.over (by omega) i hi hl e2
              rw [hP] at this
              exact this
            · rw [if_neg e2]
              by_cases e3 : (i - 1) / 2 = p
              · rw [if_pos e3]
                have := h.rest i hi hl e1
                rw [e3] at this
                omega
              · rw [if_neg e3]
                exact h.rest i hi hl e1
        · rw [swapE_len] at hl
          have hpp : (p - 1) / 2 < p := by omega
          rw [tillAt_swap hpl hj, tillAt_swap hpl hj, if_neg (by omega), if_neg (by omega)]
          have hup := h.rest p hc0 hpl (by omega)
          by_cases e1 : i = j
          · rw [if_pos e1]; exact hup
          · rw [if_neg e1, if_neg (by omega)]
            have := h.rest i hi hl e1
            rw [hip] at this
            omega
      · rw [if_neg hc]
        intro i hi hl
        by_cases e1 : i = j
        · subst e1; omega
        · exact h.rest i hi hl e1
theorem swapE_perm {E : List End} {i j : Nat} (hi : i < E.length) (hj : j < E.length) : (swapE E i j).Perm E := by
  rw [swapE_eq hi hj]
  exact List.set_set_perm hi hj
theorem siftUp_perm : ∀ (j : Nat) (E : List End), j < E.length → (siftUp E j).Perm E := by
  intro j
  induction j using Nat.strongRecOn with
  | _ j ih =>
    intro E hj
    rw [siftUp]
    by_cases h0 : j = 0
    · rw [dif_pos h0]
    · rw [dif_neg h0]
      by_cases hc : tillAt E j < tillAt E ((j - 1) / 2)
      · rw [if_pos hc]
        exact (ih _ (by omega) _ (by rw [swapE_len]; omega)).trans (swapE_perm (by omega) hj)
      · rw [if_neg hc]
theorem push_heap {E : List End} (h : HeapE E) (e : End) : HeapE (siftUp (E ++ [e]) E.length) := by
  have ht : ∀ i, i < E.length → tillAt (E ++ [e]) i = tillAt E i := fun i hi => by
    unfold tillAt; rw [List.getElem?_append_left hi]
  refine siftUp_heap _ _ (by simp) ⟨fun i hi hl hne => ?_, fun h0 i hi hl hp => ?_⟩
  · rw [List.length_append, List.length_singleton] at hl
    rw [ht i (by omega), ht _ (by omega)]
    exact h i hi (by omega)
  · rw [List.length_append, List.length_singleton] at hl
    omega
theorem push_perm (E : List End) (e : End) : (siftUp (E ++ [e]) E.length).Perm (E ++ [e]) := siftUp_perm _ _ (by simp)
/-- The first n are a heap, but for what lies at c against what is below it. -/
structure DownTo (E : List End) (c n : Nat) : Prop where
  rest : ∀ i, 0 < i → i < n → (i - 1) / 2 ≠ c → tillAt E ((i - 1) / 2) ≤ tillAt E i
  over : 0 < c → ∀ i, 0 < i → i < n → (i - 1) / 2 = c → tillAt E ((c - 1) / 2) ≤ tillAt E i
theorem child_cases (E : List End) (i n : Nat) (h : 2 * i + 1 < n) : (child E i n = 2 * i + 1 ∨ child E i n = 2 * i + 2) ∧ child E i n < n ∧ ∀ k, 0 < k → k < n → (k - 1) / 2 = i → tillAt E (child E i n) ≤ tillAt E k := by
  unfold child
  by_cases hc : 2 * i + 2 < n ∧ tillAt E (2 * i + 2) < tillAt E (2 * i + 1)
  · rw [if_pos hc]
    refine ⟨.inr rfl, hc.1, fun k h0 hk hp => ?_⟩
    rcases (by omega : k = 2 * i + 1 ∨ k = 2 * i + 2) with rfl | rfl
    · omega
    · exact Int.le_refl _
  · rw [if_neg hc]
    refine ⟨.inl rfl, h, fun k h0 hk hp => ?_⟩
    rcases (by omega : k = 2 * i + 1 ∨ k = 2 * i + 2) with rfl | rfl
    · exact Int.le_refl _
    · have : ¬ tillAt E (2 * i + 2) < tillAt E (2 * i + 1) := fun e => hc ⟨hk, e⟩
      omega
theorem siftDown_heap (n : Nat) : ∀ (m i : Nat) (E : List End), n - i = m → n ≤ E.length → DownTo E i n → ∀ k, 0 < k → k < n → tillAt (siftDown E i n) ((k - 1) / 2) ≤ tillAt (siftDown E i n) k := by
  intro m
  induction m using Nat.strongRecOn with
  | _ m ih =>
    intro i E hm hn h k hk0 hk
    rw [siftDown]
    by_cases h0 : n ≤ 2 * i + 1
    · rw [dif_pos h0]
      exact h.rest k hk0 hk (by omega)
    · rw [dif_neg h0]
      obtain ⟨hch, hcn, hmin⟩ := child_cases E i n (by omega)
      by_cases hc : tillAt E (child E i n) < tillAt E i
      · rw [if_pos hc]
        generalize child E i n = c at *
        have hil : i < E.length := by omega
        have hcl : c < E.length := by omega
        refine ih (n - c) (by omega) c _ rfl (by rw [swapE_len]; exact hn) ⟨fun q hq0 hq hne => ?_, fun hc0 q hq0 hq hqc => ?_⟩ k hk0 hk
        · rw [tillAt_swap hil hcl, tillAt_swap hil hcl, if_neg hne]
          by_cases e1 : (q - 1) / 2 = i
          · rw [if_pos e1]
            by_cases e2 : q = c
            · rw [if_pos e2]; omega
            · rw [if_neg e2, if_neg (by omega)]
              exact hmin q hq0 hq e1
          · rw [if_neg e1]
            by_cases e2 : q = c
            · subst e2; omega
            · rw [if_neg e2]
              by_cases e3 : q = i
              · rw [if_pos e3]
                subst e3
                exact h.over hq0 c (by omega) hcn (by omega)
              · rw [if_neg e3]
                exact h.rest q hq0 hq e1
        · have hci : (c - 1) / 2 = i := by omega
          rw [tillAt_swap hil hcl, tillAt_swap hil hcl, hci, if_neg (by omega), if_pos rfl, if_neg (by omega), if_neg (by omega)]
          have := h.rest q hq0 hq (by omega)
          rw [hqc] at this
          exact this
      · rw [if_neg hc]
        by_cases e1 : (k - 1) / 2 = i
        · have := hmin k hk0 hk e1
          rw [e1]; omega
        · exact h.rest k hk0 hk e1
theorem siftDown_perm (n : Nat) : ∀ (m i : Nat) (E : List End), n - i = m → n ≤ E.length → (siftDown E i n).Perm E := by
  intro m
  induction m using Nat.strongRecOn with
  | _ m ih =>
    intro i E hm hn
    rw [siftDown]
    by_cases h0 : n ≤ 2 * i + 1
    · rw [dif_pos h0]
    · rw [dif_neg h0]
      obtain ⟨hch, hcn, _⟩ := child_cases E i n (by omega)
      by_cases hc : tillAt E (child E i n) < tillAt E i
      · rw [if_pos hc]
        generalize child E i n = c at *
        exact (ih (n - c) (by omega) c _ rfl (by rw [swapE_len]; exact hn)).trans (swapE_perm (by omega) (by omega))
      · rw [if_neg hc]
theorem siftDown_keep (n : Nat) : ∀ (m i : Nat) (E : List End), n - i = m → n ≤ E.length → ∀ k, n ≤ k → (siftDown E i n)[k]? = E[k]? := by
  intro m
  induction m using Nat.strongRecOn with
  | _ m ih =>
    intro i E hm hn k hk
    rw [siftDown]
    by_cases h0 : n ≤ 2 * i + 1
    · rw [dif_pos h0]
    · rw [dif_neg h0]
      obtain ⟨hch, hcn, _⟩ := child_cases E i n (by omega)
      by_cases hc : tillAt E (child E i n) < tillAt E i
      · rw [if_pos hc]
        generalize child E i n = c at *
        rw [ih (n - c) (by omega) c _ rfl (by rw [swapE_len]; exact hn) k hk, swapE_eq (by omega) (by omega), List.getElem?_set_ne (by omega), List.getElem?_set_ne (by omega)]
      · rw [if_neg hc]
/-- The heap behind Pop: a heap, and all but the one on top. -/
theorem popped_spec (e : End) (E : List End) (h : HeapE (e :: E)) : HeapE (popped (e :: E)) ∧ (popped (e :: E)).Perm E := by
  unfold popped
  have hn : (e :: E).length - 1 = E.length := by simp
  rw [hn]
  obtain ⟨D, hD⟩ : ∃ D, siftDown (swapE (e :: E) 0 E.length) 0 E.length = D := ⟨_, rfl⟩
  have hsl : (swapE (e :: E) 0 E.length).length = E.length + 1 := by rw [swapE_len]; rfl
  have hperm : D.Perm (e :: E) := by
    rw [← hD]
    exact (siftDown_perm E.length _ 0 _ rfl (by rw [hsl]; omega)).trans (swapE_perm (by simp) (by simp))
  have hDl : D.length = E.length + 1 := hperm.length_eq
  have hlast : D[E.length]? = some e := by
    rw [← hD, siftDown_keep E.length _ 0 _ rfl (by rw [hsl]; omega) E.length (Nat.le_refl _), swapE_eq (by simp) (by simp), List.getElem?_set]
    rw [if_pos rfl]; simp
  have hheap : ∀ k, 0 < k → k < E.length → tillAt D ((k - 1) / 2) ≤ tillAt D k := by
    rw [← hD]
    refine siftDown_heap E.length _ 0 _ rfl (by rw [hsl]; omega) ⟨fun i hi hl hne => ?_, fun h0 => absurd h0 (Nat.lt_irrefl _)⟩
    rw [tillAt_swap (by simp) (by simp), tillAt_swap (by simp) (by simp), if_neg (by omega), if_neg hne, if_neg (by omega), if_neg (by omega)]
    exact h i hi (by simp; omega)
  rw [hD]
  have hsplit : D = D.dropLast ++ [e] := by
    have hne : D ≠ [] := by intro h0; rw [h0] at hDl; simp at hDl
    have h1 := List.dropLast_concat_getLast hne
    have h2 : D.getLast hne = e := by
      rw [List.getLast_eq_getElem]
      have : D.length - 1 = E.length := by omega
      simp only [this]
      rw [List.getElem?_eq_getElem (by omega)] at hlast
      exact Option.some.inj hlast
    rw [h2] at h1; exact h1.symm
  refine ⟨fun i hi hl => ?_, ?_⟩
  · rw [List.length_dropLast] at hl
    have ht : ∀ k, k < E.length → tillAt D.dropLast k = tillAt D k := fun k hk => by
      unfold tillAt
      rw [List.getElem?_dropLast, if_pos (by omega)]
    rw [ht i (by omega), ht _ (by omega)]
    exact hheap i hi (by omega)
  · have h3 : (D.dropLast ++ [e]).Perm (E ++ [e]) := by
      rw [← hsplit]
      exact hperm.trans (List.perm_append_comm (l₁ := [e]))
    exact (List.perm_append_right_iff [e]).1 h3
/-- The one on top is the least. -/
theorem heap_least (e : End) (E : List End) (h : HeapE (e :: E)) : ∀ x ∈ e :: E, e.till ≤ x.till := by
  have hk : ∀ k, k < (e :: E).length → e.till ≤ tillAt (e :: E) k := by
    intro k
    induction k using Nat.strongRecOn with
    | _ k ih =>
      intro hl
      by_cases h0 : k = 0
      · subst h0; simp [tillAt]
      · have h1 := h k (by omega) hl
        have h2 := ih ((k - 1) / 2) (by omega) (by omega)
        omega
  intro x hx
  obtain ⟨i, hi, rfl⟩ := List.getElem_of_mem hx
  have := hk i hi
  rwa [tillAt_eq hi] at this
--END
end Go.Proofs.YtmegbllhidkmoaaGreat.Tb

/- What the laws on tables share: ends with keys that are in their kinds; Next, All and Copy of a table that is held; Next again. -/
namespace Go.Proofs.YtmegbllhidkmoaaGreat.Tb
open Go.RowKit Go.Maps
set_option linter.unusedVariables false
def EndsOk (E : List End) : Prop := ∀ e ∈ E, e.key.ok
theorem endsOk_change {E : List End} (h : EndsOk E) {c : Change} (hc : c.lease.ok) : EndsOk (changeEnds E c) := by
  unfold changeEnds
  split
  · exact h
  · intro e he
    rcases List.mem_append.1 ((push_perm E c.lease.fin).mem_iff.1 he) with he | he
    · exact h e he
    · obtain rfl : e = c.lease.fin := by simpa using he
      exact hc.1
theorem endsOk_apply : ∀ (cs : List Change) {E : List End}, EndsOk E → (∀ c ∈ cs, c.lease.ok) → EndsOk (applyEnds E cs)
  | [], E, h, _ => h
  | c :: cs, E, h, hc => endsOk_apply cs (endsOk_change h (hc c List.mem_cons_self)) (fun x hx => hc x (List.mem_cons_of_mem _ hx))
theorem endsOk_applyS {S : List Lease × List End} {cs : List Change} (h : EndsOk S.2) (hc : ∀ c ∈ cs, c.lease.ok) : EndsOk (applyS S cs).2 := by
  unfold applyS; split
  · exact endsOk_apply cs h hc
  · exact h
theorem endsOk_step {S : List Lease × List End} {cs : List Change} (h : EndsOk S.2) (hc : ∀ c ∈ cs, c.lease.ok) : EndsOk (stepS S cs).2 := by
  unfold stepS; split
  · exact endsOk_applyS h hc
  · exact h
theorem endsOk_fold : ∀ (css : List (List Change)) {S : List Lease × List End}, EndsOk S.2 → (∀ cs ∈ css, ∀ c ∈ cs, c.lease.ok) → EndsOk (css.foldl stepS S).2
  | [], S, h, _ => h
  | cs :: css, S, h, hc => endsOk_fold css (endsOk_step h (hc cs List.mem_cons_self)) (fun x hx => hc x (List.mem_cons_of_mem _ hx))
theorem ListsAt.oks {w : World} {v : Value} {css : List (List Change)} (h : ListsAt w v css) : ∀ cs ∈ css, ∀ c ∈ cs, c.lease.ok := by
  obtain ⟨p, cap, rfl, h1, h2, h3⟩ := h
  intro cs hcs c hc
  obtain ⟨i, hi, rfl⟩ := List.getElem_of_mem hcs
  obtain ⟨g, off, vi, _, _, hh⟩ := h3 i hi
  obtain ⟨_, _, _, _, _, _, hok⟩ := hh
  exact hok c hc
theorem endsOk_filled {w : World} {v : Value} {css : List (List Change)} (h : ListsAt w v css) : EndsOk (filledS css).2 :=
  endsOk_fold _ (fun e he => by cases he) (fun cs hcs => h.oks cs (List.mem_of_mem_take hcs))
theorem next_again : ∀ (n : Nat) (L : List Lease) (E : List End), E.length ≤ n → nextR (nextE n L E).length L (nextE n L E) = nextR n L E ∧ (nextE n L E).length ≤ E.length
  | 0, L, E, h => by
    obtain rfl : E = [] := List.length_eq_zero_iff.1 (by omega)
    exact ⟨rfl, Nat.le_refl _⟩
  | n + 1, L, [], _ => ⟨rfl, Nat.le_refl _⟩
  | n + 1, L, e :: E, h => by
    simp only [nextE, nextR]
    by_cases hit : nextHit L e = true
    · rw [if_pos hit, if_pos hit]
      simp only [List.length_cons, nextR, if_pos hit]
      exact ⟨trivial, Nat.le_refl _⟩
    · rw [if_neg hit, if_neg hit]
      have hl : (popped (e :: E)).length = E.length := by rw [popped_len]; simp
      rw [List.length_cons] at h
      have := next_again n L (popped (e :: E)) (by omega)
      exact ⟨this.1, by rw [List.length_cons]; omega⟩
theorem nextE_ok : ∀ (n : Nat) (L : List Lease) (E : List End), EndsOk E → EndsOk (nextE n L E)
  | 0, L, E, h => h
  | n + 1, L, [], _ => fun e he => by cases he
  | n + 1, L, e :: E, h => by
    simp only [nextE]
    split
    · exact h
    · exact nextE_ok n L _ (fun x hx => h x (popped_mem hx))
theorem foot_lt {w : World} {bt b1 b2 N : Nat} {v : Value} {L : List Lease} {E : List End} (h : TabAt w bt b1 b2 v N L E) : ∀ k, Foot bt b1 b2 v k → k < w.heap.size := fun k hk => by
  rcases hk with rfl | rfl | rfl | hk
  · exact (Array.getElem?_eq_some_iff.1 h.blk).1
  · exact h.m1.lt
  · exact h.m2.lt
  · exact ends_lt h.ends hk
/-- Next of a table that is held: it may turn blocks of the table alone. -/
theorem held_next (w w0 wr : World) (bt N : Nat) (S : List Lease × List End) (h : Held w w0 bt N S) (hk : Kept (fun k => w0.heap.size ≤ k) w0 wr) (hN : N ≤ 1000000000) (hE : EndsOk S.2) :
    Calls Tryz.prog 15 #[.pointer (some ⟨bt, 0, none⟩)] wr fun e w2 => e = .returned (.tuple #[.int .i64 (nextR S.2.length S.1 S.2).1, .bool (nextR S.2.length S.1 S.2).2]) ∧ Held w w2 bt N (S.1, nextE S.2.length S.1 S.2) ∧ Kept (fun k => w.heap.size ≤ k ∧ k < w0.heap.size) wr w2 := by
  obtain ⟨b1, b2, v, hT, hf⟩ := h.tab
  have hsz := h.quiet.size
  have hlt : ∀ k, Foot bt b1 b2 v k → k < w0.heap.size := foot_lt hT
  have hT' := hT.kept hk (fun k hk' h => by have := hlt k hk'; omega)
  refine (tab_next wr bt b1 b2 N v S.1 S.2 hT' hN hE).mono ?_
  rintro e w2 ⟨rfl, v', r1, r2, r3⟩
  have hK : Kept (fun k => w.heap.size ≤ k ∧ k < w0.heap.size) wr w2 := r3.mono (fun k hk' => by
    rcases hk' with rfl | hk'
    · exact ⟨hf _ (.inl rfl), hlt _ (.inl rfl)⟩
    · exact ⟨hf k (.inr (.inr (.inr hk'))), hlt k (.inr (.inr (.inr hk')))⟩)
  refine ⟨rfl, ⟨⟨b1, b2, v', r1, fun k hk => hf k (hk.imp id (fun h => h.imp id (fun h => h.imp id (fun h => by rw [← r2]; exact h))))⟩, h.sorted, h.uniq, (h.quiet.andThen hk (fun i hi h => by omega)).andThen hK (fun i hi h => absurd h.1 (by omega))⟩, hK⟩
theorem Held.kept {w wr w2 : World} {bt N : Nat} {S : List Lease × List End} {U : Nat → Prop} (h : Held w wr bt N S) (hk : Kept U wr w2) (hu : ∀ k, w.heap.size ≤ k → k < wr.heap.size → ¬ U k) (hl : ∀ k, k < w.heap.size → ¬ U k) : Held w w2 bt N S := by
  obtain ⟨b1, b2, v, hT, hf⟩ := h.tab
  have hlt : ∀ k, Foot bt b1 b2 v k → k < wr.heap.size := fun k hk => by
    rcases hk with rfl | rfl | rfl | hk
    · exact (Array.getElem?_eq_some_iff.1 hT.blk).1
    · exact hT.m1.lt
    · exact hT.m2.lt
    · exact ends_lt hT.ends hk
  exact ⟨⟨b1, b2, v, hT.kept hk (fun k hk' => hu k (hf k hk') (hlt k hk')), hf⟩, h.sorted, h.uniq, h.quiet.andThen hk (fun i hi h => hl i hi h)⟩
/-- Block g is of cells that may be written, n or more. -/
def CellsAt (w : World) (g n : Nat) : Prop := ∃ cur T, w.heap[g]? = some (.cells cur T (0, 0)) ∧ n ≤ cur.size
theorem CellsAt.set {w : World} {g n : Nat} (h : CellsAt w g n) (o : Nat) (v : Value) : CellsAt (w.setCell ⟨g, o, none⟩ v) g n := by
  obtain ⟨cur, T, hb, hn⟩ := h
  exact ⟨_, T, heap_setCell_same w g o cur T v hb, by simpa using hn⟩
theorem CellsAt.at {w : World} {g n : Nat} (h : CellsAt w g n) (o : Nat) (ho : o < n) : (∃ v, w.cell? ⟨g, o, none⟩ = some v) ∧ w.frozen? ⟨g, o, none⟩ = false := by
  obtain ⟨cur, T, hb, hn⟩ := h
  refine ⟨⟨cur[o]'(by omega), ?_⟩, (cell_of hb o).2⟩
  rw [(cell_of hb o).1, Array.getElem?_eq_getElem]
theorem LeasesIs.cells {w : World} {B : Nat} {p : Option Addr} {n cap : Nat} {R : List Lease} (h : LeasesIs w B (.slice p n cap) R) (h0 : 0 < R.length) : ∃ g, p = some ⟨g, 0, none⟩ ∧ B ≤ g ∧ g < w.heap.size ∧ CellsAt w g (R.length * 8) ∧ n = R.length := by
  obtain ⟨h1, h2⟩ := h
  rcases h2 with ⟨hv, hh⟩ | ⟨g, cap', cur, hv, hg, hb, hn, hm, hc, ht⟩
  · omega
  · obtain ⟨rfl, rfl, rfl⟩ : p = some ⟨g, 0, none⟩ ∧ n = R.length ∧ cap = cap' := by simpa using hv
    refine ⟨g, rfl, hg, (Array.getElem?_eq_some_iff.1 hb).1, ⟨cur, _, hb, ?_⟩, rfl⟩
    have := congrArg List.length ht
    rw [List.length_take, flat_length _ 8 lcells, Array.length_toList] at this
    omega
end Go.Proofs.YtmegbllhidkmoaaGreat.Tb

/- What TableViews asks, in plain lists. -/
namespace Go.Proofs.YtmegbllhidkmoaaGreat.Tb
open Go.RowKit Go.Maps
set_option linter.unusedVariables false
/-! Each thing meets itself. -/
theorem or_ge {x y : Int} (h0 : 0 ≤ x) (h1 : x ≤ 18446744073709551615) : x ≤ Go.bits .or .u64 x y := by
  have h2 : IntKind.u64.bits = 64 := rfl
  have h3 : Go.bits .or .u64 x y = IntKind.u64.wrap (((BitVec.ofInt 64 x) ||| (BitVec.ofInt 64 y)).toNat : Int) := rfl
  have h4 : (BitVec.ofInt 64 x).toNat ≤ ((BitVec.ofInt 64 x) ||| (BitVec.ofInt 64 y)).toNat := by
    rw [BitVec.toNat_or]; exact Nat.left_le_or
  have h5 : ((BitVec.ofInt 64 x) ||| (BitVec.ofInt 64 y)).toNat < 18446744073709551616 := ((BitVec.ofInt 64 x) ||| (BitVec.ofInt 64 y)).isLt
  have h6 : ((BitVec.ofInt 64 x).toNat : Int) = x := by
    rw [BitVec.toNat_ofInt]
    omega
  rw [h3, IntKind.wrap_u64]
  omega
theorem cmpI_le {x y : Int} (h : x ≤ y) : cmpI x y ≤ 0 := by
  unfold cmpI
  by_cases h1 : x < y
  · rw [if_pos h1]; decide
  · rw [if_neg h1, if_neg (by omega)]; decide
theorem cmpA_le {h l h' l' : Int} (h1 : h ≤ h') (h2 : l ≤ l') : cmpA h l h' l' ≤ 0 := by
  unfold cmpA
  have e1 := cmpI_le h1
  have e2 := cmpI_le h2
  simp only [orI]
  split
  · split
    · exact Int.le_refl _
    · exact e2
  · exact e1
theorem has_in {k : Nat} {h l n : Int} {s : Int × Int × Int × Int} (hs : addr_Span.f (k + 3) h l n = some s) (hd : addr_Sound.f (k + 3) h l n = some true) {x y : Int} (h1 : cmpA s.1 s.2.1 x y ≤ 0) (h2 : cmpA x y s.2.2.1 s.2.2.2 ≤ 0) : addr_Has.f (k + 3) h l n x y = some true := by
  unfold addr_Has.f
  rw [hs, hd, Option.bind_some, Option.bind_some, if_pos rfl, cmp_f, Option.bind_some, if_pos h1, cmp_f, Option.bind_some, decide_eq_true h2]
theorem covers_self {h l n : Int} (hh : 0 ≤ h ∧ h ≤ 18446744073709551615) (hl : 0 ≤ l ∧ l ≤ 18446744073709551615) (hd : addr_Sound.f 19 h l n = some true) : addr_Covers.f 19 h l n h l n = some true := by
  obtain ⟨b, hb, hn⟩ := sound_total 18 h l n
  obtain rfl : b = true := by rw [hd] at hb; exact (Option.some.inj hb).symm
  obtain ⟨r, hr⟩ := down_total 18446744073709551615 18446744073709551615 n (by have := hn rfl; omega)
  have hs : addr_Span.f 19 h l n = some (h, l, Go.bits .or .u64 h r.1, Go.bits .or .u64 l r.2) := by
    unfold addr_Span.f
    rw [hd, Option.bind_some, if_pos rfl, hr]; rfl
  have g1 := or_ge (y := r.1) hh.1 hh.2
  have g2 := or_ge (y := r.2) hl.1 hl.2
  have a1 : addr_Has.f 19 h l n h l = some true := has_in (k := 16) hs hd (cmpA_le (Int.le_refl _) (Int.le_refl _)) (cmpA_le g1 g2)
  have a2 : addr_Has.f 19 h l n (Go.bits .or .u64 h r.1) (Go.bits .or .u64 l r.2) = some true := has_in (k := 16) hs hd (cmpA_le g1 g2) (cmpA_le (Int.le_refl _) (Int.le_refl _))
  unfold addr_Covers.f
  rw [hs, hd, Option.bind_some, Option.bind_some, if_pos rfl, a1, Option.bind_some, if_pos rfl, a2]; rfl
theorem sound_128 (h l : Int) : addr_Sound.f 19 h l 128 = some true := by
  have hz : wrap64 (128 - 128) = 0 := by unfold wrap64; omega
  have hc : addr_Clip.f 19 h l 128 = some (h, l, 128, true) := by
    unfold addr_Clip.f
    rw [if_neg (by omega), show decide ((128 : Int) > 128) = false from rfl]
    have hd : addr_Down.f h l (wrap64 (128 - 128)) = some (h, l) := by unfold addr_Down.f; rw [hz, if_pos (by omega)]
    have hu : addr_Up.f h l (wrap64 (128 - 128)) = some (h, l) := by unfold addr_Up.f; rw [hz, if_pos (by omega)]
    show (if false = true then some (0, 0, 0, false) else ((addr_Down.f h l (wrap64 (128 - 128))).bind fun bt108 => ((addr_Up.f bt108.1 bt108.2 (wrap64 (128 - 128))).bind fun bt110 => (some (bt110.1, bt110.2, 128, true))))) = _
    rw [if_neg (by simp), hd, Option.bind_some, hu, Option.bind_some]
  unfold addr_Sound.f
  rw [hc, Option.bind_some]
  simp
theorem u64_in {n : Int} (h : (Lit.int .u64 n).wf = true) : 0 ≤ n ∧ n ≤ 18446744073709551615 := by
  have h1 : IntKind.u64.min ≤ n ∧ n ≤ IntKind.u64.max := by simpa [Lit.wf] using h
  have e1 : IntKind.u64.min = 0 := rfl
  have e2 : IntKind.u64.max = 18446744073709551615 := rfl
  omega
theorem meets_self {k : Key} (h : k.ok) (hr : rightB k = true) : meetsB k k = true := by
  unfold meetsB
  rw [hr]
  by_cases h1 : k.kind = 1 ∨ k.kind = 1
  · rw [if_pos h1, decide_eq_true rfl]; rfl
  · rw [if_neg h1]
    have hd : addr_Sound.f 19 k.hi k.lo k.bits = some true := by
      unfold rightB at hr
      rw [if_neg (by simpa using h1)] at hr
      by_cases h2 : k.kind = 2 ∨ k.kind = 3
      · rw [if_pos h2] at hr
        have h3 : k.bits = 128 := by simpa using hr
        rw [h3]; exact sound_128 _ _
      · rw [if_neg h2] at hr
        by_cases h4 : k.kind = 4
        · rw [if_pos h4] at hr
          simp only [Bool.and_eq_true] at hr
          have h5 := hr.1.1
          unfold soundP at h5
          cases he : addr_Sound.f 19 k.hi k.lo k.bits with
          | none => rw [he] at h5; cases h5
          | some b => rw [he] at h5; exact congrArg some h5
        · rw [if_neg h4] at hr; cases hr
    have hc : coversP k k = true := by
      unfold coversP
      rw [covers_self (u64_in h.2.1) (u64_in h.2.2.1) hd]; rfl
    rw [hc]; rfl
theorem right_of_sound {l : Lease} (h : soundL l = true) : rightB l.key = true := by
  unfold soundL at h
  simp only [Bool.and_eq_true] at h
  exact h.1.1.1
/-! One of a kind. -/
theorem filter_one {x : Lease} {p : Lease → Bool} : ∀ {L : List Lease}, L.Nodup → x ∈ L → (∀ y ∈ L, p y = decide (y = x)) → L.filter p = [x]
  | [], _, h, _ => by cases h
  | a :: t, hn, h, hp => by
    obtain ⟨hn1, hn2⟩ := List.nodup_cons.1 hn
    have ha := hp a List.mem_cons_self
    by_cases he : a = x
    · subst he
      rw [decide_eq_true rfl] at ha
      rw [List.filter_cons_of_pos ha, List.filter_eq_nil_iff.2 fun y hy hpy => ?_]
      rw [hp y (List.mem_cons_of_mem _ hy), decide_eq_true_eq] at hpy
      subst hpy
      exact hn1 hy
    · rw [decide_eq_false he] at ha
      rw [List.filter_cons_of_neg (by rw [ha]; decide)]
      rcases List.mem_cons.1 h with h | h
      · exact absurd h.symm he
      · exact filter_one hn2 h fun y hy => hp y (List.mem_cons_of_mem _ hy)
theorem Sorted.each {L : List Lease} (h : Sorted L) : L.Nodup := List.Pairwise.imp (fun {a b} hab e => by
  subst e
  unfold klt at hab
  rw [(cmpK_zero _ _).2 rfl] at hab
  exact absurd hab (by omega)) h
theorem Sorted.keys {L : List Lease} (h : Sorted L) {a b : Lease} (ha : a ∈ L) (hb : b ∈ L) (hk : a.key = b.key) : a = b := by
  obtain ⟨i, hi, rfl⟩ := List.getElem_of_mem ha
  obtain ⟨j, hj, rfl⟩ := List.getElem_of_mem hb
  rcases Nat.lt_trichotomy i j with h1 | h1 | h1
  · have h2 := List.pairwise_iff_getElem.1 h i j hi hj h1
    unfold klt at h2
    rw [hk, (cmpK_zero _ _).2 rfl] at h2
    exact absurd h2 (by omega)
  · subst h1; rfl
  · have h2 := List.pairwise_iff_getElem.1 h j i hj hi h1
    unfold klt at h2
    rw [hk, (cmpK_zero _ _).2 rfl] at h2
    exact absurd h2 (by omega)
theorem findL_mem {L : List Lease} (h : Sorted L) {x : Lease} (hx : x ∈ L) : findL L x.key = some x := by
  cases hf : findL L x.key with
  | none => exact absurd rfl (findL_none hf x hx)
  | some y =>
    obtain ⟨h1, h2⟩ := findL_some hf
    rw [h.keys h1 hx h2]
theorem findO_mem {L : List Lease} (h : Uniq L) {x : Lease} (hx : x ∈ L) (hb : x.bound = true) : findO L x.owner = some x.key := by
  cases hf : findO L x.owner with
  | none =>
    have := look_none hf (x.owner, x.key) (List.mem_map.2 ⟨x, List.mem_filter.2 ⟨hx, hb⟩, rfl⟩)
    exact absurd rfl this
  | some k =>
    obtain ⟨l, h1, h2, h3, h4⟩ := findO_some hf
    have := h l h1 x hx h2 hb h3
    rw [← h4, this]
theorem meets_one {L : List Lease} (h : Good L) (hs : Sorted L) (hok : ∀ l ∈ L, l.ok) {x : Lease} (hx : x ∈ L) : (L.filter fun l => meetsB x.key l.key) = [x] := by
  refine filter_one hs.each hx fun y hy => ?_
  by_cases he : y = x
  · subst he
    rw [decide_eq_true rfl, meets_self (hok y hy).1 (right_of_sound (h.sound y hy))]
  · rw [decide_eq_false he]
    exact h.apart x hx y hy fun hk => he (hs.keys hx hy hk).symm
def mineOf (L : List Lease) (x : Lease) : List Lease := L.filter fun l => l.bound && decide (l.client = x.client)
def timesIn (x : Lease) (M : List Lease) : Nat := (M.filter fun y => decide (y = x)).length
theorem times_mine {L : List Lease} (hs : Sorted L) {x : Lease} (hx : x ∈ L) : timesIn x (mineOf L x) = if x.bound then 1 else 0 := by
  unfold timesIn
  have hn : (mineOf L x).Nodup := List.Pairwise.filter _ hs.each
  by_cases hb : x.bound = true
  · rw [if_pos hb, filter_one hn (List.mem_filter.2 ⟨hx, by rw [hb, decide_eq_true rfl]; rfl⟩) fun y _ => rfl]; rfl
  · rw [if_neg hb, List.filter_eq_nil_iff.2 fun y hy hd => ?_]; · rfl
    rw [decide_eq_true_eq] at hd
    subst hd
    have := (List.mem_filter.1 hy).2
    simp [hb] at this
theorem times_next {x : Lease} {M : List Lease} {k : Nat} (h : k < M.length) : timesIn x (M.take (k + 1)) = timesIn x (M.take k) + (if M[k]'h = x then 1 else 0) := by
  unfold timesIn
  rw [List.take_succ_eq_append_getElem h, List.filter_append, List.length_append]
  by_cases he : M[k]'h = x
  · rw [if_pos he, List.filter_cons_of_pos (by rw [decide_eq_true he])]; rfl
  · rw [if_neg he, List.filter_cons_of_neg (by rw [decide_eq_false he]; decide)]; rfl
theorem times_le (x : Lease) (M : List Lease) : timesIn x M ≤ M.length := List.length_filter_le _ _
/-! How many have come to their end; the least end. -/
def dueN (q : Int) (L : List Lease) : Nat := (L.filter fun l => decide (l.till ≤ q)).length
theorem due_le (q : Int) (L : List Lease) : dueN q L ≤ L.length := List.length_filter_le _ _
theorem due_next {q : Int} {L : List Lease} {j : Nat} (h : j < L.length) : dueN q (L.take (j + 1)) = dueN q (L.take j) + (if (L[j]'h).till ≤ q then 1 else 0) := by
  unfold dueN
  rw [List.take_succ_eq_append_getElem h, List.filter_append, List.length_append]
  by_cases he : (L[j]'h).till ≤ q
  · rw [if_pos he, List.filter_cons_of_pos (by rw [decide_eq_true he])]; rfl
  · rw [if_neg he, List.filter_cons_of_neg (by rw [decide_eq_false he]; decide)]; rfl
def leastL : List Lease → Int
  | [] => 0
  | x :: t => t.foldl (fun m y => if y.till < m then y.till else m) x.till
theorem least_next {L : List Lease} {j : Nat} (h : j < L.length) : leastL (L.take (j + 1)) = if j = 0 ∨ (L[j]'h).till < leastL (L.take j) then (L[j]'h).till else leastL (L.take j) := by
  rw [List.take_succ_eq_append_getElem h]
  cases L with
  | nil => simp at h
  | cons x t =>
    cases j with
    | zero => simp [leastL]
    | succ j =>
      simp only [List.take_succ_cons, List.cons_append, leastL, List.foldl_append, List.foldl_cons, List.foldl_nil, Nat.add_one_ne_zero, false_or]
theorem least_fold : ∀ (t : List Lease) (m : Int), (t.foldl (fun m y => if y.till < m then y.till else m) m = m ∨ ∃ y ∈ t, t.foldl (fun m y => if y.till < m then y.till else m) m = y.till) ∧ t.foldl (fun m y => if y.till < m then y.till else m) m ≤ m ∧ ∀ y ∈ t, t.foldl (fun m y => if y.till < m then y.till else m) m ≤ y.till
  | [], m => ⟨.inl rfl, Int.le_refl _, fun y hy => by cases hy⟩
  | x :: t, m => by
    simp only [List.foldl_cons]
    by_cases h : x.till < m
    · simp only [if_pos h]
      obtain ⟨h1, h2, h3⟩ := least_fold t x.till
      refine ⟨.inr ?_, by omega, fun y hy => ?_⟩
      · rcases h1 with h1 | ⟨y, hy, h1⟩
        · exact ⟨x, List.mem_cons_self, h1⟩
        · exact ⟨y, List.mem_cons_of_mem _ hy, h1⟩
      · rcases List.mem_cons.1 hy with rfl | hy
        · exact h2
        · exact h3 y hy
    · simp only [if_neg h]
      obtain ⟨h1, h2, h3⟩ := least_fold t m
      refine ⟨?_, h2, fun y hy => ?_⟩
      · rcases h1 with h1 | ⟨y, hy, h1⟩
        · exact .inl h1
        · exact .inr ⟨y, List.mem_cons_of_mem _ hy, h1⟩
      · rcases List.mem_cons.1 hy with rfl | hy
        · omega
        · exact h3 y hy
theorem least_eq {L : List Lease} {x : Lease} (hx : x ∈ L) (h : ∀ y ∈ L, x.till ≤ y.till) : leastL L = x.till := by
  cases L with
  | nil => cases hx
  | cons a t =>
    obtain ⟨h1, h2, h3⟩ := least_fold t a.till
    have h4 : x.till ≤ leastL (a :: t) := by
      show x.till ≤ t.foldl (fun m y => if y.till < m then y.till else m) a.till
      rcases h1 with h1 | ⟨y, hy, h1⟩
      · rw [h1]; exact h a List.mem_cons_self
      · rw [h1]; exact h y (List.mem_cons_of_mem _ hy)
    have h5 : leastL (a :: t) ≤ x.till := by
      unfold leastL
      rcases List.mem_cons.1 hx with rfl | hx
      · exact h2
      · exact h3 x hx
    omega
theorem next_least : ∀ (n : Nat) (L : List Lease) (E : List End), Sorted L → HeapE E → E.length ≤ n → (∀ x ∈ L, x.fin ∈ E) → nextR n L E = (leastL L, decide (0 < L.length)) := by
  have hnil : ∀ L : List Lease, (∀ x ∈ L, x.fin ∈ ([] : List End)) → ((0 : Int), false) = (leastL L, decide (0 < L.length)) := fun L h => by
    cases L with
    | nil => rfl
    | cons x t => cases h x List.mem_cons_self
  intro n
  induction n with
  | zero =>
    intro L E hs hh hl h
    obtain rfl : E = [] := List.length_eq_zero_iff.1 (by omega)
    exact hnil L h
  | succ n ih =>
    intro L E hs hh hl h
    cases E with
    | nil => exact hnil L h
    | cons e E =>
      simp only [nextR]
      by_cases hit : nextHit L e = true
      · rw [if_pos hit]
        unfold nextHit at hit
        cases hf : findL L e.key with
        | none => rw [hf] at hit; cases hit
        | some x =>
          rw [hf] at hit
          obtain ⟨h1, h2⟩ := findL_some hf
          have h3 : x.till = e.till := by simpa using hit
          rw [least_eq h1 (fun y hy => by rw [h3]; exact heap_least e E hh y.fin (h y hy)), h3, decide_eq_true (List.length_pos_of_mem h1)]
      · rw [if_neg hit]
        obtain ⟨h1, h2⟩ := popped_spec e E hh
        refine ih L _ hs h1 (by rw [popped_len]; simp at hl ⊢; omega) fun x hx => ?_
        rw [h2.mem_iff]
        rcases List.mem_cons.1 (h x hx) with he | he
        · exfalso
          apply hit
          unfold nextHit
          rw [← he, show x.fin.key = x.key from rfl, findL_mem hs hx]
          simp [Lease.fin]
        · exact he
/-! The ends of a table that is filled. -/
structure Ended (S : List Lease × List End) : Prop where
  heap : HeapE S.2
  all : ∀ x ∈ S.1, x.fin ∈ S.2
theorem ended_nil : Ended ([], []) := ⟨fun i h0 h => by simp at h, fun x h => by cases h⟩
theorem ended_change {L : List Lease} {E : List End} (h : Ended (L, E)) (c : Change) : Ended (changeL L c, changeEnds E c) := by
  unfold changeL changeEnds
  by_cases hg : c.gone = true
  · simp only [if_pos hg]
    exact ⟨h.heap, fun x hx => h.all x (mem_without.1 hx).1⟩
  · simp only [if_neg hg]
    refine ⟨push_heap h.heap _, fun x hx => (push_perm E c.lease.fin).mem_iff.2 ?_⟩
    rcases mem_putL.1 hx with rfl | hx
    · simp
    · exact List.mem_append.2 (.inl (h.all x hx.1))
theorem ended_apply : ∀ (cs : List Change) {L : List Lease} {E : List End}, Ended (L, E) → Ended (applyL L cs, applyEnds E cs)
  | [], L, E, h => h
  | c :: cs, L, E, h => ended_apply cs (ended_change h c)
theorem ended_step {S : List Lease × List End} (h : Ended S) (cs : List Change) : Ended (stepS S cs) := by
  unfold stepS
  split
  · split
    · exact ended_apply cs h
    · exact h
  · exact h
theorem ended_fold : ∀ (css : List (List Change)) {S : List Lease × List End}, Ended S → Ended (css.foldl stepS S)
  | [], S, h => h
  | cs :: css, S, h => ended_fold css (ended_step h cs)
theorem ended_filled (css : List (List Change)) : Ended (filledS css) := ended_fold _ ended_nil
theorem filled_next (css : List (List Change)) (hs : Sorted (filledS css).1) : nextR (filledS css).2.length (filledS css).1 (filledS css).2 = (leastL (filledS css).1, decide (0 < (filledS css).1.length)) :=
  next_least _ _ _ hs (ended_filled css).heap (Nat.le_refl _) (ended_filled css).all
end Go.Proofs.YtmegbllhidkmoaaGreat.Tb

/- What the reference makes of one change, in plain lists. -/
namespace Go.Proofs.YtmegbllhidkmoaaGreat.Tb
open Go.RowKit Go.Maps
set_option linter.unusedVariables false
/-- Someone else holds the owner's place. -/
def heldBy (R : List Lease) (x : Lease) : Bool := R.any fun y => x.bound && y.bound && decide (y.owner = x.owner)
def metBy (R : List Lease) (x : Lease) : Bool := R.any fun y => meetsB x.key y.key
def oneE (L : List Lease) (c : Change) : Int :=
  if changeB c then (if c.gone then (if (without L c.lease.key).length = L.length then 62 else 0)
    else if heldBy (without L c.lease.key) c.lease then 90 else if metBy (without L c.lease.key) c.lease then 91 else if 1024 ≤ (without L c.lease.key).length then 63 else 0) else 80
theorem without_same {L : List Lease} {k : Key} : (without L k).length = L.length ↔ findL L k = none := by
  constructor
  · intro h
    cases hf : findL L k with
    | none => rfl
    | some x =>
      obtain ⟨h1, h2⟩ := findL_some hf
      have hlt : (without L k).length < L.length := by
        unfold without
        rw [List.length_filter_lt_length_iff_exists]
        exact ⟨x, h1, by simp [h2]⟩
      omega
  · intro h; rw [without_none h]
theorem held_taken {L : List Lease} (hu : Uniq L) (l : Lease) : heldBy (without L l.key) l = takenB L l := by
  rw [Bool.eq_iff_iff]
  unfold heldBy takenB
  rw [List.any_eq_true]
  simp only [Bool.and_eq_true, decide_eq_true_eq]
  constructor
  · rintro ⟨y, hy, ⟨hb, hyb⟩, ho⟩
    obtain ⟨h1, h2⟩ := mem_without.1 hy
    have hf := findO_mem hu h1 hyb
    rw [ho] at hf
    rw [hf]
    exact ⟨⟨rfl, hb⟩, h2⟩
  · rintro ⟨⟨hs, hb⟩, hk⟩
    cases hf : findO L l.owner with
    | none => rw [hf] at hs; cases hs
    | some k =>
      rw [hf] at hk
      obtain ⟨y, h1, h2, h3, h4⟩ := findO_some hf
      exact ⟨y, mem_without.2 ⟨h1, by rw [h4]; exact hk⟩, ⟨hb, h2⟩, h3⟩
theorem met_any (L : List Lease) (l : Lease) : metBy (without L l.key) l = meetAny L l := by
  rw [Bool.eq_iff_iff]
  unfold metBy meetAny
  rw [List.any_eq_true, List.any_eq_true]
  simp only [Bool.and_eq_true, decide_eq_true_eq]
  constructor
  · rintro ⟨y, hy, hm⟩
    obtain ⟨h1, h2⟩ := mem_without.1 hy
    exact ⟨y, h1, hm, h2⟩
  · rintro ⟨y, h1, hm, h2⟩
    exact ⟨y, mem_without.2 ⟨h1, h2⟩, hm⟩
theorem full_same {L : List Lease} (hG : L.length ≤ 1024) (l : Lease) : fullB L l = decide (1024 ≤ (without L l.key).length) := by
  unfold fullB
  cases hf : findL L l.key with
  | none => rw [without_none hf]; simp
  | some x =>
    have h1 := (not_congr (without_same (L := L) (k := l.key))).2 (by rw [hf]; simp)
    have h2 : (without L l.key).length ≤ L.length := List.length_filter_le _ _
    rw [decide_eq_false (show ¬ 1024 ≤ (without L l.key).length by omega)]; rfl
theorem one_same {L : List Lease} (hu : Uniq L) (hG : L.length ≤ 1024) (c : Change) : oneE L c = changeE L c := by
  unfold oneE changeE putE
  by_cases hc : changeB c = true
  · rw [if_pos hc, if_pos hc]
    by_cases hg : c.gone = true
    · rw [if_pos hg, if_pos hg]
      cases hf : findL L c.lease.key with
      | none => rw [if_pos (without_same.2 hf)]; rfl
      | some x => rw [if_neg (fun h => by rw [without_same.1 h] at hf; cases hf)]; rfl
    · rw [if_neg hg, if_neg hg, held_taken hu, met_any, full_same hG]
      simp only [decide_eq_true_eq]
  · rw [if_neg hc, if_neg hc]
/-- One round of the reference's with: what is out, and whether x has been put. -/
def withStep (x : Lease) (s : List Lease × Bool) (y : Lease) : List Lease × Bool :=
  if !s.2 && decide (cmpK x.key y.key < 0) then (s.1 ++ [x] ++ [y], true) else (s.1 ++ [y], s.2)
def withEnd (x : Lease) (s : List Lease × Bool) : List Lease := if s.2 then s.1 else s.1 ++ [x]
theorem with_put (x : Lease) : ∀ (L pre : List Lease), L.foldl (withStep x) (pre, true) = (pre ++ L, true)
  | [], pre => by simp
  | y :: L, pre => by
    rw [List.foldl_cons]
    have : withStep x (pre, true) y = (pre ++ [y], true) := rfl
    rw [this, with_put x L (pre ++ [y])]; simp
theorem with_go (x : Lease) : ∀ (L pre : List Lease), withEnd x (L.foldl (withStep x) (pre, false)) = pre ++ insertK x L
  | [], pre => rfl
  | y :: L, pre => by
    rw [List.foldl_cons]
    unfold insertK
    by_cases h : cmpK x.key y.key < 0
    · have : withStep x (pre, false) y = (pre ++ [x] ++ [y], true) := by unfold withStep; rw [decide_eq_true h]; rfl
      rw [this, with_put, if_pos h]
      unfold withEnd
      simp
    · have : withStep x (pre, false) y = (pre ++ [y], false) := by unfold withStep; rw [decide_eq_false h]; rfl
      rw [this, with_go x L (pre ++ [y]), if_neg h]; simp
theorem with_is (x : Lease) (L : List Lease) : withEnd x (L.foldl (withStep x) ([], false)) = insertK x L := with_go x L []
end Go.Proofs.YtmegbllhidkmoaaGreat.Tb

/- The reference's table: rows of leases that grow; same, without. -/
namespace Go.Proofs.YtmegbllhidkmoaaGreat.Tb
open Go.RowKit Go.Maps Go.Shelf
set_option linter.unusedVariables false
attribute [local go_sem] fldA_0 fldA_1 fldP_0 fldP_1
attribute [local go_sem high] eqA27
theorem leases_made {w : World} {b B : Nat} (R : List Lease) (hB : B ≤ b) (h : w.heap[b]? = some (.cells (R.flatMap Lease.cells).toArray 30 (0, 0))) (hlen : R.length ≤ maxLen) : LeasesIs w B (.slice (some ⟨b, 0, none⟩) R.length R.length) R := by
  have hl := flat_length Lease.cells 8 lcells R
  refine ⟨hl, .inr ⟨b, R.length, _, rfl, hB, h, Nat.le_refl _, hlen, by simpa using hl, ?_⟩⟩
  rw [List.toList_toArray, List.take_of_length_le (by omega)]
theorem append_lease {ops : Array Oper} {rest : List Oper} {o : Oper} {a : Act} {Q : Exit → Act → World → Prop} (hgd : o.guard = none) (s x : Operand)
    (ho : o.op = .call { callee := .builtin .append, args := #[s, x], argTypes := #[43, 43] }) (W : World) (B : Nat) (v : Value) (R : List Lease) (hs : a.eval s = v) (h : LeasesIs W B v R) (l : Lease)
    (hx : a.eval x = .slice (some ⟨W.heap.size, 0, none⟩) 1 1) (hlen : R.length ≤ 1000000000) (hB : B ≤ W.heap.size)
    (hk : ∀ v' w', LeasesIs w' B v' (R ++ [l]) → Kept (fun k => v.ownBlock = some k) W w' → wpList Tryz.prog ops Q rest (a.put o.dst v') w') :
    wpList Tryz.prog ops Q (o :: rest) a (W.alloc (.cells l.cells.toArray 30)) := by
  obtain ⟨i0, hi0, hz0, hz1, hz2⟩ := info_parts info_lease
  refine wpList_append_own_at _ hgd s x 43 ho B 30 i0 _ 8 72 Tryz.underlying43 hi0 hz0 hz1 hz2 rfl (by omega) v _ _ hs (h.alloc _) ⟨W.heap.size, 0, none⟩ 1 1 l.cells hx rfl (World.news_of_block (fr := (0, 0)) (heap_alloc_new W _)) (lone l) (by unfold maxLen; omega) (by omega) (by rw [World.size_alloc]; omega) ?_
  intro v' w' hown hgrow _ _
  refine hk v' w' ?_ (((Kept.refl _ W).alloc _).andThen (Kept.grown (S := fun k => v.ownBlock = some k) hgrow (fun k hk => hk)) (fun _ _ h => h))
  unfold LeasesIs
  rw [List.length_append, flat_snoc]
  exact hown
theorem lease_at {w : World} {b o : Nat} {l : Lease} (h : ∀ j, j < 8 → w.cell? ⟨b, o + j, none⟩ = l.cells[j]?) : w.cell? ⟨b, o, none⟩ = some (.int .i64 l.key.kind) ∧ w.cell? ⟨b, o + 1, none⟩ = some (.int .u64 l.key.hi) ∧ w.cell? ⟨b, o + 2, none⟩ = some (.int .u64 l.key.lo) ∧ w.cell? ⟨b, o + 3, none⟩ = some (.int .i64 l.key.bits) ∧ w.cell? ⟨b, o + 4, none⟩ = some (.int .i64 l.state) ∧ w.cell? ⟨b, o + 5, none⟩ = some (.string l.client) ∧ w.cell? ⟨b, o + 6, none⟩ = some (.int .u32 l.iaid) ∧ w.cell? ⟨b, o + 7, none⟩ = some (.int .i64 l.till) :=
  ⟨h 0 (by omega), h 1 (by omega), h 2 (by omega), h 3 (by omega), h 4 (by omega), h 5 (by omega), h 6 (by omega), h 7 (by omega)⟩
set_option maxRecDepth 100000 in
theorem rsame_run (w : World) (a b : Lease) : Calls Tryz.prog 64 #[a.val, b.val] w fun e w' => e = .returned (.bool (decide (a.key = b.key))) ∧ Quiet w w' := by
  have hk : decide (a.key = b.key) = (decide (a.key.kind = b.key.kind) && ((a.key.hi == b.key.hi && a.key.lo == b.key.lo) && a.key.bits == b.key.bits)) := by
    rw [Bool.eq_iff_iff]
    simp only [decide_eq_true_eq, Bool.and_eq_true, beq_iff_eq]
    exact ⟨fun e => by rw [e]; exact ⟨rfl, ⟨rfl, rfl⟩, rfl⟩, fun ⟨e1, ⟨e2, e3⟩, e4⟩ => Key.eq_of e1 e2 e3 e4⟩
  generalize decide (a.key = b.key) = r at hk ⊢
  obtain ⟨⟨k, h, l, n⟩, s, c, i, t⟩ := a
  obtain ⟨⟨k', h', l', n'⟩, s', c', i', t'⟩ := b
  simp only [Lease.val] at *
  by_cases hkk : k = k'
  · have HR : Aside1 (r = ((h == h' && l == l') && n == n')) := ⟨by rw [hk, decide_eq_true hkk]; rfl⟩
    subst hkk
    clear hk
    go_enter Tryz.func64, Tryz.ntmps64
    go_wp2_with fail
    go_ret
    exact ⟨by rw [HR.out]; rfl, by (repeat (first | exact Kept.refl _ _ | assumption | apply Kept.drew | apply Kept.drewN | apply Kept.alloc | refine Kept.setCell ?_ (fun hlt => absurd hlt (Nat.lt_irrefl _)) _ | refine Kept.andThen ?_ (by assumption) (fun _ _ h => h)))⟩
  · have HR : Aside1 (r = false) := ⟨by rw [hk, decide_eq_false hkk]; rfl⟩
    have hkk' : (k == k') = false := by simpa using hkk
    clear hk hkk
    go_enter Tryz.func64, Tryz.ntmps64
    go_wp2_with fail
    go_ret
    exact ⟨by rw [HR.out]; rfl, by (repeat (first | exact Kept.refl _ _ | assumption | apply Kept.drew | apply Kept.drewN | apply Kept.alloc | refine Kept.setCell ?_ (fun hlt => absurd hlt (Nat.lt_irrefl _)) _ | refine Kept.andThen ?_ (by assumption) (fun _ _ h => h)))⟩
theorem filter_next {R : List Lease} {p : Lease → Bool} {j : Nat} (h : j < R.length) : (R.take (j + 1)).filter p = (R.take j).filter p ++ (if p (R[j]'h) then [R[j]'h] else []) := by
  rw [List.take_succ_eq_append_getElem h, List.filter_append]
  cases h2 : p (R[j]'h) <;> simp [h2]
set_option maxHeartbeats 1600000 in
set_option maxRecDepth 100000 in
theorem rwithout_run (w : World) (B : Nat) (v : Value) (R : List Lease) (h : LeasesIs w B v R) (hlen : R.length ≤ 1000000000) (x : Lease) :
    Calls Tryz.prog 47 #[v, x.val] w fun e w' => ∃ v', e = .returned v' ∧ LeasesIs w' w.heap.size v' (without R x.key) ∧ Quiet w w' := by
  obtain ⟨pa, ca, rfl⟩ := leases_shape h
  have HL := Aside1.mk h
  have hin : (R.length : Int) ≤ 9223372036854775807 := by omega
  have HS := Aside1.mk (fun W (y : Lease) => rsame_run W y x)
  have HW : Aside1 (without R x.key = R.filter (fun y => !decide (y.key = x.key))) := ⟨by unfold without; congr 1; funext y; simp⟩
  rw [HW.out]
  clear h
  generalize x.key = xkey at HS HW ⊢
  obtain ⟨⟨k, hi, lo, b⟩, s, c, ia, t⟩ := x
  simp only [Lease.val] at *
  go_enter Tryz.func47, Tryz.ntmps47
  go_wp2_with fail
  go_loopw [5, 6] (fun v5 v6 wr => ∃ j : Nat, v6 = .int .i64 j ∧ j ≤ R.length ∧ Aside1 (LeasesIs wr (w.heap.size + 1) v5 ((R.take j).filter (fun y => !decide (y.key = xkey)))) ∧ Aside1 (wr.heap[w.heap.size]? = some (.cells #[.int .i64 k, .int .u64 hi, .int .u64 lo, .int .i64 b, .int .i64 s, .string c, .int .u32 ia, .int .i64 t] 30 (0, 0))) ∧ Aside1 (Quiet w wr)) (fun _ v6 _ => R.length - (RowKit.intOf v6).toNat)
  case atStart =>
    refine ⟨0, rfl, Nat.zero_le _, ⟨?_⟩, ⟨old1 w _ _⟩, ⟨by (repeat (first | exact Kept.refl _ _ | assumption | apply Kept.drew | apply Kept.drewN | apply Kept.alloc | refine Kept.setCell ?_ (fun hlt => absurd hlt (Nat.lt_irrefl _)) _ | refine Kept.andThen ?_ (by assumption) (fun _ _ h => h)))⟩⟩
    exact leases_made [] (Nat.le_refl _) (new1 w _ _) (Nat.zero_le _)
  case round =>
    obtain ⟨j, rfl, hj, HO, HX, HQ⟩ := hrel
    by_cases hlt : j < R.length
    · have hij : (j : Int) < (R.length : Int) := by omega
      obtain ⟨g, cap, hv, hn, hm, hcell⟩ := leases_cell (HL.out.old HQ.out (fun _ _ h => h)) j hlt
      simp only [Value.slice.injEq] at hv
      obtain ⟨rfl, _, rfl⟩ := hv
      have HN := Aside1.mk (filter_next (p := fun y => !decide (y.key = xkey)) hlt)
      have hlo := List.length_filter_le (fun y : Lease => !decide (y.key = xkey)) (R.take j)
      have htk : (R.take j).length ≤ R.length := List.length_take_le' _ _
      generalize (R.take j).filter (fun y => !decide (y.key = xkey)) = G at HO HN hlo
      obtain ⟨y, HY⟩ : ∃ y, Aside1 (R[j] = y) := ⟨_, ⟨rfl⟩⟩
      rw [HY.out] at hcell HN
      obtain ⟨a0, a1, a2, a3, a4, a5, a6, a7⟩ := lease_at (fun j hj => (hcell j hj).1)
      obtain ⟨x0, x1, x2, x3, x4, x5, x6, x7⟩ := at8 HX.out
      have HSy := Aside1.mk (fun W => HS.out W y)
      have A0 := fun q : QW wr => q.cell a0
      have A1 := fun q : QW wr => q.cell a1
      have A2 := fun q : QW wr => q.cell a2
      have A3 := fun q : QW wr => q.cell a3
      have A4 := fun q : QW wr => q.cell a4
      have A5 := fun q : QW wr => q.cell a5
      have A6 := fun q : QW wr => q.cell a6
      have A7 := fun q : QW wr => q.cell a7
      have X0 := fun q : QW wr => q.cell x0
      have X1 := fun q : QW wr => q.cell x1
      have X2 := fun q : QW wr => q.cell x2
      have X3 := fun q : QW wr => q.cell x3
      have X4 := fun q : QW wr => q.cell x4
      have X5 := fun q : QW wr => q.cell x5
      have X6 := fun q : QW wr => q.cell x6
      have X7 := fun q : QW wr => q.cell x7
      clear a0 a1 a2 a3 a4 a5 a6 a7 x0 x1 x2 x3 x4 x5 x6 x7 hcell
      generalize decide (y.key = xkey) = r at HSy HN
      obtain ⟨⟨yk, yh, yl, yb⟩, ys, yc, yi, yt⟩ := y
      simp only [Lease.val] at *
      cases r with
      | true =>
        go_wp2_with fail
        refine wp_region_qw (by kernel_rfl) (by kernel_rfl) ?_
        repeat (go_big_quiet_step ((go_at_call 64; (with_reducible exact Calls.qw_of (HSy.out _)))))
        refine wpQuiet_nil ?_
        rintro _ ⟨q, rfl⟩
        go_wp2_with fail
        have hq := HQ.out.andThen q.quiet (fun _ _ h => h)
        refine ⟨⟨j + 1, by rw [Int.natCast_add]; rfl, hlt, ⟨?_⟩, ⟨blk HX.out q.quiet⟩, ⟨hq⟩⟩, by simp [RowKit.intOf]; omega⟩
        rw [HN.out, if_neg (by decide), List.append_nil]
        exact HO.out.old q.quiet (fun _ _ h => h)
      | false =>
        have HOq : ∀ q : QW wr, Aside1 (LeasesIs q.wd (w.heap.size + 1) u5 G) := fun q => ⟨HO.out.old q.quiet (fun _ _ h => h)⟩
        have hsz := HQ.out.size
        have hx := (Array.getElem?_eq_some_iff.1 HX.out).1
        go_wp2_with fail
        refine wp_region_qw (by kernel_rfl) (by kernel_rfl) ?_
        repeat (go_big_quiet_step ((go_at_call 64; (with_reducible exact Calls.qw_of (HSy.out _)))))
        refine wpQuiet_nil ?_
        rintro _ ⟨q, rfl⟩
        have hqz := q.quiet.size
        go_wp2_with (at_builtin; (refine append_lease rfl _ _ rfl _ (w.heap.size + 1) _ G rfl (HOq q).out ⟨⟨yk, yh, yl, yb⟩, ys, yc, yi, yt⟩ rfl (by omega) (by omega) ?_; intro v' w3 hO3 hk3))
        have hq := HQ.out.andThen q.quiet (fun _ _ h => h)
        have hne : ∀ i, i ≤ w.heap.size → ¬ u5.ownBlock = some i := fun i hi e => by have := (HO.out.lt e).1; omega
        refine ⟨⟨j + 1, by rw [Int.natCast_add]; rfl, hlt, ⟨?_⟩, ⟨?_⟩, ⟨hq.andThen hk3 (fun i hi e => hne i (by omega) e)⟩⟩, by simp [RowKit.intOf]; omega⟩
        · rw [HN.out, if_pos (by decide)]; exact hO3
        · have := blk HX.out q.quiet
          exact (hk3.block _ (Array.getElem?_eq_some_iff.1 this).1 (hne _ (Nat.le_refl _))).trans this
    · have hje : ¬ (j : Int) < (R.length : Int) := by omega
      have HALL : Aside1 (R.take j = R) := ⟨List.take_of_length_le (by omega)⟩
      rw [HALL.out] at HO
      go_wp2_with fail
      go_ret
      exact ⟨_, rfl, HO.out.mono (Nat.le_succ _), HQ.out⟩
end Go.Proofs.YtmegbllhidkmoaaGreat.Tb

/- The reference's table: with. -/
namespace Go.Proofs.YtmegbllhidkmoaaGreat.Tb
open Go.RowKit Go.Maps Go.Shelf
set_option linter.unusedVariables false
attribute [local go_sem] fldA_0 fldA_1 fldP_0 fldP_1
theorem withStep_len (x : Lease) : ∀ (R : List Lease) (s : List Lease × Bool), (R.foldl (withStep x) s).1.length ≤ s.1.length + 2 * R.length
  | [], s => by simp
  | y :: R, s => by
    rw [List.foldl_cons]
    refine Nat.le_trans (withStep_len x R _) ?_
    unfold withStep
    split <;> simp <;> omega
theorem fold_next {α : Type} {f : α → Lease → α} {s : α} {R : List Lease} {j : Nat} (h : j < R.length) : (R.take (j + 1)).foldl f s = f ((R.take j).foldl f s) (R[j]'h) := by
  rw [List.take_succ_eq_append_getElem h, List.foldl_append]; rfl
set_option maxHeartbeats 3200000 in
set_option maxRecDepth 100000 in
theorem rwith_run (w : World) (B : Nat) (v : Value) (R : List Lease) (h : LeasesIs w B v R) (hlen : R.length ≤ 100000000) (x : Lease) (hx : x.ok) (hR : ∀ y ∈ R, y.ok) :
    Calls Tryz.prog 49 #[v, x.val] w fun e w' => ∃ v', e = .returned v' ∧ LeasesIs w' w.heap.size v' (insertK x R) ∧ Quiet w w' := by
  obtain ⟨pa, ca, rfl⟩ := leases_shape h
  have HL := Aside1.mk h
  have hin : (R.length : Int) ≤ 9223372036854775807 := by omega
  have HOK := Aside1.mk (show ∀ y ∈ R, ∀ W, Calls Tryz.prog 66 #[.int .i64 x.key.kind, .agg #[.int .u64 x.key.hi, .int .u64 x.key.lo, .int .i64 x.key.bits], .int .i64 y.key.kind, .agg #[.int .u64 y.key.hi, .int .u64 y.key.lo, .int .i64 y.key.bits]] W fun e w' => e = .returned (.int .i64 (cmpK x.key y.key)) ∧ Quiet W w' from fun y hy W => rcompare_run W x.key y.key hx.1 (hR y hy).1)
  have HWI := Aside1.mk (with_is x R)
  have hstep : ∀ (s : List Lease × Bool) (y : Lease), withStep x s y = if !s.2 && decide (cmpK x.key y.key < 0) then (s.1 ++ [x] ++ [y], true) else (s.1 ++ [y], s.2) := fun _ _ => rfl
  have HST := Aside1.mk hstep
  have hend : ∀ (s : List Lease × Bool), withEnd x s = if s.2 then s.1 else s.1 ++ [x] := fun _ => rfl
  have HEN := Aside1.mk hend
  have hlw : ∀ j, ((R.take j).foldl (withStep x) ([], false)).1.length ≤ 2 * R.length := fun j => by
    have h1 := withStep_len x (R.take j) ([], false)
    have h2 := List.length_take_le' j R
    simp only [List.length_nil] at h1
    omega
  have HLW := Aside1.mk hlw
  clear h hx hR hstep hend hlw
  obtain ⟨xx, hxx⟩ : ∃ y, x = y := ⟨_, rfl⟩
  have HXX := Aside1.mk hxx
  obtain ⟨⟨k, hi, lo, b⟩, s, c, ia, t⟩ := x
  generalize insertK _ R = T at HWI ⊢
  simp only [Lease.val] at *
  clear hxx
  go_enter Tryz.func49, Tryz.ntmps49
  go_wp2_with fail
  go_loopw [5, 6, 7] (fun v5 v6 v7 wr => ∃ (j : Nat) (S : List Lease × Bool), v7 = .int .i64 j ∧ j ≤ R.length ∧ v6 = .bool S.2 ∧ Aside1 ((R.take j).foldl (withStep ⟨⟨k, hi, lo, b⟩, s, c, ia, t⟩) ([], false) = S) ∧ Aside1 (LeasesIs wr (w.heap.size + 1) v5 S.1) ∧ Aside1 (wr.heap[w.heap.size]? = some (.cells #[.int .i64 k, .int .u64 hi, .int .u64 lo, .int .i64 b, .int .i64 s, .string c, .int .u32 ia, .int .i64 t] 30 (0, 0))) ∧ Aside1 (Quiet w wr)) (fun _ _ v7 _ => R.length - (RowKit.intOf v7).toNat)
  case atStart =>
    refine ⟨0, ([], false), rfl, Nat.zero_le _, rfl, ⟨rfl⟩, ⟨?_⟩, ⟨old1 w _ _⟩, ⟨by (repeat (first | exact Kept.refl _ _ | assumption | apply Kept.drew | apply Kept.drewN | apply Kept.alloc | refine Kept.setCell ?_ (fun hlt => absurd hlt (Nat.lt_irrefl _)) _ | refine Kept.andThen ?_ (by assumption) (fun _ _ h => h)))⟩⟩
    exact leases_made [] (Nat.le_refl _) (new1 w _ _) (Nat.zero_le _)
  case round =>
    obtain ⟨j, ⟨G, p⟩, rfl, hj, rfl, HF, HO, HX, HQ⟩ := hrel
    have hle : G.length ≤ 2 * R.length := by have := HLW.out j; rw [HF.out] at this; exact this
    have hsz := HQ.out.size
    have hx := (Array.getElem?_eq_some_iff.1 HX.out).1
    have hne : Aside1 (∀ i, i ≤ w.heap.size → ¬ u5.ownBlock = some i) := ⟨fun i hi e => by have := (HO.out.lt e).1; omega⟩
    obtain ⟨x0, x1, x2, x3, x4, x5, x6, x7⟩ := at8 HX.out
    by_cases hlt : j < R.length
    · have hij : (j : Int) < (R.length : Int) := by omega
      obtain ⟨g, cap, hv, hn, hm, hcell⟩ := leases_cell (HL.out.old HQ.out (fun _ _ h => h)) j hlt
      simp only [Value.slice.injEq] at hv
      obtain ⟨rfl, _, rfl⟩ := hv
      have HN := Aside1.mk (fold_next (f := withStep ⟨⟨k, hi, lo, b⟩, s, c, ia, t⟩) (s := ([], false)) hlt)
      rw [HF.out, HST.out] at HN
      have HC := Aside1.mk (HOK.out _ (List.getElem_mem hlt))
      obtain ⟨y, HY⟩ : ∃ y, Aside1 (R[j] = y) := ⟨_, ⟨rfl⟩⟩
      rw [HY.out] at hcell HN HC
      obtain ⟨a0, a1, a2, a3, a4, a5, a6, a7⟩ := lease_at (fun j hj => (hcell j hj).1)
      generalize hcm : cmpK _ y.key = cm at HC HN
      clear hcm hcell
      obtain ⟨⟨yk, yh, yl, yb⟩, ys, yc, yi, yt⟩ := y
      simp only [Lease.val] at *
      have A0 := fun q : QW wr => q.cell a0
      have A1 := fun q : QW wr => q.cell a1
      have A2 := fun q : QW wr => q.cell a2
      have A3 := fun q : QW wr => q.cell a3
      have A4 := fun q : QW wr => q.cell a4
      have A5 := fun q : QW wr => q.cell a5
      have A6 := fun q : QW wr => q.cell a6
      have A7 := fun q : QW wr => q.cell a7
      have X0 := fun q : QW wr => q.cell x0
      have X1 := fun q : QW wr => q.cell x1
      have X2 := fun q : QW wr => q.cell x2
      have X3 := fun q : QW wr => q.cell x3
      have X4 := fun q : QW wr => q.cell x4
      have X5 := fun q : QW wr => q.cell x5
      have X6 := fun q : QW wr => q.cell x6
      have X7 := fun q : QW wr => q.cell x7
      clear a0 a1 a2 a3 a4 a5 a6 a7 x0 x1 x2 x3 x4 x5 x6 x7
      have HOq : ∀ q : QW wr, Aside1 (LeasesIs q.wd (w.heap.size + 1) u5 G) := fun q => ⟨HO.out.old q.quiet (fun _ _ h => h)⟩
      have hcase : (p = true ∨ p = false ∧ 0 ≤ cm) ∨ (p = false ∧ cm < 0) := by
        cases p
        · by_cases h : cm < 0
          · exact .inr ⟨rfl, h⟩
          · exact .inl (.inr ⟨rfl, by omega⟩)
        · exact .inl (.inl rfl)
      rcases hcase with hcase | ⟨rfl, hcm⟩
      · have hs1 : (if (!p && decide (cm < 0)) = true then (G ++ [(⟨⟨k, hi, lo, b⟩, s, c, ia, t⟩ : Lease)] ++ [⟨⟨yk, yh, yl, yb⟩, ys, yc, yi, yt⟩], true) else (G ++ [⟨⟨yk, yh, yl, yb⟩, ys, yc, yi, yt⟩], p)) = (G ++ [⟨⟨yk, yh, yl, yb⟩, ys, yc, yi, yt⟩], p) := by
          rcases hcase with rfl | ⟨rfl, h⟩
          · rfl
          · rw [decide_eq_false (show ¬ cm < 0 by omega)]; rfl
        have HS1 := Aside1.mk hs1
        clear hs1
        rcases hcase with rfl | ⟨rfl, hcm⟩
        · go_wp2_with fail
          refine wp_region_qw (by kernel_rfl) (by kernel_rfl) ?_
          repeat (go_big_quiet_step ((go_at_call 66; (with_reducible exact Calls.qw_of (HC.out _)))))
          refine wpQuiet_nil ?_
          rintro _ ⟨q, rfl⟩
          have hqz := q.quiet.size
          go_wp2_with (at_builtin; (refine append_lease rfl _ _ rfl _ (w.heap.size + 1) _ G rfl (HOq q).out ⟨⟨yk, yh, yl, yb⟩, ys, yc, yi, yt⟩ rfl (by omega) (by omega) ?_; intro v' w3 hO3 hk3))
          have hq := HQ.out.andThen q.quiet (fun _ _ h => h)
          have hb := blk HX.out q.quiet
          refine ⟨⟨j + 1, (G ++ [⟨⟨yk, yh, yl, yb⟩, ys, yc, yi, yt⟩], true), by rw [Int.natCast_add]; rfl, hlt, rfl, ⟨?_⟩, ⟨hO3⟩, ⟨?_⟩, ⟨hq.andThen hk3 (fun i hi e => hne.out i (by omega) e)⟩⟩, by simp [RowKit.intOf]; omega⟩
          · rw [HN.out, HS1.out]
          · exact (hk3.block _ (Array.getElem?_eq_some_iff.1 hb).1 (hne.out _ (Nat.le_refl _))).trans hb
        · have hno : ¬ cm < 0 := by omega
          go_wp2_with fail
          refine wp_region_qw (by kernel_rfl) (by kernel_rfl) ?_
          repeat (go_big_quiet_step ((go_at_call 66; (with_reducible exact Calls.qw_of (HC.out _)))))
          refine wpQuiet_nil ?_
          rintro _ ⟨q, rfl⟩
          have hqz := q.quiet.size
          go_wp2_with (at_builtin; (refine append_lease rfl _ _ rfl _ (w.heap.size + 1) _ G rfl (HOq q).out ⟨⟨yk, yh, yl, yb⟩, ys, yc, yi, yt⟩ rfl (by omega) (by omega) ?_; intro v' w3 hO3 hk3))
          have hq := HQ.out.andThen q.quiet (fun _ _ h => h)
          have hb := blk HX.out q.quiet
          refine ⟨⟨j + 1, (G ++ [⟨⟨yk, yh, yl, yb⟩, ys, yc, yi, yt⟩], false), by rw [Int.natCast_add]; rfl, hlt, rfl, ⟨?_⟩, ⟨hO3⟩, ⟨?_⟩, ⟨hq.andThen hk3 (fun i hi e => hne.out i (by omega) e)⟩⟩, by simp [RowKit.intOf]; omega⟩
          · rw [HN.out, HS1.out]
          · exact (hk3.block _ (Array.getElem?_eq_some_iff.1 hb).1 (hne.out _ (Nat.le_refl _))).trans hb
      · have HS1 : Aside1 ((if (!false && decide (cm < 0)) = true then (G ++ [(⟨⟨k, hi, lo, b⟩, s, c, ia, t⟩ : Lease)] ++ [⟨⟨yk, yh, yl, yb⟩, ys, yc, yi, yt⟩], true) else (G ++ [⟨⟨yk, yh, yl, yb⟩, ys, yc, yi, yt⟩], false)) = (G ++ [⟨⟨k, hi, lo, b⟩, s, c, ia, t⟩] ++ [⟨⟨yk, yh, yl, yb⟩, ys, yc, yi, yt⟩], true)) := ⟨by rw [decide_eq_true hcm]; rfl⟩
        have HG2 : Aside1 ((G ++ [(⟨⟨k, hi, lo, b⟩, s, c, ia, t⟩ : Lease)]).length ≤ 1000000000) := ⟨by simp; omega⟩
        go_wp2_with fail
        refine wp_region_qw (by kernel_rfl) (by kernel_rfl) ?_
        repeat (go_big_quiet_step ((go_at_call 66; (with_reducible exact Calls.qw_of (HC.out _)))))
        refine wpQuiet_nil ?_
        rintro _ ⟨q, rfl⟩
        have hqz := q.quiet.size
        have hgl : g < w.heap.size := (HL.out.lt (k := g) rfl).2
        have hgne : ¬ u5.ownBlock = some g := hne.out g (by omega)
        go_wp2_with (first
          | (at_builtin; (refine append_lease rfl _ _ rfl _ (w.heap.size + 1) _ _ rfl hO3 ⟨⟨yk, yh, yl, yb⟩, ys, yc, yi, yt⟩ rfl HG2.out (by omega) ?_; intro v'' w4 hO4 hk4))
          | (at_builtin; (refine append_lease rfl _ _ rfl _ (w.heap.size + 1) _ G rfl (HOq q).out ⟨⟨k, hi, lo, b⟩, s, c, ia, t⟩ rfl (by omega) (by omega) ?_; intro v' w3 hO3 hk3; have b0 := hk3.cell (A0 q) hgne; have b1 := hk3.cell (A1 q) hgne; have b2 := hk3.cell (A2 q) hgne; have b3 := hk3.cell (A3 q) hgne; have b4 := hk3.cell (A4 q) hgne; have b5 := hk3.cell (A5 q) hgne; have b6 := hk3.cell (A6 q) hgne; have b7 := hk3.cell (A7 q) hgne; have hz3 := hk3.size)))
        have hq := HQ.out.andThen q.quiet (fun _ _ h => h)
        have hb := blk HX.out q.quiet
        have hq3 := hq.andThen hk3 (fun i hi e => hne.out i (by omega) e)
        have hne3 : ∀ i, i ≤ w.heap.size → ¬ v'.ownBlock = some i := fun i hi e => by have := (hO3.lt e).1; omega
        have hb3 := (hk3.block _ (Array.getElem?_eq_some_iff.1 hb).1 (hne.out _ (Nat.le_refl _))).trans hb
        refine ⟨⟨j + 1, (G ++ [⟨⟨k, hi, lo, b⟩, s, c, ia, t⟩] ++ [⟨⟨yk, yh, yl, yb⟩, ys, yc, yi, yt⟩], true), by rw [Int.natCast_add]; rfl, hlt, rfl, ⟨?_⟩, ⟨hO4⟩, ⟨?_⟩, ⟨hq3.andThen hk4 (fun i hi e => hne3 i (by omega) e)⟩⟩, by simp [RowKit.intOf]; omega⟩
        · rw [HN.out, HS1.out]
        · exact (hk4.block _ (Array.getElem?_eq_some_iff.1 hb3).1 (hne3 _ (Nat.le_refl _))).trans hb3
    · have hje : ¬ (j : Int) < (R.length : Int) := by omega
      have HALL : Aside1 (R.take j = R) := ⟨List.take_of_length_le (by omega)⟩
      rw [HALL.out] at HF
      have HT : Aside1 (withEnd ⟨⟨k, hi, lo, b⟩, s, c, ia, t⟩ (G, p) = T) := ⟨by rw [← HF.out]; exact HWI.out⟩
      rw [HEN.out] at HT
      cases p with
      | true =>
        rw [if_pos rfl] at HT
        go_wp2_with fail
        go_ret
        exact ⟨_, rfl, by rw [← HT.out]; exact HO.out.mono (Nat.le_succ _), HQ.out⟩
      | false =>
        rw [if_neg (show ¬ (G, false).2 = true from Bool.false_ne_true)] at HT
        go_wp2_with (at_builtin; (refine append_lease rfl _ _ rfl _ (w.heap.size + 1) _ G rfl HO.out ⟨⟨k, hi, lo, b⟩, s, c, ia, t⟩ rfl (by omega) (by omega) ?_; intro v' w3 hO3 hk3))
        go_ret
        exact ⟨_, rfl, by rw [← HT.out]; exact hO3.mono (Nat.le_succ _), HQ.out.andThen hk3 (fun i hi e => hne.out i (by omega) e)⟩
end Go.Proofs.YtmegbllhidkmoaaGreat.Tb

/- The reference's table: one change. -/
namespace Go.Proofs.YtmegbllhidkmoaaGreat.Tb
open Go.RowKit Go.Maps Go.Shelf
set_option linter.unusedVariables false
attribute [local go_sem] fldA_0 fldA_1 fldP_0 fldP_1
def owns (x y : Lease) : Bool := x.bound && y.bound && decide (y.owner = x.owner)
theorem owns_ways (x y : Lease) : ((x.state == 1) = false ∧ owns x y = false) ∨ (x.state = 1 ∧ (((y.state == 1) = false ∧ owns x y = false) ∨ (y.state = 1 ∧ (((x.key.kind == y.key.kind) = false ∧ owns x y = false) ∨ (x.key.kind = y.key.kind ∧ ((¬ x.client = y.client ∧ owns x y = false) ∨ (x.client = y.client ∧ (((x.iaid == y.iaid) = false ∧ owns x y = false) ∨ (x.iaid = y.iaid ∧ owns x y = true))))))))) := by
  unfold owns Lease.bound
  cases h1 : x.state == 1 with
  | false => exact .inl ⟨rfl, rfl⟩
  | true =>
    refine .inr ⟨by simpa using h1, ?_⟩
    cases h2 : y.state == 1 with
    | false => exact .inl ⟨rfl, rfl⟩
    | true =>
      refine .inr ⟨by simpa using h2, ?_⟩
      by_cases h3 : x.key.kind = y.key.kind
      · refine .inr ⟨h3, ?_⟩
        by_cases h4 : x.client = y.client
        · refine .inr ⟨h4, ?_⟩
          by_cases h5 : x.iaid = y.iaid
          · exact .inr ⟨h5, by rw [decide_eq_true (show y.owner = x.owner by unfold Lease.owner; rw [h3, h4, h5])]; rfl⟩
          · exact .inl ⟨by simpa using h5, by rw [decide_eq_false (fun e : y.owner = x.owner => h5 (congrArg Owner.iaid e).symm)]; rfl⟩
        · exact .inl ⟨h4, by rw [decide_eq_false (fun e : y.owner = x.owner => h4 (congrArg Owner.client e).symm)]; rfl⟩
      · exact .inl ⟨by simpa using h3, by rw [decide_eq_false (fun e : y.owner = x.owner => h3 (congrArg Owner.kind e).symm)]; rfl⟩
theorem any_next {R : List Lease} {p : Lease → Bool} {j : Nat} (h : j < R.length) : (R.take (j + 1)).any p = ((R.take j).any p || p (R[j]'h)) := by
  rw [List.take_succ_eq_append_getElem h, List.any_append, List.any_cons, List.any_nil, Bool.or_false]
theorem any_at {R : List Lease} {p : Lease → Bool} {j : Nat} (h : j < R.length) (hp : p (R[j]'h) = true) : R.any p = true := List.any_eq_true.2 ⟨_, List.getElem_mem h, hp⟩
theorem oneE_ways (L : List Lease) (c : Change) : (changeB c = false ∧ oneE L c = 80) ∨ (changeB c = true ∧ ((c.gone = true ∧ (((without L c.lease.key).length = L.length ∧ oneE L c = 62) ∨ ((without L c.lease.key).length ≠ L.length ∧ oneE L c = 0))) ∨
    (c.gone = false ∧ (((without L c.lease.key).any (owns c.lease) = true ∧ oneE L c = 90) ∨ ((without L c.lease.key).any (owns c.lease) = false ∧ (((without L c.lease.key).any (fun y => meetsB c.lease.key y.key) = true ∧ oneE L c = 91) ∨ ((without L c.lease.key).any (fun y => meetsB c.lease.key y.key) = false ∧ ((1024 ≤ (without L c.lease.key).length ∧ oneE L c = 63) ∨ ((without L c.lease.key).length < 1024 ∧ oneE L c = 0))))))))) := by
  unfold oneE
  cases changeB c with
  | false => exact .inl ⟨rfl, rfl⟩
  | true =>
    refine .inr ⟨rfl, ?_⟩
    rw [if_pos rfl]
    cases c.gone with
    | true =>
      refine .inl ⟨rfl, ?_⟩
      rw [if_pos rfl]
      by_cases h : (without L c.lease.key).length = L.length
      · exact .inl ⟨h, if_pos h⟩
      · exact .inr ⟨h, if_neg h⟩
    | false =>
      refine .inr ⟨rfl, ?_⟩
      rw [if_neg Bool.false_ne_true]
      have e1 : heldBy (without L c.lease.key) c.lease = (without L c.lease.key).any (owns c.lease) := rfl
      have e2 : metBy (without L c.lease.key) c.lease = (without L c.lease.key).any (fun y => meetsB c.lease.key y.key) := rfl
      rw [e1, e2]
      cases (without L c.lease.key).any (owns c.lease) with
      | true => exact .inl ⟨rfl, rfl⟩
      | false =>
        refine .inr ⟨rfl, ?_⟩
        rw [if_neg Bool.false_ne_true]
        cases (without L c.lease.key).any (fun y => meetsB c.lease.key y.key) with
        | true => exact .inl ⟨rfl, rfl⟩
        | false =>
          refine .inr ⟨rfl, ?_⟩
          rw [if_neg Bool.false_ne_true]
          by_cases h : 1024 ≤ (without L c.lease.key).length
          · exact .inl ⟨h, if_pos h⟩
          · exact .inr ⟨by omega, if_neg h⟩
set_option maxHeartbeats 6400000 in
set_option maxRecDepth 100000 in
theorem rone_run (w : World) (B : Nat) (v : Value) (R : List Lease) (h : LeasesIs w B v R) (hlen : R.length ≤ 100000000) (c : Change) (hc : c.lease.ok) (hR : ∀ y ∈ R, y.ok) :
    Calls Tryz.prog 22 #[v, c.val] w fun e w' => ∃ v', e = .returned (.tuple #[v', .int .i64 (oneE R c)]) ∧ (oneE R c = 0 → LeasesIs w' w.heap.size v' (changeL R c)) ∧ Quiet w w' := by
  obtain ⟨pa, ca, rfl⟩ := leases_shape h
  have HL := Aside1.mk h
  have hwl : (without R c.lease.key).length ≤ R.length := List.length_filter_le _ _
  have HCH := Aside1.mk (fun W => rchange_run W c hc)
  have HWO := Aside1.mk (fun W (hq : LeasesIs W B (.slice pa R.length ca) R) => rwithout_run W B _ R hq (by omega) c.lease)
  have HWI := Aside1.mk (fun (W : World) (v : Value) (hq : LeasesIs W w.heap.size v (without R c.lease.key)) => rwith_run W w.heap.size v _ hq (by omega) c.lease hc (fun y hy => hR y (mem_without.1 hy).1))
  have HME := Aside1.mk (fun (y : Lease) (hy : y ∈ without R c.lease.key) (W : World) => rmeets_run W c.lease.key y.key hc.1 (hR y (mem_without.1 hy).1).1)
  have hw := oneE_ways R c
  have hch : c.gone = true → changeL R c = without R c.lease.key := fun e => by unfold changeL; rw [if_pos e]
  have hci : c.gone = false → changeL R c = insertK c.lease (without R c.lease.key) := fun e => by unfold changeL; rw [e]; rfl
  clear h hc hR
  obtain ⟨gn, x⟩ := c
  simp only at *
  generalize oneE R ⟨gn, x⟩ = r at hw ⊢
  generalize changeL R ⟨gn, x⟩ = T at hch hci ⊢
  generalize changeB ⟨gn, x⟩ = cb at hw HCH
  generalize insertK x (without R x.key) = TI at HWI hci
  generalize without R x.key = R1 at HWO HWI HME hw hch hci hwl
  have HOW := Aside1.mk (owns_ways x)
  obtain ⟨⟨k, hi, lo, b⟩, s, cl, ia, t⟩ := x
  simp only [Change.val, Lease.val] at *
  have hin : (R.length : Int) ≤ 9223372036854775807 := by omega
  have hin1 : (R1.length : Int) ≤ 9223372036854775807 := by omega
  rcases hw with ⟨rfl, rfl⟩ | ⟨rfl, ⟨rfl, hw⟩ | ⟨rfl, hw⟩⟩
  · clear hch hci
    go_enter Tryz.func22, Tryz.ntmps22
    go_wp2_with (go_at_call 46; refine (HCH.out _).mono ?_; rintro e w1 ⟨rfl, hq1⟩)
    go_ret2
    exact ⟨_, rfl, (fun h => absurd h (by decide)), by (repeat (first | exact Kept.refl _ _ | assumption | apply Kept.drew | apply Kept.drewN | apply Kept.alloc | refine Kept.setCell ?_ (fun hlt => absurd hlt (Nat.lt_irrefl _)) _ | refine Kept.andThen ?_ (by assumption) (fun _ _ h => h)))⟩
  · have HT := Aside1.mk (hch rfl)
    clear hch hci
    have hw' : ((((R1.length : Int) == (R.length : Int)) = true ∧ r = 62) ∨ (((R1.length : Int) == (R.length : Int)) = false ∧ r = 0)) := by
      rcases hw with ⟨h, hr⟩ | ⟨h, hr⟩
      · exact .inl ⟨by rw [h]; simp, hr⟩
      · exact .inr ⟨by simp; omega, hr⟩
    clear hw
    rcases hw' with ⟨hl, rfl⟩ | ⟨hl, rfl⟩
    all_goals
      go_enter Tryz.func22, Tryz.ntmps22
      go_wp2_with (first
        | (go_at_call 46; refine (HCH.out _).mono ?_; rintro e w1 ⟨rfl, hq1⟩; obtain ⟨b0, b1, b2, b3, b4, b5, b6, b7⟩ := at8 (blk (new1 w _ _) hq1))
        | (go_at_call 47; refine (HWO.out _ (HL.out.old ((((Kept.refl _ w).alloc _).alloc _).andThen hq1 (fun _ _ h => h)) (fun _ _ h => h))).mono ?_; rintro e w2 ⟨v2, rfl, hL2, hq2⟩; obtain ⟨p2, c2, hv2⟩ := leases_shape hL2; subst hv2; obtain ⟨c0, _⟩ := at9 (blk (old1 w _ _) (hq1.andThen hq2 (fun _ _ h => h)))))
      go_ret2
    · exact ⟨_, rfl, (fun h => absurd h (by decide)), by (repeat (first | exact Kept.refl _ _ | assumption | apply Kept.drew | apply Kept.drewN | apply Kept.alloc | refine Kept.setCell ?_ (fun hlt => absurd hlt (Nat.lt_irrefl _)) _ | refine Kept.andThen ?_ (by assumption) (fun _ _ h => h)))⟩
    · have hs1 := hq1.size
      simp only [World.size_alloc] at hs1
      exact ⟨_, rfl, (fun _ => by rw [HT.out]; exact hL2.mono (by omega)), by (repeat (first | exact Kept.refl _ _ | assumption | apply Kept.drew | apply Kept.drewN | apply Kept.alloc | refine Kept.setCell ?_ (fun hlt => absurd hlt (Nat.lt_irrefl _)) _ | refine Kept.andThen ?_ (by assumption) (fun _ _ h => h)))⟩
  · have HT := Aside1.mk (hci rfl)
    have hin2 : R1.length ≤ 100000000 := by omega
    clear hch hci
    have HWAY := Aside1.mk hw
    clear hw
    go_enter Tryz.func22, Tryz.ntmps22
    go_wp2_with (first
      | (go_at_call 46; refine (HCH.out _).mono ?_; rintro e w1 ⟨rfl, hq1⟩; obtain ⟨b0, b1, b2, b3, b4, b5, b6, b7⟩ := at8 (blk (new1 w _ _) hq1))
      | (go_at_call 47; refine (HWO.out _ (HL.out.old ((((Kept.refl _ w).alloc _).alloc _).andThen hq1 (fun _ _ h => h)) (fun _ _ h => h))).mono ?_; rintro e w2 ⟨v2, rfl, hL2, hq2⟩; obtain ⟨p2, c2, hv2⟩ := leases_shape hL2; subst hv2; obtain ⟨c0, _⟩ := at9 (blk (old1 w _ _) (hq1.andThen hq2 (fun _ _ h => h)))))
    have hs1 := hq1.size
    simp only [World.size_alloc] at hs1
    have HL2 := Aside1.mk (hL2.mono (show w.heap.size ≤ w1.heap.size by omega))
    have HX2 := Aside1.mk (blk (new1 w _ _) (hq1.andThen hq2 (fun _ _ h => h)))
    have HQ2 := Aside1.mk ((((Kept.refl _ w).alloc _).alloc _).andThen (hq1.andThen hq2 (fun _ _ h => h)) (fun _ _ h => h))
    have hz2 := HQ2.out.size
    clear hL2 hq1 hq2 b0 b1 b2 b3 b4 b5 b6 b7 c0 hs1 HCH HWO
    go_loopw [8] (fun v8 wr => ∃ j : Nat, v8 = .int .i64 j ∧ j ≤ R1.length ∧ Aside1 ((R1.take j).any (owns ⟨⟨k, hi, lo, b⟩, s, cl, ia, t⟩) = false) ∧ Aside1 (Quiet w2 wr)) (fun v8 _ => R1.length - (RowKit.intOf v8).toNat)
    case atStart => exact ⟨0, rfl, Nat.zero_le _, ⟨rfl⟩, ⟨Kept.refl _ _⟩⟩
    case round =>
      obtain ⟨j, rfl, hj, HP, HQ⟩ := hrel
      by_cases hlt : j < R1.length
      · have hij : (j : Int) < (R1.length : Int) := by omega
        obtain ⟨g, cap, hv, hn, hm, hcell⟩ := leases_cell (HL2.out.old HQ.out (fun _ _ h => h)) j hlt
        simp only [Value.slice.injEq] at hv
        obtain ⟨rfl, _, rfl⟩ := hv
        have HN := Aside1.mk (any_next (p := owns ⟨⟨k, hi, lo, b⟩, s, cl, ia, t⟩) hlt)
        have HA := Aside1.mk (fun hp => any_at (p := owns ⟨⟨k, hi, lo, b⟩, s, cl, ia, t⟩) hlt hp)
        rw [HP.out, Bool.false_or] at HN
        obtain ⟨y, HY⟩ : ∃ y, Aside1 (R1[j] = y) := ⟨_, ⟨rfl⟩⟩
        rw [HY.out] at hcell HN HA
        have hway := HOW.out y
        obtain ⟨a0, a1, a2, a3, a4, a5, a6, a7⟩ := lease_at (fun j hj => (hcell j hj).1)
        obtain ⟨x0, x1, x2, x3, x4, x5, x6, x7⟩ := at8 (blk HX2.out HQ.out)
        have hxl := (Array.getElem?_eq_some_iff.1 (blk HX2.out HQ.out)).1
        generalize owns _ y = p at hway HN HA
        obtain ⟨⟨yk, yh, yl, yb⟩, ys, yc, yi, yt⟩ := y
        clear hcell
        simp only at *
        rcases hway with ⟨h1, rfl⟩ | ⟨rfl, ⟨h2, rfl⟩ | ⟨rfl, ⟨h3, rfl⟩ | ⟨rfl, ⟨h4, rfl⟩ | ⟨rfl, ⟨h5, rfl⟩ | ⟨rfl, rfl⟩⟩⟩⟩⟩
        all_goals
          (try (have h4' : (cl.toList == yc.toList) = false := by rw [bytes_eq]; exact decide_eq_false h4))
          (try (have h4'' : ¬ cl.toList = yc.toList := by rw [bytes_same]; exact h4))
          go_wp2_with fail
        all_goals (first | exact ⟨⟨j + 1, by rw [Int.natCast_add]; rfl, hlt, HN, ⟨HQ.out.alloc _⟩⟩, by simp [RowKit.intOf]; omega⟩ | skip)
        go_ret2
        have hany := HA.out trivial
        have hr : r = 90 := by
          rcases HWAY.out with ⟨_, hr⟩ | ⟨hf, _⟩
          · exact hr
          · rw [hany] at hf; cases hf
        subst hr
        exact ⟨_, rfl, (fun h => absurd h (by decide)), HQ2.out.andThen (HQ.out.alloc _) (fun _ _ h => h)⟩
      · have hje : ¬ (j : Int) < (R1.length : Int) := by omega
        have hno : R1.any (owns ⟨⟨k, hi, lo, b⟩, s, cl, ia, t⟩) = false := by have := HP.out; rwa [List.take_of_length_le (by omega)] at this
        have hway : (R1.any (fun y => meetsB ⟨k, hi, lo, b⟩ y.key) = true ∧ r = 91) ∨ (R1.any (fun y => meetsB ⟨k, hi, lo, b⟩ y.key) = false ∧ ((1024 ≤ R1.length ∧ r = 63) ∨ (R1.length < 1024 ∧ r = 0))) := by
          rcases HWAY.out with ⟨h, _⟩ | ⟨_, h⟩
          · rw [hno] at h; cases h
          · exact h
        have HW2 := Aside1.mk hway
        have HQW := Aside1.mk (HQ2.out.andThen HQ.out (fun _ _ h => h))
        have HL3 := Aside1.mk (HL2.out.old HQ.out (fun _ _ h => h))
        have HX3 := Aside1.mk (blk HX2.out HQ.out)
        obtain ⟨wo, hwo⟩ : ∃ wo : World, wo = wr := ⟨_, rfl⟩
        subst hwo
        clear hway hno HWAY HOW HP HQ HL2 HX2 HQ2 hz2
        go_wp2_with fail
        go_loopw [10] (fun v10 wr => ∃ i : Nat, v10 = .int .i64 i ∧ i ≤ R1.length ∧ Aside1 ((R1.take i).any (fun y => meetsB ⟨k, hi, lo, b⟩ y.key) = false) ∧ Aside1 (Quiet wo wr)) (fun v10 _ => R1.length - (RowKit.intOf v10).toNat)
        case atStart => exact ⟨0, rfl, Nat.zero_le _, ⟨rfl⟩, ⟨Kept.refl _ _⟩⟩
        case round =>
          obtain ⟨i, rfl, hi', HP, HQ⟩ := hrel
          by_cases hlt : i < R1.length
          · have hij : (i : Int) < (R1.length : Int) := by omega
            obtain ⟨g, cap, hv, hn, hm, hcell⟩ := leases_cell (HL3.out.old HQ.out (fun _ _ h => h)) i hlt
            simp only [Value.slice.injEq] at hv
            obtain ⟨rfl, _, rfl⟩ := hv
            have HN := Aside1.mk (any_next (p := fun y => meetsB ⟨k, hi, lo, b⟩ y.key) hlt)
            have HA := Aside1.mk (fun hp => any_at (p := fun y => meetsB ⟨k, hi, lo, b⟩ y.key) hlt hp)
            have HM := Aside1.mk (HME.out _ (List.getElem_mem hlt))
            rw [HP.out, Bool.false_or] at HN
            obtain ⟨y, HY⟩ : ∃ y, Aside1 (R1[i] = y) := ⟨_, ⟨rfl⟩⟩
            rw [HY.out] at hcell HN HA HM
            obtain ⟨a0, a1, a2, a3, a4, a5, a6, a7⟩ := lease_at (fun j hj => (hcell j hj).1)
            obtain ⟨x0, x1, x2, x3, x4, x5, x6, x7⟩ := at8 (blk HX3.out HQ.out)
            have A0 := fun q : QW wr => q.cell a0
            have A1 := fun q : QW wr => q.cell a1
            have A2 := fun q : QW wr => q.cell a2
            have A3 := fun q : QW wr => q.cell a3
            have X0 := fun q : QW wr => q.cell x0
            have X1 := fun q : QW wr => q.cell x1
            have X2 := fun q : QW wr => q.cell x2
            have X3 := fun q : QW wr => q.cell x3
            clear a0 a1 a2 a3 a4 a5 a6 a7 x0 x1 x2 x3 x4 x5 x6 x7 hcell
            obtain ⟨⟨yk, yh, yl, yb⟩, ys, yc, yi, yt⟩ := y
            simp only at *
            generalize meetsB _ _ = p at HM HN HA
            cases p with
            | true =>
              go_wp2_with fail
              refine wp_region_qw (by kernel_rfl) (by kernel_rfl) ?_
              repeat (go_big_quiet_step ((go_at_call 48; (with_reducible exact Calls.qw_of (HM.out _)))))
              refine wpQuiet_nil ?_
              rintro _ ⟨q, rfl⟩
              go_wp2_with fail
              go_ret2
              have hany := HA.out trivial
              have hr : r = 91 := by
                rcases HW2.out with ⟨_, hr⟩ | ⟨hf, _⟩
                · exact hr
                · rw [hany] at hf; cases hf
              subst hr
              exact ⟨_, rfl, (fun h => absurd h (by decide)), HQW.out.andThen (HQ.out.andThen q.quiet (fun _ _ h => h)) (fun _ _ h => h)⟩
            | false =>
              go_wp2_with fail
              refine wp_region_qw (by kernel_rfl) (by kernel_rfl) ?_
              repeat (go_big_quiet_step ((go_at_call 48; (with_reducible exact Calls.qw_of (HM.out _)))))
              refine wpQuiet_nil ?_
              rintro _ ⟨q, rfl⟩
              go_wp2_with fail
              exact ⟨⟨i + 1, by rw [Int.natCast_add]; rfl, hlt, HN, ⟨HQ.out.andThen q.quiet (fun _ _ h => h)⟩⟩, by simp [RowKit.intOf]; omega⟩
          · have hie : ¬ (i : Int) < (R1.length : Int) := by omega
            have hno : R1.any (fun y => meetsB ⟨k, hi, lo, b⟩ y.key) = false := by have := HP.out; rwa [List.take_of_length_le (by omega)] at this
            have hway : (1024 ≤ R1.length ∧ r = 63) ∨ (R1.length < 1024 ∧ r = 0) := by
              rcases HW2.out with ⟨h, _⟩ | ⟨_, h⟩
              · rw [hno] at h; cases h
              · exact h
            obtain ⟨x0, x1, x2, x3, x4, x5, x6, x7⟩ := at8 (blk HX3.out HQ.out)
            have HWI' := Aside1.mk (HWI.out wr _ (HL3.out.old HQ.out (fun _ _ h => h)))
            clear hno HP
            rcases hway with ⟨h1, rfl⟩ | ⟨h1, rfl⟩
            · have h1' : (1024 : Int) ≤ (R1.length : Int) := by omega
              go_wp2_with fail
              go_ret2
              exact ⟨⟨_, rfl⟩, HQW.out.andThen HQ.out (fun _ _ h => h)⟩
            · have h1' : ¬ (1024 : Int) ≤ (R1.length : Int) := by omega
              go_wp2_with (go_at_call 49; refine HWI'.out.mono ?_; rintro e w4 ⟨v4, rfl, hL4, hq4⟩)
              go_ret2
              have hs := (HQW.out.andThen HQ.out (fun _ _ h => h)).size
              exact ⟨_, rfl, (by rw [HT.out]; exact hL4.mono hs), (HQW.out.andThen HQ.out (fun _ _ h => h)).andThen hq4 (fun _ _ h => h)⟩
end Go.Proofs.YtmegbllhidkmoaaGreat.Tb

/- The reference's table in memory: New, Size, Next, Find, Of, Client, Meets. -/
namespace Go.Proofs.YtmegbllhidkmoaaGreat.Tb
open Go.RowKit Go.Maps Go.Shelf
set_option linter.unusedVariables false
attribute [local go_sem] fldA_0 fldA_1 fldP_0 fldP_1
attribute [local go_sem high] eqA27
theorem set8 {U : Nat → Prop} {a w : World} {b : Nat} {x0 x1 x2 x3 x4 x5 x6 x7 : Value} (h : Kept U a w) (hb : a.heap.size ≤ b) : Kept U a ((((((((w.setCell ⟨b, 0, none⟩ x0).setCell ⟨b, 1, none⟩ x1).setCell ⟨b, 2, none⟩ x2).setCell ⟨b, 3, none⟩ x3).setCell ⟨b, 4, none⟩ x4).setCell ⟨b, 5, none⟩ x5).setCell ⟨b, 6, none⟩ x6).setCell ⟨b, 7, none⟩ x7) :=
  ((((set4 h hb).setCell (p := ⟨b, 4, none⟩) (fun hk => absurd hk (Nat.not_lt.2 hb)) _).setCell (p := ⟨b, 5, none⟩) (fun hk => absurd hk (Nat.not_lt.2 hb)) _).setCell (p := ⟨b, 6, none⟩) (fun hk => absurd hk (Nat.not_lt.2 hb)) _).setCell (p := ⟨b, 7, none⟩) (fun hk => absurd hk (Nat.not_lt.2 hb)) _
/-- The reference's table in block bu holds the leases L, in their order. -/
structure RTab (w : World) (bu B : Nat) (v : Value) (L : List Lease) : Prop where
  blk : w.heap[bu]? = some (.cells #[v] 62 (0, 0))
  row : LeasesIs w B v L
  ne : v.ownBlock ≠ some bu
  oks : ∀ l ∈ L, l.ok
  sorted : Sorted L
  len : L.length ≤ 1024
theorem RTab.kept {S : Nat → Prop} {w w' : World} {bu B : Nat} {v : Value} {L : List Lease} (h : RTab w bu B v L) (hk : Kept S w w') (h0 : ¬ S bu) (h1 : ∀ k, v.ownBlock = some k → ¬ S k) : RTab w' bu B v L :=
  ⟨(hk.block bu (Array.getElem?_eq_some_iff.1 h.blk).1 h0).trans h.blk, h.row.old hk h1, h.ne, h.oks, h.sorted, h.len⟩
theorem RTab.quiet {w w' : World} {bu B : Nat} {v : Value} {L : List Lease} (h : RTab w bu B v L) (hq : Quiet w w') : RTab w' bu B v L := h.kept hq (fun h => h) (fun _ _ h => h)
theorem RTab.cell {w : World} {bu B : Nat} {v : Value} {L : List Lease} (h : RTab w bu B v L) : w.cell? ⟨bu, 0, none⟩ = some v := (cell_of h.blk 0).1
set_option maxRecDepth 100000 in
theorem rnew_run (w : World) : Calls Tryz.prog 6 #[] w fun e w' => e = .returned (.pointer (some ⟨w.heap.size, 0, none⟩)) ∧ RTab w' w.heap.size w.heap.size (.slice none 0 0) [] ∧ Quiet w w' := by
  go_enter Tryz.func6, Tryz.ntmps6
  go_wp2_with fail
  go_ret
  exact ⟨rfl, ⟨heap_alloc_new w _, ⟨rfl, .inl ⟨rfl, rfl⟩⟩, (fun e => by cases e), (fun l hl => by cases hl), List.Pairwise.nil, Nat.zero_le _⟩, (Kept.refl _ w).alloc _⟩
set_option maxRecDepth 100000 in
theorem rsize_run (w : World) (bu B : Nat) (v : Value) (L : List Lease) (h : RTab w bu B v L) : Calls Tryz.prog 26 #[.pointer (some ⟨bu, 0, none⟩)] w fun e w' => e = .returned (.int .i64 (L.length : Int)) ∧ Quiet w w' := by
  have hc := h.cell
  obtain ⟨p, c, rfl⟩ := leases_shape h.row
  clear h
  go_enter Tryz.func26, Tryz.ntmps26
  go_wp2_with fail
  go_ret
  exact ⟨rfl, Kept.refl _ _⟩
set_option maxHeartbeats 800000 in
set_option maxRecDepth 100000 in
theorem rnext_run (w : World) (bu B : Nat) (v : Value) (L : List Lease) (h : RTab w bu B v L) : Calls Tryz.prog 25 #[.pointer (some ⟨bu, 0, none⟩)] w fun e w' => e = .returned (.tuple #[.int .i64 (leastL L), .bool (decide (0 < L.length))]) ∧ Quiet w w' := by
  have hlen : (L.length : Int) ≤ 1024 := by have := h.len; omega
  have hc := h.cell
  obtain ⟨p, c, rfl⟩ := leases_shape h.row
  have HT := Aside1.mk h
  clear h
  go_enter Tryz.func25, Tryz.ntmps25
  go_wp2_with fail
  go_loopw [4, 5, 6] (fun v4 v5 v6 wr => ∃ (j : Nat) (m : Int) (b : Bool), v6 = .int .i64 j ∧ j ≤ L.length ∧ v4 = .int .i64 m ∧ v5 = .bool b ∧ Aside1 (m = leastL (L.take j) ∧ b = decide (0 < j)) ∧ wr = w) (fun _ _ v6 _ => L.length - (RowKit.intOf v6).toNat)
  case atStart => exact ⟨0, 0, false, rfl, Nat.zero_le _, rfl, rfl, ⟨rfl, rfl⟩, rfl⟩
  case round =>
    obtain ⟨j, m, b, rfl, hj, rfl, rfl, HM, rfl⟩ := hrel
    by_cases hlt : j < L.length
    · have hij : (j : Int) < (L.length : Int) := by omega
      obtain ⟨g, cap, hv, hn, hm, hcell⟩ := leases_cell HT.out.row j hlt
      simp only [Value.slice.injEq] at hv
      obtain ⟨rfl, _, rfl⟩ := hv
      have HN := Aside1.mk (least_next hlt)
      obtain ⟨y, HY⟩ : ∃ y, Aside1 (L[j] = y) := ⟨_, ⟨rfl⟩⟩
      rw [HY.out] at hcell HN
      obtain ⟨_, _, _, _, _, _, _, a7⟩ := lease_at (fun j hj => (hcell j hj).1)
      clear hcell
      have hcase : (b = false ∧ leastL (L.take (j + 1)) = y.till) ∨ (b = true ∧ y.till < m ∧ leastL (L.take (j + 1)) = y.till) ∨ (b = true ∧ m ≤ y.till ∧ leastL (L.take (j + 1)) = m) := by
        obtain ⟨h1, h2⟩ := HM.out
        cases b with
        | false => exact .inl ⟨rfl, by rw [HN.out, if_pos (.inl (by simpa using h2.symm))]⟩
        | true =>
          have h3 : ¬ j = 0 := by simp at h2; omega
          by_cases h4 : y.till < m
          · exact .inr (.inl ⟨rfl, h4, by rw [HN.out, if_pos (.inr (by rw [← h1]; exact h4))]⟩)
          · exact .inr (.inr ⟨rfl, by omega, by rw [HN.out, if_neg (by rw [← h1]; omega), h1]⟩)
      have HJ : Aside1 (true = decide (0 < j + 1)) := ⟨by simp⟩
      rcases hcase with ⟨rfl, h1⟩ | ⟨rfl, h1, h2⟩ | ⟨rfl, h1, h2⟩
      · have H1 := Aside1.mk h1
        clear h1
        go_wp2_with fail
        exact ⟨⟨j + 1, y.till, true, by rw [Int.natCast_add]; rfl, hlt, rfl, rfl, ⟨H1.out.symm, HJ.out⟩, trivial⟩, by simp [RowKit.intOf]; omega⟩
      · have H1 := Aside1.mk h2
        clear h2
        go_wp2_with fail
        exact ⟨⟨j + 1, y.till, true, by rw [Int.natCast_add]; rfl, hlt, rfl, rfl, ⟨H1.out.symm, HJ.out⟩, trivial⟩, by simp [RowKit.intOf]; omega⟩
      · have H1 := Aside1.mk h2
        have hno : ¬ y.till < m := by omega
        clear h2
        go_wp2_with fail
        exact ⟨⟨j + 1, m, true, by rw [Int.natCast_add]; rfl, hlt, rfl, rfl, ⟨H1.out.symm, HJ.out⟩, trivial⟩, by simp [RowKit.intOf]; omega⟩
    · have hje : ¬ (j : Int) < (L.length : Int) := by omega
      obtain rfl : j = L.length := by omega
      have hm := HM.out
      rw [List.take_length] at hm
      have HM2 := Aside1.mk hm
      clear hm HM
      go_wp2_with fail
      go_ret2
      exact ⟨by rw [← HM2.out.1, ← HM2.out.2]; rfl, Kept.refl _ _⟩
theorem findL_no {L : List Lease} {k : Key} (h : ∀ l ∈ L, l.key ≠ k) : findL L k = none := by
  cases hf : findL L k with
  | none => rfl
  | some x => exact absurd (findL_some hf).2 (h x (findL_some hf).1)
theorem all_next {R : List Lease} {p : Lease → Prop} {j : Nat} (h : j < R.length) (h1 : ∀ l ∈ R.take j, p l) (h2 : p (R[j]'h)) : ∀ l ∈ R.take (j + 1), p l := by
  rw [List.take_succ_eq_append_getElem h]
  intro l hl
  rcases List.mem_append.1 hl with hl | hl
  · exact h1 l hl
  · obtain rfl : l = R[j]'h := by simpa using hl
    exact h2
set_option maxHeartbeats 1600000 in
set_option maxRecDepth 100000 in
theorem rfind_run (w : World) (bu B : Nat) (v : Value) (L : List Lease) (h : RTab w bu B v L) (k : Key) :
    Calls Tryz.prog 23 #[.pointer (some ⟨bu, 0, none⟩), .int .i64 k.kind, .agg #[.int .u64 k.hi, .int .u64 k.lo, .int .i64 k.bits]] w fun e w' => e = .returned (.tuple #[((findL L k).getD zeroLease).val, .bool (findL L k).isSome]) ∧ Quiet w w' := by
  have hlen : (L.length : Int) ≤ 1024 := by have := h.len; omega
  obtain ⟨p, c, rfl⟩ := leases_shape h.row
  have HT := Aside1.mk h
  have hfi : ∀ x ∈ L, x.key = k → findL L k = some x := fun x hx e => by rw [← e]; exact findL_mem h.sorted hx
  have hno : (∀ l ∈ L, l.key ≠ k) → findL L k = none := findL_no
  have HFI := Aside1.mk hfi
  have HNO := Aside1.mk hno
  have hke : ∀ y : Key, decide (y = k) = (decide (y.kind = k.kind) && ((y.hi == k.hi && y.lo == k.lo) && y.bits == k.bits)) := fun y => by
    rw [Bool.eq_iff_iff]
    simp only [decide_eq_true_eq, Bool.and_eq_true, beq_iff_eq]
    exact ⟨fun e => by rw [e]; exact ⟨rfl, ⟨rfl, rfl⟩, rfl⟩, fun ⟨e1, ⟨e2, e3⟩, e4⟩ => Key.eq_of e1 e2 e3 e4⟩
  have HKE := Aside1.mk hke
  clear h hfi hno hke
  generalize findL L k = F at HFI HNO ⊢
  obtain ⟨kk, kh, kl, kb⟩ := k
  simp only at *
  go_enter Tryz.func23, Tryz.ntmps23
  go_wp2_with fail
  go_loopw [8] (fun v8 wr => ∃ j : Nat, v8 = .int .i64 j ∧ j ≤ L.length ∧ Aside1 (∀ l ∈ L.take j, l.key ≠ ⟨kk, kh, kl, kb⟩) ∧ Aside1 (wr.heap[w.heap.size]? = some (.cells #[.int .u64 kh, .int .u64 kl, .int .i64 kb] 27 (0, 0))) ∧ Aside1 (wr.heap[w.heap.size + 1]? = some (.cells #[.int .i64 0, .int .u64 0, .int .u64 0, .int .i64 0, .int .i64 0, .string ⟨#[]⟩, .int .u32 0, .int .i64 0] 30 (0, 0))) ∧ Aside1 (Quiet w wr)) (fun v8 _ => L.length - (RowKit.intOf v8).toNat)
  case atStart => exact ⟨0, rfl, Nat.zero_le _, ⟨fun l hl => by cases hl⟩, ⟨old1 w _ _⟩, ⟨new1 w _ _⟩, ⟨by (repeat (first | exact Kept.refl _ _ | assumption | apply Kept.drew | apply Kept.drewN | apply Kept.alloc | refine Kept.setCell ?_ (fun hlt => absurd hlt (Nat.lt_irrefl _)) _ | refine Kept.andThen ?_ (by assumption) (fun _ _ h => h)))⟩⟩
  case round =>
    obtain ⟨j, rfl, hj, HP, HA, HB, HQ⟩ := hrel
    have hc := (HT.out.quiet HQ.out).cell
    by_cases hlt : j < L.length
    · have hij : (j : Int) < (L.length : Int) := by omega
      obtain ⟨g, cap, hv, hn, hm, hcell⟩ := leases_cell (HT.out.quiet HQ.out).row j hlt
      simp only [Value.slice.injEq] at hv
      obtain ⟨rfl, _, rfl⟩ := hv
      have HN := Aside1.mk (fun hp => all_next (p := fun l => l.key ≠ ⟨kk, kh, kl, kb⟩) hlt HP.out hp)
      have HF := Aside1.mk (HFI.out _ (List.getElem_mem hlt))
      obtain ⟨y, HY⟩ : ∃ y, Aside1 (L[j] = y) := ⟨_, ⟨rfl⟩⟩
      rw [HY.out] at hcell HN HF
      obtain ⟨a0, a1, a2, a3, a4, a5, a6, a7⟩ := lease_at (fun j hj => (hcell j hj).1)
      obtain ⟨x0, x1, x2, _⟩ := at3 HA.out
      have hway : (∃ p, (y.key.kind == kk) = true ∧ y.key.kind = kk ∧ decide (y.key = ⟨kk, kh, kl, kb⟩) = p ∧ ((y.key.hi == kh && y.key.lo == kl) && y.key.bits == kb) = p) ∨ ((y.key.kind == kk) = false ∧ y.key ≠ ⟨kk, kh, kl, kb⟩) := by
        by_cases hk : y.key.kind = kk
        · exact .inl ⟨_, by simpa using hk, hk, rfl, by rw [HKE.out, decide_eq_true hk]; rfl⟩
        · exact .inr ⟨by simpa using hk, fun e => hk (by rw [e])⟩
      obtain ⟨⟨yk, yh, yl, yb⟩, ys, yc, yi, yt⟩ := y
      simp only at *
      have C0 := fun q : QW wr => q.cell hc
      have A0 := fun q : QW wr => q.cell a0
      have A1 := fun q : QW wr => q.cell a1
      have A2 := fun q : QW wr => q.cell a2
      have A3 := fun q : QW wr => q.cell a3
      have A4 := fun q : QW wr => q.cell a4
      have A5 := fun q : QW wr => q.cell a5
      have A6 := fun q : QW wr => q.cell a6
      have A7 := fun q : QW wr => q.cell a7
      have X0 := fun q : QW wr => q.cell x0
      have X1 := fun q : QW wr => q.cell x1
      have X2 := fun q : QW wr => q.cell x2
      clear a0 a1 a2 a3 a4 a5 a6 a7 x0 x1 x2 hcell
      rcases hway with ⟨pp, hk, rfl, hd, hp⟩ | ⟨hk, hne⟩
      · cases pp with
        | true =>
          have HF2 := Aside1.mk (HF.out (of_decide_eq_true hd))
          clear hd HF HN HFI HNO
          go_wp2_with fail
          refine wp_region_qw (by kernel_rfl) (by kernel_rfl) ?_
          repeat (go_big_quiet_step ((fail)))
          refine wpQuiet_nil ?_
          rintro _ ⟨q, rfl⟩
          have hB := blk HB.out q.quiet
          have hBf := fun i => (cell_of hB i).2
          have hBc := at8 hB
          obtain ⟨b0, b1, b2, b3, b4, b5, b6, b7⟩ := hBc
          have f0 := hBf 0
          have f1 := hBf 1
          have f2 := hBf 2
          have f3 := hBf 3
          have f4 := hBf 4
          have f5 := hBf 5
          have f6 := hBf 6
          have f7 := hBf 7
          clear hBf
          go_wp2_with fail
          have h9 := set_eight (x0 := .int .i64 yk) (x1 := .int .u64 yh) (x2 := .int .u64 yl) (x3 := .int .i64 yb) (x4 := .int .i64 ys) (x5 := .string yc) (x6 := .int .u32 yi) (x7 := .int .i64 yt) hB
          obtain ⟨e0, e1, e2, e3, e4, e5, e6, e7⟩ := at8 h9
          refine bodyPost_ret (v := .tuple #[.agg #[.int .i64 yk, .int .u64 yh, .int .u64 yl, .int .i64 yb, .int .i64 ys, .string yc, .int .u32 yi, .int .i64 yt], .bool true]) (by simp [results, Tryz.results23, go_sem, e0, e1, e2, e3, e4, e5, e6, e7]) rfl ⟨by rw [HF2.out]; rfl, ?_⟩
          exact set8 (HQ.out.andThen q.quiet (fun _ _ h => h)) (by simp)
        | false =>
          have HN2 := Aside1.mk (HN.out (of_decide_eq_false hd))
          clear hd HF HN HFI HNO
          go_wp2_with fail
          refine wp_region_qw (by kernel_rfl) (by kernel_rfl) ?_
          repeat (go_big_quiet_step ((fail)))
          refine wpQuiet_nil ?_
          rintro _ ⟨q, rfl⟩
          go_wp2_with fail
          exact ⟨⟨j + 1, by rw [Int.natCast_add]; rfl, hlt, HN2, ⟨blk HA.out q.quiet⟩, ⟨blk HB.out q.quiet⟩, ⟨HQ.out.andThen q.quiet (fun _ _ h => h)⟩⟩, by simp [RowKit.intOf]; omega⟩
      · have HN2 := Aside1.mk (HN.out hne)
        clear hne HF HN HFI HNO
        go_wp2_with fail
        refine wp_region_qw (by kernel_rfl) (by kernel_rfl) ?_
        repeat (go_big_quiet_step ((fail)))
        refine wpQuiet_nil ?_
        rintro _ ⟨q, rfl⟩
        go_wp2_with fail
        exact ⟨⟨j + 1, by rw [Int.natCast_add]; rfl, hlt, HN2, ⟨blk HA.out q.quiet⟩, ⟨blk HB.out q.quiet⟩, ⟨HQ.out.andThen q.quiet (fun _ _ h => h)⟩⟩, by simp [RowKit.intOf]; omega⟩
    · have hje : ¬ (j : Int) < (L.length : Int) := by omega
      have HF : Aside1 (F = none) := ⟨HNO.out (by have := HP.out; rwa [List.take_of_length_le (by omega)] at this)⟩
      obtain ⟨b0, b1, b2, b3, b4, b5, b6, b7⟩ := at8 HB.out
      have hBf := fun i => (cell_of HB.out i).2
      have f0 := hBf 0
      have f1 := hBf 1
      have f2 := hBf 2
      have f3 := hBf 3
      have f4 := hBf 4
      have f5 := hBf 5
      have f6 := hBf 6
      have f7 := hBf 7
      clear hBf HNO HFI HP
      go_wp2_with fail
      have h9 := set_eight (x0 := .int .i64 0) (x1 := .int .u64 0) (x2 := .int .u64 0) (x3 := .int .i64 0) (x4 := .int .i64 0) (x5 := .string ⟨#[]⟩) (x6 := .int .u32 0) (x7 := .int .i64 0) HB.out
      obtain ⟨e0, e1, e2, e3, e4, e5, e6, e7⟩ := at8 h9
      refine bodyPost_ret (v := .tuple #[.agg #[.int .i64 0, .int .u64 0, .int .u64 0, .int .i64 0, .int .i64 0, .string ⟨#[]⟩, .int .u32 0, .int .i64 0], .bool false]) (by simp [results, Tryz.results23, go_sem, e0, e1, e2, e3, e4, e5, e6, e7]) rfl ⟨by rw [HF.out]; rfl, ?_⟩
      exact set8 HQ.out (by simp)
end Go.Proofs.YtmegbllhidkmoaaGreat.Tb

/- The reference's table in memory: Of, Client, Meets. -/
namespace Go.Proofs.YtmegbllhidkmoaaGreat.Tb
open Go.RowKit Go.Maps Go.Shelf
set_option linter.unusedVariables false
attribute [local go_sem] fldA_0 fldA_1 fldP_0 fldP_1
theorem find_at {R : List Lease} {p : Lease → Bool} {j : Nat} (h : j < R.length) (h1 : ∀ l ∈ R.take j, p l = false) (h2 : p (R[j]'h) = true) : R.find? p = some (R[j]'h) := by
  have e : R = R.take j ++ (R[j]'h) :: R.drop (j + 1) := by rw [← List.drop_eq_getElem_cons h, List.take_append_drop]
  have n : (R.take j).find? p = none := List.find?_eq_none.2 fun l hl => by rw [h1 l hl]; decide
  conv => lhs; rw [e]
  rw [List.find?_append, n, Option.none_or, List.find?_cons_of_pos h2]
def ofP (o : Owner) (x : Lease) : Bool := x.bound && decide (x.owner = o)
theorem ofP_ways (o : Owner) (y : Lease) : ((y.state == 1) = false ∧ ofP o y = false) ∨ (y.state = 1 ∧ (((y.key.kind == o.kind) = false ∧ ofP o y = false) ∨ (y.key.kind = o.kind ∧ ((¬ y.client = o.client ∧ ofP o y = false) ∨ (y.client = o.client ∧ (((y.iaid == o.iaid) = false ∧ ofP o y = false) ∨ (y.iaid = o.iaid ∧ ofP o y = true))))))) := by
  unfold ofP Lease.bound
  cases h2 : y.state == 1 with
  | false => exact .inl ⟨rfl, rfl⟩
  | true =>
    refine .inr ⟨by simpa using h2, ?_⟩
    by_cases h3 : y.key.kind = o.kind
    · refine .inr ⟨h3, ?_⟩
      by_cases h4 : y.client = o.client
      · refine .inr ⟨h4, ?_⟩
        by_cases h5 : y.iaid = o.iaid
        · exact .inr ⟨h5, by rw [decide_eq_true (show y.owner = o by unfold Lease.owner; rw [h3, h4, h5])]; rfl⟩
        · exact .inl ⟨by simpa using h5, by rw [decide_eq_false (fun e : y.owner = o => h5 (congrArg Owner.iaid e))]; rfl⟩
      · exact .inl ⟨h4, by rw [decide_eq_false (fun e : y.owner = o => h4 (congrArg Owner.client e))]; rfl⟩
    · exact .inl ⟨by simpa using h3, by rw [decide_eq_false (fun e : y.owner = o => h3 (congrArg Owner.kind e))]; rfl⟩
set_option maxHeartbeats 1600000 in
set_option maxRecDepth 100000 in
theorem rof_run (w : World) (bu B : Nat) (v : Value) (L : List Lease) (h : RTab w bu B v L) (o : Owner) :
    Calls Tryz.prog 24 #[.pointer (some ⟨bu, 0, none⟩), .int .i64 o.kind, .string o.client, .int .u32 o.iaid] w fun e w' => e = .returned (.tuple #[((L.find? (ofP o)).getD zeroLease).val, .bool (L.find? (ofP o)).isSome]) ∧ Quiet w w' := by
  have hlen : (L.length : Int) ≤ 1024 := by have := h.len; omega
  obtain ⟨p, c, rfl⟩ := leases_shape h.row
  have HT := Aside1.mk h
  have HFA := Aside1.mk (fun {j : Nat} (hj : j < L.length) => find_at (p := ofP o) hj)
  have HNO := Aside1.mk (fun (h : ∀ l ∈ L, ofP o l = false) => (List.find?_eq_none.2 fun l hl => by rw [h l hl]; decide : L.find? (ofP o) = none))
  have HOW := Aside1.mk (ofP_ways o)
  clear h
  generalize L.find? (ofP o) = F at HFA HNO ⊢
  generalize ofP o = P at HFA HNO HOW
  obtain ⟨ok, oc, oi⟩ := o
  simp only at *
  go_enter Tryz.func24, Tryz.ntmps24
  go_wp2_with fail
  go_loopw [10] (fun v10 wr => ∃ j : Nat, v10 = .int .i64 j ∧ j ≤ L.length ∧ Aside1 (∀ l ∈ L.take j, P l = false) ∧ Aside1 (wr.heap[w.heap.size]? = some (.cells #[.int .i64 0, .int .u64 0, .int .u64 0, .int .i64 0, .int .i64 0, .string ⟨#[]⟩, .int .u32 0, .int .i64 0] 30 (0, 0))) ∧ Aside1 (Quiet w wr)) (fun v10 _ => L.length - (RowKit.intOf v10).toNat)
  case atStart => exact ⟨0, rfl, Nat.zero_le _, ⟨fun l hl => by cases hl⟩, ⟨new0 w _⟩, ⟨by (repeat (first | exact Kept.refl _ _ | assumption | apply Kept.drew | apply Kept.drewN | apply Kept.alloc | refine Kept.setCell ?_ (fun hlt => absurd hlt (Nat.lt_irrefl _)) _ | refine Kept.andThen ?_ (by assumption) (fun _ _ h => h)))⟩⟩
  case round =>
    obtain ⟨j, rfl, hj, HP, HB, HQ⟩ := hrel
    have hc := (HT.out.quiet HQ.out).cell
    have hlB := (Array.getElem?_eq_some_iff.1 HB.out).1
    obtain ⟨b0, b1, b2, b3, b4, b5, b6, b7⟩ := at8 HB.out
    have hBf := fun i => (cell_of HB.out i).2
    have f0 := hBf 0
    have f1 := hBf 1
    have f2 := hBf 2
    have f3 := hBf 3
    have f4 := hBf 4
    have f5 := hBf 5
    have f6 := hBf 6
    have f7 := hBf 7
    clear hBf
    by_cases hlt : j < L.length
    · have hij : (j : Int) < (L.length : Int) := by omega
      obtain ⟨g, cap, hv, hn, hm, hcell⟩ := leases_cell (HT.out.quiet HQ.out).row j hlt
      simp only [Value.slice.injEq] at hv
      obtain ⟨rfl, _, rfl⟩ := hv
      have HN := Aside1.mk (fun hp => all_next (p := fun l => P l = false) hlt HP.out hp)
      have HF := Aside1.mk (HFA.out hlt HP.out)
      obtain ⟨y, HY⟩ : ∃ y, Aside1 (L[j] = y) := ⟨_, ⟨rfl⟩⟩
      rw [HY.out] at hcell HN HF
      obtain ⟨a0, a1, a2, a3, a4, a5, a6, a7⟩ := lease_at (fun j hj => (hcell j hj).1)
      have hway := HOW.out y
      obtain ⟨⟨yk, yh, yl, yb⟩, ys, yc, yi, yt⟩ := y
      generalize P _ = pp at hway HN HF
      simp only at *
      clear hcell HFA HNO HOW
      rcases hway with ⟨h2, rfl⟩ | ⟨rfl, ⟨h3, rfl⟩ | ⟨rfl, ⟨h4, rfl⟩ | ⟨rfl, ⟨h5, rfl⟩ | ⟨rfl, rfl⟩⟩⟩⟩
      all_goals
        (try (have h4' : (yc.toList == oc.toList) = false := by rw [bytes_eq]; exact decide_eq_false h4))
        (try (have h4'' : ¬ yc.toList = oc.toList := by rw [bytes_same]; exact h4))
        go_wp2_with fail
      all_goals (first | exact ⟨⟨j + 1, by rw [Int.natCast_add]; rfl, hlt, ⟨by first | exact HN.out rfl | exact HN.out trivial⟩, ⟨blk HB.out ((Kept.refl _ wr).alloc _)⟩, ⟨HQ.out.alloc _⟩⟩, by simp [RowKit.intOf]; omega⟩ | skip)
      have h9 := set_eight (x0 := .int .i64 yk) (x1 := .int .u64 yh) (x2 := .int .u64 yl) (x3 := .int .i64 yb) (x4 := .int .i64 1) (x5 := .string yc) (x6 := .int .u32 yi) (x7 := .int .i64 yt) HB.out
      obtain ⟨e0, e1, e2, e3, e4, e5, e6, e7⟩ := at8 h9
      have HF2 : F = some ⟨⟨yk, yh, yl, yb⟩, 1, yc, yi, yt⟩ := by first | exact HF.out rfl | exact HF.out trivial
      refine bodyPost_ret (v := .tuple #[.agg #[.int .i64 yk, .int .u64 yh, .int .u64 yl, .int .i64 yb, .int .i64 1, .string yc, .int .u32 yi, .int .i64 yt], .bool true]) (by simp [results, Tryz.results24, go_sem, e0, e1, e2, e3, e4, e5, e6, e7, hlB]) rfl ⟨by rw [HF2]; rfl, ?_⟩
      exact (set8 HQ.out (Nat.le_refl _)).alloc _
    · have hje : ¬ (j : Int) < (L.length : Int) := by omega
      have HF : Aside1 (F = none) := ⟨HNO.out (by have := HP.out; rwa [List.take_of_length_le (by omega)] at this)⟩
      clear HNO HFA HP
      go_wp2_with fail
      have h9 := set_eight (x0 := .int .i64 0) (x1 := .int .u64 0) (x2 := .int .u64 0) (x3 := .int .i64 0) (x4 := .int .i64 0) (x5 := .string ⟨#[]⟩) (x6 := .int .u32 0) (x7 := .int .i64 0) HB.out
      obtain ⟨e0, e1, e2, e3, e4, e5, e6, e7⟩ := at8 h9
      refine bodyPost_ret (v := .tuple #[.agg #[.int .i64 0, .int .u64 0, .int .u64 0, .int .i64 0, .int .i64 0, .string ⟨#[]⟩, .int .u32 0, .int .i64 0], .bool false]) (by simp [results, Tryz.results24, go_sem, e0, e1, e2, e3, e4, e5, e6, e7]) rfl ⟨by rw [HF.out]; rfl, ?_⟩
      exact set8 HQ.out (Nat.le_refl _)
set_option maxHeartbeats 1600000 in
set_option maxRecDepth 100000 in
theorem rclient_run (w : World) (bu B : Nat) (v : Value) (L : List Lease) (h : RTab w bu B v L) (q : ByteArray) :
    Calls Tryz.prog 27 #[.pointer (some ⟨bu, 0, none⟩), .string q] w fun e w' => ∃ v', e = .returned v' ∧ LeasesIs w' w.heap.size v' (L.filter (fun l => l.bound && decide (l.client = q))) ∧ Quiet w w' := by
  have hlen : (L.length : Int) ≤ 1024 := by have := h.len; omega
  obtain ⟨p, c, rfl⟩ := leases_shape h.row
  have HT := Aside1.mk h
  have hP : ∃ P : Lease → Bool, P = fun l => l.bound && decide (l.client = q) := ⟨_, rfl⟩
  obtain ⟨P, hP⟩ := hP
  have HW : Aside1 (∀ y : Lease, ((y.state == 1) = false ∧ P y = false) ∨ (y.state = 1 ∧ ((¬ y.client = q ∧ P y = false) ∨ (y.client = q ∧ P y = true)))) := ⟨fun y => by
    subst hP
    unfold Lease.bound
    cases h2 : y.state == 1 with
    | false => exact .inl ⟨rfl, by show (y.state == 1 && _) = false; rw [h2]; rfl⟩
    | true =>
      refine .inr ⟨by simpa using h2, ?_⟩
      by_cases h4 : y.client = q
      · exact .inr ⟨h4, by show (y.state == 1 && decide (y.client = q)) = true; rw [h2, decide_eq_true h4]; rfl⟩
      · exact .inl ⟨h4, by show (y.state == 1 && decide (y.client = q)) = false; rw [h2, decide_eq_false h4]; rfl⟩⟩
  rw [← hP]
  clear hP
  clear h
  go_enter Tryz.func27, Tryz.ntmps27
  go_wp2_with fail
  go_loopw [5, 6] (fun v5 v6 wr => ∃ j : Nat, v6 = .int .i64 j ∧ j ≤ L.length ∧ Aside1 (LeasesIs wr (w.heap.size + 0) v5 ((L.take j).filter P)) ∧ Aside1 (Quiet w wr)) (fun _ v6 _ => L.length - (RowKit.intOf v6).toNat)
  case atStart =>
    refine ⟨0, rfl, Nat.zero_le _, ⟨?_⟩, ⟨by (repeat (first | exact Kept.refl _ _ | assumption | apply Kept.drew | apply Kept.drewN | apply Kept.alloc | refine Kept.setCell ?_ (fun hlt => absurd hlt (Nat.lt_irrefl _)) _ | refine Kept.andThen ?_ (by assumption) (fun _ _ h => h)))⟩⟩
    exact leases_made [] (Nat.le_refl _) (new0 w _) (Nat.zero_le _)
  case round =>
    obtain ⟨j, rfl, hj, HO, HQ⟩ := hrel
    have hc := (HT.out.quiet HQ.out).cell
    by_cases hlt : j < L.length
    · have hij : (j : Int) < (L.length : Int) := by omega
      obtain ⟨g, cap, hv, hn, hm, hcell⟩ := leases_cell (HT.out.quiet HQ.out).row j hlt
      simp only [Value.slice.injEq] at hv
      obtain ⟨rfl, _, rfl⟩ := hv
      have HN := Aside1.mk (filter_next (p := P) hlt)
      have hlo := List.length_filter_le P (L.take j)
      have htk := List.length_take_le' j L
      have hll : L.length ≤ 1024 := by omega
      generalize (L.take j).filter P = G at HO HN hlo
      obtain ⟨y, HY⟩ : ∃ y, Aside1 (L[j] = y) := ⟨_, ⟨rfl⟩⟩
      rw [HY.out] at hcell HN
      have hway := HW.out y
      generalize P y = pp at hway HN
      obtain ⟨a0, a1, a2, a3, a4, a5, a6, a7⟩ := lease_at (fun j hj => (hcell j hj).1)
      obtain ⟨⟨yk, yh, yl, yb⟩, ys, yc, yi, yt⟩ := y
      simp only at *
      have C0 := fun q : QW wr => q.cell hc
      have A0 := fun q : QW wr => q.cell a0
      have A1 := fun q : QW wr => q.cell a1
      have A2 := fun q : QW wr => q.cell a2
      have A3 := fun q : QW wr => q.cell a3
      have A4 := fun q : QW wr => q.cell a4
      have A5 := fun q : QW wr => q.cell a5
      have A6 := fun q : QW wr => q.cell a6
      have A7 := fun q : QW wr => q.cell a7
      clear hcell
      have hsz := HQ.out.size
      have hne : Aside1 (∀ i, i < w.heap.size + 0 → ¬ u5.ownBlock = some i) := ⟨fun i hi e => by have := (HO.out.lt e).1; omega⟩
      rcases hway with ⟨h2, rfl⟩ | ⟨rfl, ⟨h4, rfl⟩ | ⟨rfl, rfl⟩⟩
      all_goals
        (try (have h4' : (yc.toList == q.toList) = false := by rw [bytes_eq]; exact decide_eq_false h4))
        (try (have h4'' : ¬ yc.toList = q.toList := by rw [bytes_same]; exact h4))
      all_goals
        go_wp2_with (at_builtin; (refine append_lease rfl _ _ rfl _ (w.heap.size + 0) _ G rfl HO.out ⟨⟨yk, yh, yl, yb⟩, 1, yc, yi, yt⟩ rfl (by omega) (by omega) ?_; intro v' w3 hO3 hk3))
      all_goals (first
        | exact ⟨⟨j + 1, by rw [Int.natCast_add]; rfl, hlt, ⟨by rw [HN.out, if_neg (by decide), List.append_nil]; exact HO.out⟩, ⟨HQ.out⟩⟩, by simp [RowKit.intOf]; omega⟩
        | exact ⟨⟨j + 1, by rw [Int.natCast_add]; rfl, hlt, ⟨by rw [HN.out, if_pos (by decide)]; exact hO3⟩, ⟨HQ.out.andThen hk3 (fun i hi e => hne.out i (by omega) e)⟩⟩, by simp [RowKit.intOf]; omega⟩)
    · have hje : ¬ (j : Int) < (L.length : Int) := by omega
      have HALL : Aside1 (L.take j = L) := ⟨List.take_of_length_le (by omega)⟩
      rw [HALL.out] at HO
      go_wp2_with fail
      go_ret
      exact ⟨_, rfl, HO.out.mono (by omega), HQ.out⟩
set_option maxHeartbeats 1600000 in
set_option maxRecDepth 100000 in
theorem rmeet_run (w : World) (bu B : Nat) (v : Value) (L : List Lease) (h : RTab w bu B v L) (k : Key) (hk : k.ok) :
    Calls Tryz.prog 29 #[.pointer (some ⟨bu, 0, none⟩), .int .i64 k.kind, .agg #[.int .u64 k.hi, .int .u64 k.lo, .int .i64 k.bits]] w fun e w' => ∃ v', e = .returned v' ∧ LeasesIs w' w.heap.size v' (L.filter (fun l => meetsB k l.key)) ∧ Quiet w w' := by
  have hlen : (L.length : Int) ≤ 1024 := by have := h.len; omega
  obtain ⟨p, c, rfl⟩ := leases_shape h.row
  have HT := Aside1.mk h
  have hP : ∃ P : Lease → Bool, P = fun l => meetsB k l.key := ⟨_, rfl⟩
  obtain ⟨P, hP⟩ := hP
  have HW : Aside1 (∀ y ∈ L, ∀ W, Calls Tryz.prog 48 #[.int .i64 k.kind, .agg #[.int .u64 k.hi, .int .u64 k.lo, .int .i64 k.bits], .int .i64 y.key.kind, .agg #[.int .u64 y.key.hi, .int .u64 y.key.lo, .int .i64 y.key.bits]] W fun e w' => e = .returned (.bool (P y)) ∧ Quiet W w') := ⟨fun y hy W => by
    subst hP
    exact rmeets_run W k y.key hk (h.oks y hy).1⟩
  rw [← hP]
  clear hP hk
  obtain ⟨kk, kh, kl, kb⟩ := k
  simp only at *
  clear h
  go_enter Tryz.func29, Tryz.ntmps29
  go_wp2_with fail
  go_loopw [7, 8] (fun v7 v8 wr => ∃ j : Nat, v8 = .int .i64 j ∧ j ≤ L.length ∧ Aside1 (LeasesIs wr (w.heap.size + 1) v7 ((L.take j).filter P)) ∧ Aside1 (wr.heap[w.heap.size]? = some (.cells #[.int .u64 kh, .int .u64 kl, .int .i64 kb] 27 (0, 0))) ∧ Aside1 (Quiet w wr)) (fun _ v8 _ => L.length - (RowKit.intOf v8).toNat)
  case atStart =>
    refine ⟨0, rfl, Nat.zero_le _, ⟨?_⟩, ⟨old1 w _ _⟩, ⟨by (repeat (first | exact Kept.refl _ _ | assumption | apply Kept.drew | apply Kept.drewN | apply Kept.alloc | refine Kept.setCell ?_ (fun hlt => absurd hlt (Nat.lt_irrefl _)) _ | refine Kept.andThen ?_ (by assumption) (fun _ _ h => h)))⟩⟩
    exact leases_made [] (Nat.le_refl _) (new1 w _ _) (Nat.zero_le _)
  case round =>
    obtain ⟨j, rfl, hj, HO, HX, HQ⟩ := hrel
    have hc := (HT.out.quiet HQ.out).cell
    by_cases hlt : j < L.length
    · have hij : (j : Int) < (L.length : Int) := by omega
      obtain ⟨g, cap, hv, hn, hm, hcell⟩ := leases_cell (HT.out.quiet HQ.out).row j hlt
      simp only [Value.slice.injEq] at hv
      obtain ⟨rfl, _, rfl⟩ := hv
      have HN := Aside1.mk (filter_next (p := P) hlt)
      have hlo := List.length_filter_le P (L.take j)
      have htk := List.length_take_le' j L
      have hll : L.length ≤ 1024 := by omega
      generalize (L.take j).filter P = G at HO HN hlo
      have HC := Aside1.mk (HW.out _ (List.getElem_mem hlt))
      obtain ⟨x0, x1, x2, _⟩ := at3 HX.out
      have X0 := fun q : QW wr => q.cell x0
      have X1 := fun q : QW wr => q.cell x1
      have X2 := fun q : QW wr => q.cell x2
      clear x0 x1 x2
      obtain ⟨y, HY⟩ : ∃ y, Aside1 (L[j] = y) := ⟨_, ⟨rfl⟩⟩
      rw [HY.out] at hcell HN
      rw [HY.out] at HC
      generalize P y = pp at HC HN
      obtain ⟨a0, a1, a2, a3, a4, a5, a6, a7⟩ := lease_at (fun j hj => (hcell j hj).1)
      obtain ⟨⟨yk, yh, yl, yb⟩, ys, yc, yi, yt⟩ := y
      simp only at *
      have C0 := fun q : QW wr => q.cell hc
      have A0 := fun q : QW wr => q.cell a0
      have A1 := fun q : QW wr => q.cell a1
      have A2 := fun q : QW wr => q.cell a2
      have A3 := fun q : QW wr => q.cell a3
      have A4 := fun q : QW wr => q.cell a4
      have A5 := fun q : QW wr => q.cell a5
      have A6 := fun q : QW wr => q.cell a6
      have A7 := fun q : QW wr => q.cell a7
      clear a0 a1 a2 a3 a4 a5 a6 a7 hcell
      have hsz := HQ.out.size
      have hxl := (Array.getElem?_eq_some_iff.1 HX.out).1
      have hne : Aside1 (∀ i, i < w.heap.size + 1 → ¬ u7.ownBlock = some i) := ⟨fun i hi e => by have := (HO.out.lt e).1; omega⟩
      have HOq : ∀ q : QW wr, Aside1 (LeasesIs q.wd (w.heap.size + 1) u7 G) := fun q => ⟨HO.out.old q.quiet (fun _ _ h => h)⟩
      cases pp
      all_goals
        go_wp2_with fail
        refine wp_region_qw (by kernel_rfl) (by kernel_rfl) ?_
        repeat (go_big_quiet_step (((go_at_call 48; (with_reducible exact Calls.qw_of (HC.out _))))))
        refine wpQuiet_nil ?_
        rintro _ ⟨q, rfl⟩
        have hqz := q.quiet.size
        go_wp2_with (at_builtin; (refine append_lease rfl _ _ rfl _ (w.heap.size + 1) _ G rfl (HOq q).out ⟨⟨yk, yh, yl, yb⟩, ys, yc, yi, yt⟩ rfl (by omega) (by omega) ?_; intro v' w3 hO3 hk3))
      all_goals (first
        | exact ⟨⟨j + 1, by rw [Int.natCast_add]; rfl, hlt, ⟨by rw [HN.out, if_neg (by decide), List.append_nil]; exact (HOq q).out⟩, ⟨blk HX.out q.quiet⟩, ⟨HQ.out.andThen q.quiet (fun _ _ h => h)⟩⟩, by simp [RowKit.intOf]; omega⟩
        | exact ⟨⟨j + 1, by rw [Int.natCast_add]; rfl, hlt, ⟨by rw [HN.out, if_pos (by decide)]; exact hO3⟩, ⟨(hk3.block _ (Array.getElem?_eq_some_iff.1 (blk HX.out q.quiet)).1 (hne.out _ (by omega))).trans (blk HX.out q.quiet)⟩, ⟨(HQ.out.andThen q.quiet (fun _ _ h => h)).andThen hk3 (fun i hi e => hne.out i (by omega) e)⟩⟩, by simp [RowKit.intOf]; omega⟩)
    · have hje : ¬ (j : Int) < (L.length : Int) := by omega
      have HALL : Aside1 (L.take j = L) := ⟨List.take_of_length_le (by omega)⟩
      rw [HALL.out] at HO
      go_wp2_with fail
      go_ret
      exact ⟨_, rfl, HO.out.mono (by omega), HQ.out⟩
end Go.Proofs.YtmegbllhidkmoaaGreat.Tb
