/- The law TableViews. -/
import Derived.Test.YtmegbllhidkmoaaPd7
namespace Go.Proofs.Ytmegbllhidkmoaa.Tb
open Go.RowKit Go.Maps Go.Shelf Go.Proofs.YtmegbllhidkmoaaW.PrintWords Go.Proofs.YtmegbllhidkmoaaW.PrintLast Go.Proofs.YtmegbllhidkmoaaW.PrintMore
set_option linter.unusedVariables false
attribute [local go_sem high] eqA36
set_option maxHeartbeats 6400000 in
set_option maxRecDepth 100000 in
theorem views_run (w : World) (v : Value) (css : List (List Change)) (q : Int) (h : ListsAt w v css) : Calls Try.prog 4 #[v, .int .i64 q] w fun e w' => e = .returned (.bool true) ∧ Quiet w w' := by
  have hshape := h
  obtain ⟨pv, cv, hv, _⟩ := hshape
  subst hv
  have HLs := Aside1.mk h
  clear h
  have hG := good_filled css
  have hE := endsOk_filled HLs.out
  go_enter Try.func4, Try.ntmps4
  go_upto_region 7 with (first
    | (go_at_call 7; refine (awake_run _).mono ?_; rintro e w1 ⟨rfl, hq1⟩)
    | (go_at_call 8; refine (filled_run _ _ css (HLs.out.quiet hq1)).mono ?_; rintro e w2 ⟨bt, rfl, hH2⟩)
    | (go_at_call 9; refine (held_all _ _ bt 90000 _ hH2 (by decide)).mono ?_; rintro e w3 ⟨vl, rfl, hl3, hq3⟩))
  have hnx := filled_next css hH2.sorted
  obtain ⟨S, hS⟩ : ∃ S, filledS css = S := ⟨_, rfl⟩
  rw [hS] at hE hG hH2 hl3 hnx
  have HQ3 := Aside1.mk ((hq1.andThen hH2.quiet (fun _ _ h => h)).andThen hq3 (fun _ _ h => h))
  have HT := Aside1.mk (hH2.keep hq3)
  have HL3 := Aside1.mk hl3
  have HG := Aside1.mk hG
  have HNX := Aside1.mk hnx
  have HEN := Aside1.mk hE
  have HZ := Aside1.mk (show w.heap.size ≤ w1.heap.size ∧ w1.heap.size ≤ w2.heap.size ∧ w2.heap.size ≤ w3.heap.size from ⟨hq1.size, hH2.quiet.size, hq3.size⟩)
  obtain ⟨pl, cl, hvl⟩ := leases_shape hl3
  subst hvl
  clear hH2 hq1 hq3 hl3 hG hE hS HLs hnx
  have hsz : (S.1.length : Int) ≤ 1024 := by have := HG.out.size; omega
  go_wp2_with fail
  go_loopw [7, 8, 9] (fun v7 v8 v9 wr => ∃ j : Nat, v7 = .int .i64 (dueN q (S.1.take j)) ∧ v8 = .int .i64 (leastL (S.1.take j)) ∧ v9 = .int .i64 j ∧ j ≤ S.1.length ∧ Aside1 (Quiet w3 wr)) (fun _ _ v9 _ => S.1.length - (RowKit.intOf v9).toNat)
  case atStart => exact ⟨0, rfl, rfl, rfl, Nat.zero_le _, ⟨Kept.refl _ _⟩⟩
  case round =>
    obtain ⟨j, rfl, rfl, rfl, hj, HQ⟩ := hrel
    obtain ⟨D, HD⟩ : ∃ D : Int, Aside1 (((dueN q (S.1.take j) : Nat) : Int) = D) := ⟨_, ⟨rfl⟩⟩
    rw [HD.out]
    obtain ⟨M, HM⟩ : ∃ M : Int, Aside1 (leastL (S.1.take j) = M) := ⟨_, ⟨rfl⟩⟩
    rw [HM.out]
    by_cases hlt : j < S.1.length
    · have hi : (j : Int) < (S.1.length : Int) := by omega
      obtain ⟨g, cap, hv, hn, hm, hcell⟩ := leases_cell (HL3.out.old HQ.out (fun _ _ h => h)) j hlt
      simp only [Value.slice.injEq] at hv
      obtain ⟨rfl, _, rfl⟩ := hv
      have HIN := Aside1.mk (List.getElem_mem hlt)
      obtain ⟨⟨⟨xk, xh, xl, xb⟩, xs, xc, xi, xt⟩, HX⟩ : ∃ x, Aside1 (S.1[j] = x) := ⟨_, ⟨rfl⟩⟩
      rw [HX.out] at hcell HIN
      have a0 := (hcell 0 (by omega)).1
      have a1 := (hcell 1 (by omega)).1
      have a2 := (hcell 2 (by omega)).1
      have a3 := (hcell 3 (by omega)).1
      have a4 := (hcell 4 (by omega)).1
      have a5 := (hcell 5 (by omega)).1
      have a6 := (hcell 6 (by omega)).1
      have a7 := (hcell 7 (by omega)).1
      simp only [Lease.cells, List.getElem?_cons_zero, List.getElem?_cons_succ, Nat.add_zero] at a0 a1 a2 a3 a4 a5 a6 a7
      clear hcell
      have hiN : ((S.1.length : Nat) : Int) ≤ 9223372036854775807 := by omega
      go_upto_region 10 with fail
      go_cut [10] (fun v10 wz => ∃ bx, v10 = .pointer (some ⟨bx, 0, none⟩) ∧ Aside1 (wr.heap.size ≤ bx ∧ BoxAt wz bx ⟨⟨xk, xh, xl, xb⟩, xs, xc, xi, xt⟩) ∧ Aside1 (Quiet wr wz))
      case first =>
        go_wp2_with fail
        go_meet
        exact ⟨_, rfl, ⟨Nat.le_refl _, ⟨_, heap_alloc_new wr _⟩⟩, ⟨(Kept.refl _ wr).alloc _⟩⟩
      case rest =>
        obtain ⟨bx, rfl, HBX, HQz⟩ := hcut
        obtain ⟨wz, hwz⟩ : ∃ W : World, W = wc := ⟨_, rfl⟩
        subst hwz
        have HWz := Aside1.mk (HQ.out.andThen HQz.out (fun _ _ h => h))
        have hfind := fun W (hq : Quiet w3 W) => held_find w1 W bt 90000 S (HT.out.keep hq) ⟨⟨xk, xh, xl, xb⟩, xs, xc, xi, xt⟩ HIN.out
        obtain ⟨⟨⟨yk, yh, yl, yb⟩, ys, yc, yi, yt⟩, f, hof, HY⟩ : ∃ (y : Lease) (f : Bool), (∀ W, Quiet w3 W → Calls Try.prog 14 #[.pointer (some ⟨bt, 0, none⟩), .int .i64 xk, .string xc, .int .u32 xi] W fun e w2 => e = .returned (.tuple #[y.val, .bool f]) ∧ Quiet W w2) ∧ Aside1 ((xs == 1) = true → y = ⟨⟨xk, xh, xl, xb⟩, xs, xc, xi, xt⟩ ∧ f = true) := by
          cases hb : (xs == 1) with
          | true => exact ⟨⟨⟨xk, xh, xl, xb⟩, xs, xc, xi, xt⟩, true, fun W hq => held_of w1 W bt 90000 S (HT.out.keep hq) ⟨⟨xk, xh, xl, xb⟩, xs, xc, xi, xt⟩ HIN.out hb, ⟨fun _ => ⟨rfl, rfl⟩⟩⟩
          | false => exact ⟨_, _, fun W hq => held_of_any w1 W bt 90000 S (HT.out.keep hq) ⟨⟨xk, xh, xl, xb⟩, xs, xc, xi, xt⟩ HIN.out _ _ rfl rfl, ⟨fun h => absurd h (by decide)⟩⟩
        simp only [Lease.val] at hfind hof
        have c0 := HBX.out.2.cell 0
        have c1 := HBX.out.2.cell 1
        have c2 := HBX.out.2.cell 2
        have c3 := HBX.out.2.cell 3
        simp only [Lease.cells, List.getElem?_cons_zero, List.getElem?_cons_succ] at c0 c1 c2 c3
        clear a0 a1 a2 a3 a4 a5 a6 a7
        go_upto_region 11 with fail
        go_cut [11, 12] (fun v11 v12 wa => ∃ ba, v11 = .pointer (some ⟨ba, 0, none⟩) ∧ v12 = .bool true ∧ Aside1 (wz.heap.size ≤ ba ∧ BoxAt wa ba ⟨⟨xk, xh, xl, xb⟩, xs, xc, xi, xt⟩) ∧ Aside1 (Quiet wz wa))
        case first =>
          go_wp2_with (go_at_call 13; refine (hfind _ HWz.out).mono ?_; rintro e wf ⟨rfl, hqf⟩)
          go_meet
          exact ⟨_, rfl, rfl, ⟨hqf.size, ⟨_, heap_alloc_new wf _⟩⟩, ⟨hqf.alloc _⟩⟩
        case rest =>
          obtain ⟨ba, rfl, rfl, HBA, HQa⟩ := hcut
          obtain ⟨wa, hwa⟩ : ∃ W : World, W = wc := ⟨_, rfl⟩
          subst hwa
          have HWa := Aside1.mk (HWz.out.andThen HQa.out (fun _ _ h => h))
          have HBX2 := Aside1.mk (HBX.out.2.keep HQa.out (fun h => h))
          clear c0 c1 c2 c3 hfind
          have c0 := HBX2.out.cell 0
          have c5 := HBX2.out.cell 5
          have c6 := HBX2.out.cell 6
          simp only [Lease.cells, List.getElem?_cons_zero, List.getElem?_cons_succ] at c0 c5 c6
          go_upto_region 12 with fail
          go_cut [13, 14] (fun v13 v14 wb => ∃ bb, v13 = .pointer (some ⟨bb, 0, none⟩) ∧ v14 = .bool f ∧ Aside1 (BoxAt wb bb ⟨⟨yk, yh, yl, yb⟩, ys, yc, yi, yt⟩) ∧ Aside1 (Quiet wa wb))
          case first =>
            go_wp2_with (go_at_call 14; refine (hof _ HWa.out).mono ?_; rintro e wf ⟨rfl, hqf⟩)
            go_meet
            exact ⟨_, rfl, rfl, ⟨_, heap_alloc_new wf _⟩, ⟨hqf.alloc _⟩⟩
          case rest =>
            obtain ⟨bb, rfl, rfl, HBB, HQb⟩ := hcut
            obtain ⟨wb, hwb⟩ : ∃ W : World, W = wc := ⟨_, rfl⟩
            subst hwb
            have HWb := Aside1.mk (HWa.out.andThen HQb.out (fun _ _ h => h))
            have HBX3 := Aside1.mk (HBX2.out.keep HQb.out (fun h => h))
            have HBA3 := Aside1.mk (HBA.out.2.keep HQb.out (fun h => h))
            clear c0 c5 c6 hof
            go_upto_region 13 with fail
            go_cut [90] (fun v90 wc => v90 = .bool false ∧ Aside1 (Quiet wb wc))
            case first =>
              have hme := fun W (hq : Quiet w3 W) => held_meets w1 W bt 90000 S (HT.out.keep hq) HG.out (by decide) ⟨⟨xk, xh, xl, xb⟩, xs, xc, xi, xt⟩ HIN.out
              dsimp only at hme
              have X := HBX3.out.cell
              have A := HBA3.out.cell
              have B := HBB.out.cell
              have x0 := X 0
              have x1 := X 1
              have x2 := X 2
              have x3 := X 3
              have x4 := X 4
              have x5 := X 5
              have x6 := X 6
              have x7 := X 7
              have y0 := A 0
              have y1 := A 1
              have y2 := A 2
              have y3 := A 3
              have y4 := A 4
              have y5 := A 5
              have y6 := A 6
              have y7 := A 7
              have z0 := B 0
              have z1 := B 1
              have z2 := B 2
              have z3 := B 3
              have z4 := B 4
              have z5 := B 5
              have z6 := B 6
              have z7 := B 7
              simp only [Lease.cells, List.getElem?_cons_zero, List.getElem?_cons_succ] at x0 x1 x2 x3 x4 x5 x6 x7 y0 y1 y2 y3 y4 y5 y6 y7 z0 z1 z2 z3 z4 z5 z6 z7
              clear X A B
              have X0 := fun q : QW wb => q.cell x0
              have X1 := fun q : QW wb => q.cell x1
              have X2 := fun q : QW wb => q.cell x2
              have X3 := fun q : QW wb => q.cell x3
              have X4 := fun q : QW wb => q.cell x4
              have X5 := fun q : QW wb => q.cell x5
              have X6 := fun q : QW wb => q.cell x6
              have X7 := fun q : QW wb => q.cell x7
              have Y0 := fun q : QW wb => q.cell y0
              have Y1 := fun q : QW wb => q.cell y1
              have Y2 := fun q : QW wb => q.cell y2
              have Y3 := fun q : QW wb => q.cell y3
              have Y4 := fun q : QW wb => q.cell y4
              have Y5 := fun q : QW wb => q.cell y5
              have Y6 := fun q : QW wb => q.cell y6
              have Y7 := fun q : QW wb => q.cell y7
              have Z0 := fun q : QW wb => q.cell z0
              have Z1 := fun q : QW wb => q.cell z1
              have Z2 := fun q : QW wb => q.cell z2
              have Z3 := fun q : QW wb => q.cell z3
              have Z4 := fun q : QW wb => q.cell z4
              have Z5 := fun q : QW wb => q.cell z5
              have Z6 := fun q : QW wb => q.cell z6
              have Z7 := fun q : QW wb => q.cell z7
              clear x0 x1 x2 x3 x4 x5 x6 x7 y0 y1 y2 y3 y4 y5 y6 y7 z0 z1 z2 z3 z4 z5 z6 z7
              cases hb : (xs == 1) with
              | true =>
                obtain ⟨he, rfl⟩ := HY.out hb
                simp only [Lease.mk.injEq, Key.mk.injEq] at he
                obtain ⟨⟨rfl, rfl, rfl, rfl⟩, rfl, rfl, rfl, rfl⟩ := he
                refine wp_region_then [0, 1, 2, 3, 4, 5, 6, 7, 8, 9, 10, 11, 12, 13, 14, 15, 16, 17, 18, 19, 20, 21, 22, 23, 24, 25, 26, 28] (fun o => o.take 27 ++ (o.drop 28).take 1) 5 (by kernel_rfl) (by kernel_rfl) (fun o _ _ _ _ h => by cases hd : o.dst <;> rw [hd] at h <;> exact h) (by kernel_rfl) (by kernel_rfl) (by kernel_rfl) ?_
                simp only [List.take_succ_cons, List.take_zero, List.drop_succ_cons, List.drop_zero, List.cons_append, List.nil_append]
                repeat (go_big_quiet_step ((fail)))
                refine wpQuiet_nil ?_
                intro w0 hw0
                have q0 := quiet_qw hw0
                have H0 := Aside1.mk (HWb.out.andThen q0 (fun _ _ h => h))
                clear hw0 X0 X1 X2 X3 X4 X5 X6 X7 Y0 Y1 Y2 Y3 Y4 Y5 Y6 Y7 Z0 Z1 Z2 Z3 Z4 Z5 Z6 Z7
                refine wpAnyH_ready (rs := [27, 29]) (by kernel_rfl) (by simp) ?_
                refine AllReadyH.cons rfl (fun K hK => ?_) (AllReadyH.cons rfl (fun K hK => ?_) AllReadyH.nil)
                · rw [if_pos (by rfl)]
                  go_simp
                  go_wp2_with (go_at_call 16; refine (hme _ (H0.out)).mono ?_; rintro e w4 ⟨vm, rfl, hlm, hqm⟩)
                  have q4 := q0.andThen hqm (fun _ _ h => h)
                  refine hK.out _ _ ⟨⟨w4, q4⟩, rfl⟩ (fun _ => ?_)
                  clear hK K
                  refine wpAnyH_ready (rs := [29]) (by kernel_rfl) (by simp) ?_
                  refine AllReadyH.cons rfl (fun K hK => ?_) AllReadyH.nil
                  rw [if_pos (by rfl)]
                  go_simp
                  have q5 := q4.alloc (.cells #[.int .i64 yk, .int .u64 yh, .int .u64 yl, .int .i64 yb, .int .i64 ys, .string yc, .int .u32 yi, .int .i64 yt] 36)
                  have hsame := same_row w4 _ vm ⟨⟨yk, yh, yl, yb⟩, ys, yc, yi, yt⟩ (hlm.old ((Kept.refl (fun _ => False) w4).alloc _) (fun _ _ h => h))
                  refine hK.out _ _ ⟨⟨_, q5⟩, rfl⟩ (fun _ => ?_)
                  clear hK K
                  refine wpAnyH_ready (rs := [30]) (by kernel_rfl) (by simp) ?_
                  refine AllReadyH.cons rfl (fun K hK => ?_) AllReadyH.nil
                  rw [if_pos (by rfl)]
                  go_simp
                  go_wp2_with (go_at_call 15; refine hsame.mono ?_; rintro e w6 ⟨rfl, hq6⟩)
                  have q6 := q5.andThen hq6 (fun _ _ h => h)
                  refine hK.out _ _ ⟨⟨w6, q6⟩, rfl⟩ (fun _ => ?_)
                  clear hK K
                  refine wpAnyH_ready (rs := [31]) (by kernel_rfl) (by simp) ?_
                  refine AllReadyH.cons rfl (fun K hK => ?_) AllReadyH.nil
                  rw [if_pos (by rfl)]
                  go_simp
                  refine hK.out _ _ ⟨⟨w6, q6⟩, rfl⟩ (fun _ => ?_)
                  clear hK K
                  refine wpAnyH_ready (rs := [32]) (by kernel_rfl) (by simp) ?_
                  refine AllReadyH.cons rfl (fun K hK => ?_) AllReadyH.nil
                  rw [if_pos (by rfl)]
                  go_simp
                  refine hK.out _ _ ⟨⟨w6, q6⟩, rfl⟩ (fun _ => ?_)
                  clear hK K
                  refine wpAnyH_done (by kernel_rfl) ?_ _
                  go_wp2_with fail
                  go_meet
                  exact ⟨rfl, ⟨q6⟩⟩
                · rw [if_pos (by rfl)]
                  go_simp
                  have q1 := q0.alloc (.cells #[.int .i64 yk, .int .u64 yh, .int .u64 yl, .int .i64 yb, .int .i64 ys, .string yc, .int .u32 yi, .int .i64 yt] 36)
                  have hb1 := heap_alloc_new w0 (.cells #[.int .i64 yk, .int .u64 yh, .int .u64 yl, .int .i64 yb, .int .i64 ys, .string yc, .int .u32 yi, .int .i64 yt] 36)
                  refine hK.out _ _ ⟨⟨_, q1⟩, rfl⟩ (fun _ => ?_)
                  clear hK K
                  refine wpAnyH_ready (rs := [27]) (by kernel_rfl) (by simp) ?_
                  refine AllReadyH.cons rfl (fun K hK => ?_) AllReadyH.nil
                  rw [if_pos (by rfl)]
                  go_simp
                  obtain ⟨w1', hw1⟩ : ∃ W : World, W = w0.alloc (.cells #[.int .i64 yk, .int .u64 yh, .int .u64 yl, .int .i64 yb, .int .i64 ys, .string yc, .int .u32 yi, .int .i64 yt] 36) := ⟨_, rfl⟩
                  rw [← hw1] at q1 hb1 ⊢
                  have hlt1 := (Array.getElem?_eq_some_iff.1 hb1).1
                  have H1 := Aside1.mk (HWb.out.andThen q1 (fun _ _ h => h))
                  have HB1 := Aside1.mk hb1
                  have HL1 := Aside1.mk hlt1
                  clear hw1 hb1 hlt1
                  go_wp2_with (go_at_call 16; refine (hme _ (H1.out)).mono ?_; rintro e w4 ⟨vm, rfl, hlm, hqm⟩)
                  have q4 := q1.andThen hqm (fun _ _ h => h)
                  have hsame := same_row2 w4 w4 _ _ vm ⟨⟨yk, yh, yl, yb⟩, ys, yc, yi, yt⟩ ((hqm.block _ HL1.out (fun h => h)).trans HB1.out) hlm
                  refine hK.out _ _ ⟨⟨w4, q4⟩, rfl⟩ (fun _ => ?_)
                  clear hK K
                  refine wpAnyH_ready (rs := [30]) (by kernel_rfl) (by simp) ?_
                  refine AllReadyH.cons rfl (fun K hK => ?_) AllReadyH.nil
                  rw [if_pos (by rfl)]
                  go_simp
                  go_wp2_with (go_at_call 15; refine hsame.mono ?_; rintro e w6 ⟨rfl, hq6⟩)
                  have q6 := q4.andThen hq6 (fun _ _ h => h)
                  refine hK.out _ _ ⟨⟨w6, q6⟩, rfl⟩ (fun _ => ?_)
                  clear hK K
                  refine wpAnyH_ready (rs := [31]) (by kernel_rfl) (by simp) ?_
                  refine AllReadyH.cons rfl (fun K hK => ?_) AllReadyH.nil
                  rw [if_pos (by rfl)]
                  go_simp
                  refine hK.out _ _ ⟨⟨w6, q6⟩, rfl⟩ (fun _ => ?_)
                  clear hK K
                  refine wpAnyH_ready (rs := [32]) (by kernel_rfl) (by simp) ?_
                  refine AllReadyH.cons rfl (fun K hK => ?_) AllReadyH.nil
                  rw [if_pos (by rfl)]
                  go_simp
                  refine hK.out _ _ ⟨⟨w6, q6⟩, rfl⟩ (fun _ => ?_)
                  clear hK K
                  refine wpAnyH_done (by kernel_rfl) ?_ _
                  go_wp2_with fail
                  go_meet
                  exact ⟨rfl, ⟨q6⟩⟩
              | false =>
                refine wp_region_then [0, 1, 2, 3, 4, 5, 6, 7, 8, 9, 10, 11, 12, 13, 14, 15, 16, 17, 18, 19, 20, 21, 22, 23, 24, 25, 26, 28] (fun o => o.take 27 ++ (o.drop 28).take 1) 5 (by kernel_rfl) (by kernel_rfl) (fun o _ _ _ _ h => by cases hd : o.dst <;> rw [hd] at h <;> exact h) (by kernel_rfl) (by kernel_rfl) (by kernel_rfl) ?_
                simp only [List.take_succ_cons, List.take_zero, List.drop_succ_cons, List.drop_zero, List.cons_append, List.nil_append]
                repeat (go_big_quiet_step ((fail)))
                refine wpQuiet_nil ?_
                intro w0 hw0
                have q0 := quiet_qw hw0
                have H0 := Aside1.mk (HWb.out.andThen q0 (fun _ _ h => h))
                clear hw0 X0 X1 X2 X3 X4 X5 X6 X7 Y0 Y1 Y2 Y3 Y4 Y5 Y6 Y7 Z0 Z1 Z2 Z3 Z4 Z5 Z6 Z7
                refine wpAnyH_ready (rs := [27, 29]) (by kernel_rfl) (by simp) ?_
                refine AllReadyH.cons rfl (fun K hK => ?_) (AllReadyH.cons rfl (fun K hK => ?_) AllReadyH.nil)
                · rw [if_pos (by rfl)]
                  go_simp
                  go_wp2_with (go_at_call 16; refine (hme _ (H0.out)).mono ?_; rintro e w4 ⟨vm, rfl, hlm, hqm⟩)
                  have q4 := q0.andThen hqm (fun _ _ h => h)
                  refine hK.out _ _ ⟨⟨w4, q4⟩, rfl⟩ (fun _ => ?_)
                  clear hK K
                  refine wpAnyH_ready (rs := [29]) (by kernel_rfl) (by simp) ?_
                  refine AllReadyH.cons rfl (fun K hK => ?_) AllReadyH.nil
                  rw [if_pos (by rfl)]
                  go_simp
                  have q5 := q4.alloc (.cells #[.int .i64 xk, .int .u64 xh, .int .u64 xl, .int .i64 xb, .int .i64 xs, .string xc, .int .u32 xi, .int .i64 xt] 36)
                  have hsame := same_row w4 _ vm ⟨⟨xk, xh, xl, xb⟩, xs, xc, xi, xt⟩ (hlm.old ((Kept.refl (fun _ => False) w4).alloc _) (fun _ _ h => h))
                  refine hK.out _ _ ⟨⟨_, q5⟩, rfl⟩ (fun _ => ?_)
                  clear hK K
                  refine wpAnyH_ready (rs := [30]) (by kernel_rfl) (by simp) ?_
                  refine AllReadyH.cons rfl (fun K hK => ?_) AllReadyH.nil
                  rw [if_pos (by rfl)]
                  go_simp
                  go_wp2_with (go_at_call 15; refine hsame.mono ?_; rintro e w6 ⟨rfl, hq6⟩)
                  have q6 := q5.andThen hq6 (fun _ _ h => h)
                  refine hK.out _ _ ⟨⟨w6, q6⟩, rfl⟩ (fun _ => ?_)
                  clear hK K
                  refine wpAnyH_ready (rs := [31]) (by kernel_rfl) (by simp) ?_
                  refine AllReadyH.cons rfl (fun K hK => ?_) AllReadyH.nil
                  rw [if_pos (by rfl)]
                  go_simp
                  refine hK.out _ _ ⟨⟨w6, q6⟩, rfl⟩ (fun _ => ?_)
                  clear hK K
                  refine wpAnyH_ready (rs := [32]) (by kernel_rfl) (by simp) ?_
                  refine AllReadyH.cons rfl (fun K hK => ?_) AllReadyH.nil
                  rw [if_pos (by rfl)]
                  go_simp
                  refine hK.out _ _ ⟨⟨w6, q6⟩, rfl⟩ (fun _ => ?_)
                  clear hK K
                  refine wpAnyH_done (by kernel_rfl) ?_ _
                  go_wp2_with fail
                  go_meet
                  exact ⟨rfl, ⟨q6⟩⟩
                · rw [if_pos (by rfl)]
                  go_simp
                  have q1 := q0.alloc (.cells #[.int .i64 xk, .int .u64 xh, .int .u64 xl, .int .i64 xb, .int .i64 xs, .string xc, .int .u32 xi, .int .i64 xt] 36)
                  have hb1 := heap_alloc_new w0 (.cells #[.int .i64 xk, .int .u64 xh, .int .u64 xl, .int .i64 xb, .int .i64 xs, .string xc, .int .u32 xi, .int .i64 xt] 36)
                  refine hK.out _ _ ⟨⟨_, q1⟩, rfl⟩ (fun _ => ?_)
                  clear hK K
                  refine wpAnyH_ready (rs := [27]) (by kernel_rfl) (by simp) ?_
                  refine AllReadyH.cons rfl (fun K hK => ?_) AllReadyH.nil
                  rw [if_pos (by rfl)]
                  go_simp
                  obtain ⟨w1', hw1⟩ : ∃ W : World, W = w0.alloc (.cells #[.int .i64 xk, .int .u64 xh, .int .u64 xl, .int .i64 xb, .int .i64 xs, .string xc, .int .u32 xi, .int .i64 xt] 36) := ⟨_, rfl⟩
                  rw [← hw1] at q1 hb1 ⊢
                  have hlt1 := (Array.getElem?_eq_some_iff.1 hb1).1
                  have H1 := Aside1.mk (HWb.out.andThen q1 (fun _ _ h => h))
                  have HB1 := Aside1.mk hb1
                  have HL1 := Aside1.mk hlt1
                  clear hw1 hb1 hlt1
                  go_wp2_with (go_at_call 16; refine (hme _ (H1.out)).mono ?_; rintro e w4 ⟨vm, rfl, hlm, hqm⟩)
                  have q4 := q1.andThen hqm (fun _ _ h => h)
                  have hsame := same_row2 w4 w4 _ _ vm ⟨⟨xk, xh, xl, xb⟩, xs, xc, xi, xt⟩ ((hqm.block _ HL1.out (fun h => h)).trans HB1.out) hlm
                  refine hK.out _ _ ⟨⟨w4, q4⟩, rfl⟩ (fun _ => ?_)
                  clear hK K
                  refine wpAnyH_ready (rs := [30]) (by kernel_rfl) (by simp) ?_
                  refine AllReadyH.cons rfl (fun K hK => ?_) AllReadyH.nil
                  rw [if_pos (by rfl)]
                  go_simp
                  go_wp2_with (go_at_call 15; refine hsame.mono ?_; rintro e w6 ⟨rfl, hq6⟩)
                  have q6 := q4.andThen hq6 (fun _ _ h => h)
                  refine hK.out _ _ ⟨⟨w6, q6⟩, rfl⟩ (fun _ => ?_)
                  clear hK K
                  refine wpAnyH_ready (rs := [31]) (by kernel_rfl) (by simp) ?_
                  refine AllReadyH.cons rfl (fun K hK => ?_) AllReadyH.nil
                  rw [if_pos (by rfl)]
                  go_simp
                  refine hK.out _ _ ⟨⟨w6, q6⟩, rfl⟩ (fun _ => ?_)
                  clear hK K
                  refine wpAnyH_ready (rs := [32]) (by kernel_rfl) (by simp) ?_
                  refine AllReadyH.cons rfl (fun K hK => ?_) AllReadyH.nil
                  rw [if_pos (by rfl)]
                  go_simp
                  refine hK.out _ _ ⟨⟨w6, q6⟩, rfl⟩ (fun _ => ?_)
                  clear hK K
                  refine wpAnyH_done (by kernel_rfl) ?_ _
                  go_wp2_with fail
                  go_meet
                  exact ⟨rfl, ⟨q6⟩⟩
            case rest =>
              obtain ⟨rfl, HQc⟩ := hcut
              obtain ⟨wd, hwd⟩ : ∃ W : World, W = wc := ⟨_, rfl⟩
              subst hwd
              have HWd := Aside1.mk (HWb.out.andThen HQc.out (fun _ _ h => h))
              have HBX4 := Aside1.mk (HBX3.out.keep HQc.out (fun h => h))
              have hcl := fun W (hq : Quiet w3 W) => held_client w1 W bt 90000 S (HT.out.keep hq) (by decide) ⟨⟨xk, xh, xl, xb⟩, xs, xc, xi, xt⟩
              dsimp only at hcl
              have htm := times_mine HT.out.sorted HIN.out
              obtain ⟨R, hR⟩ : ∃ R, mineOf S.1 ⟨⟨xk, xh, xl, xb⟩, xs, xc, xi, xt⟩ = R := ⟨_, rfl⟩
              have hRl : R.length ≤ S.1.length := by rw [← hR]; exact List.length_filter_le _ _
              rw [hR] at hcl htm
              have HTM := Aside1.mk htm
              have c5 := HBX4.out.cell 5
              simp only [Lease.cells, List.getElem?_cons_zero, List.getElem?_cons_succ] at c5
              clear hR htm HBX2 HBA HBX HBA3 HBB HQz HQa HQb HQc HWz HWa HWb
              go_upto_region 17 with (go_at_call 17; refine (hcl _ HWd.out).mono ?_; rintro e we ⟨vm, rfl, hlm, hqe⟩)
              have HWe := Aside1.mk (HWd.out.andThen hqe (fun _ _ h => h))
              have HBX5 := Aside1.mk (HBX4.out.keep hqe (fun h => h))
              obtain ⟨pm, cm, hvm⟩ := leases_shape hlm
              subst hvm
              have HLM := Aside1.mk hlm
              have hRz : ((R.length : Nat) : Int) ≤ 1024 := by omega
              clear hcl c5 hlm hqe HWd HBX4
              go_wp2_with fail
              go_loopw [16, 17] (fun v16 v17 wk => ∃ k : Nat, v16 = .int .i64 (timesIn ⟨⟨xk, xh, xl, xb⟩, xs, xc, xi, xt⟩ (R.take k)) ∧ v17 = .int .i64 k ∧ k ≤ R.length ∧ Aside1 (Quiet we wk)) (fun _ v17 _ => R.length - (RowKit.intOf v17).toNat)
              case atStart => exact ⟨0, rfl, rfl, Nat.zero_le _, ⟨Kept.refl _ _⟩⟩
              case round =>
                obtain ⟨k, rfl, rfl, hk, HQk⟩ := hrel
                have HBX6 := Aside1.mk (HBX5.out.keep HQk.out (fun h => h))
                obtain ⟨C, HC⟩ : ∃ C : Int, Aside1 (((timesIn ⟨⟨xk, xh, xl, xb⟩, xs, xc, xi, xt⟩ (R.take k) : Nat) : Int) = C) := ⟨_, ⟨rfl⟩⟩
                rw [HC.out]
                by_cases hkl : k < R.length
                · have hki : (k : Int) < (R.length : Int) := by omega
                  have htn := times_next (x := ⟨⟨xk, xh, xl, xb⟩, xs, xc, xi, xt⟩) hkl
                  have htl := times_le ⟨⟨xk, xh, xl, xb⟩, xs, xc, xi, xt⟩ (R.take k)
                  rw [List.length_take] at htl
                  have HCB := Aside1.mk (show 0 ≤ C ∧ C ≤ 1024 by have := HC.out; omega)
                  obtain ⟨gm, capm, hvm, hnm, hmm, hcellm⟩ := leases_cell (HLM.out.old HQk.out (fun _ _ h => h)) k hkl
                  simp only [Value.slice.injEq] at hvm
                  obtain ⟨rfl, _, rfl⟩ := hvm
                  obtain ⟨⟨⟨yk, yh, yl, yb⟩, ys, yc, yi, yt⟩, HYY⟩ : ∃ x, Aside1 (R[k] = x) := ⟨_, ⟨rfl⟩⟩
                  rw [HYY.out] at hcellm htn
                  have HTN := Aside1.mk htn
                  have b0 := (hcellm 0 (by omega)).1
                  have b1 := (hcellm 1 (by omega)).1
                  have b2 := (hcellm 2 (by omega)).1
                  have b3 := (hcellm 3 (by omega)).1
                  have b4 := (hcellm 4 (by omega)).1
                  have b5 := (hcellm 5 (by omega)).1
                  have b6 := (hcellm 6 (by omega)).1
                  have b7 := (hcellm 7 (by omega)).1
                  simp only [Lease.cells, List.getElem?_cons_zero, List.getElem?_cons_succ, Nat.add_zero] at b0 b1 b2 b3 b4 b5 b6 b7
                  have x0 := HBX6.out.cell 0
                  have x1 := HBX6.out.cell 1
                  have x2 := HBX6.out.cell 2
                  have x3 := HBX6.out.cell 3
                  have x4 := HBX6.out.cell 4
                  have x5 := HBX6.out.cell 5
                  have x6 := HBX6.out.cell 6
                  have x7 := HBX6.out.cell 7
                  simp only [Lease.cells, List.getElem?_cons_zero, List.getElem?_cons_succ] at x0 x1 x2 x3 x4 x5 x6 x7
                  have hle := lease_eq yk yh yl yb ys yc yi yt xk xh xl xb xs xc xi xt
                  have hkw : IntKind.i64.wrap ((k : Int) + 1) = ((k + 1 : Nat) : Int) := by rw [IntKind.wrap_i64]; omega
                  have hcw : IntKind.i64.wrap (C + 1) = C + 1 := by have := HCB.out; rw [IntKind.wrap_i64]; omega
                  clear hcellm htn htl
                  have B0 := fun q : QW wr => q.cell b0
                  have B1 := fun q : QW wr => q.cell b1
                  have B2 := fun q : QW wr => q.cell b2
                  have B3 := fun q : QW wr => q.cell b3
                  have B4 := fun q : QW wr => q.cell b4
                  have B5 := fun q : QW wr => q.cell b5
                  have B6 := fun q : QW wr => q.cell b6
                  have B7 := fun q : QW wr => q.cell b7
                  have X0 := fun q : QW wr => q.cell x0
                  have X1 := fun q : QW wr => q.cell x1
                  have X2 := fun q : QW wr => q.cell x2
                  have X3 := fun q : QW wr => q.cell x3
                  have X4 := fun q : QW wr => q.cell x4
                  have X5 := fun q : QW wr => q.cell x5
                  have X6 := fun q : QW wr => q.cell x6
                  have X7 := fun q : QW wr => q.cell x7
                  clear b0 b1 b2 b3 b4 b5 b6 b7 x0 x1 x2 x3 x4 x5 x6 x7
                  by_cases hxy : (⟨⟨yk, yh, yl, yb⟩, ys, yc, yi, yt⟩ : Lease) = ⟨⟨xk, xh, xl, xb⟩, xs, xc, xi, xt⟩
                  · rw [decide_eq_true hxy] at hle
                    have HT1 := HTN.out
                    rw [if_pos hxy] at HT1
                    have HT2 := Aside1.mk HT1
                    clear hxy HT1
                    go_wp2_with fail
                    refine wp_region_qw (by kernel_rfl) (by kernel_rfl) ?_
                    repeat (go_big_quiet_step ((fail)))
                    refine wpQuiet_nil ?_
                    intro wq hw'
                    have hqq := quiet_qw hw'
                    clear hw' B0 B1 B2 B3 B4 B5 B6 B7 X0 X1 X2 X3 X4 X5 X6 X7
                    go_wp2_with fail
                    refine ⟨⟨k + 1, by rw [HT2.out, Int.natCast_add, HC.out]; rfl, by rw [Int.natCast_add]; rfl, hkl, ⟨HQk.out.andThen hqq (fun _ _ h => h)⟩⟩, by simp [RowKit.intOf]; omega⟩
                  · rw [decide_eq_false hxy] at hle
                    have HT1 := HTN.out
                    rw [if_neg hxy] at HT1
                    have HT2 := Aside1.mk HT1
                    clear hxy HT1
                    go_wp2_with fail
                    refine wp_region_qw (by kernel_rfl) (by kernel_rfl) ?_
                    repeat (go_big_quiet_step ((fail)))
                    refine wpQuiet_nil ?_
                    intro wq hw'
                    have hqq := quiet_qw hw'
                    clear hw' B0 B1 B2 B3 B4 B5 B6 B7 X0 X1 X2 X3 X4 X5 X6 X7
                    go_wp2_with fail
                    refine ⟨⟨k + 1, by rw [HT2.out, Nat.add_zero, HC.out], by rw [Int.natCast_add]; rfl, hkl, ⟨HQk.out.andThen hqq (fun _ _ h => h)⟩⟩, by simp [RowKit.intOf]; omega⟩
                · have hki : ¬ (k : Int) < (R.length : Int) := by omega
                  have hkr : R.take k = R := List.take_of_length_le (by omega)
                  have HCE := HC.out
                  rw [hkr, HTM.out] at HCE
                  go_upto_region 22 with fail
                  have HCE2 := Aside1.mk HCE
                  clear HCE HTM HLM hkr
                  go_cut [118] (fun v118 wg => v118 = .bool false ∧ Aside1 (Quiet wr wg))
                  case first =>
                    have x4 := HBX6.out.cell 4
                    simp only [Lease.cells, List.getElem?_cons_zero, List.getElem?_cons_succ] at x4
                    have hCE := HCE2.out
                    unfold Lease.bound at hCE
                    dsimp only at hCE
                    cases hb : (xs == 1) with
                    | true =>
                      rw [hb] at hCE
                      obtain rfl : C = 1 := by rw [← hCE]; rfl
                      clear hCE
                      go_wp2_with fail
                      go_meet
                      exact ⟨rfl, ⟨Kept.refl _ _⟩⟩
                    | false =>
                      rw [hb] at hCE
                      obtain rfl : C = 0 := by rw [← hCE]; rfl
                      clear hCE
                      go_wp2_with fail
                      go_meet
                      exact ⟨rfl, ⟨Kept.refl _ _⟩⟩
                  case rest =>
                    obtain ⟨rfl, HQg⟩ := hcut
                    obtain ⟨wg, hwg⟩ : ∃ W : World, W = wc := ⟨_, rfl⟩
                    subst hwg
                    have HWg := Aside1.mk ((HWe.out.andThen HQk.out (fun _ _ h => h)).andThen HQg.out (fun _ _ h => h))
                    have HBX7 := Aside1.mk (HBX6.out.keep HQg.out (fun h => h))
                    clear HBX5 HBX6 HQk HQg HWe HC HCE2
                    have x7 := HBX7.out.cell 7
                    simp only [Lease.cells, List.getElem?_cons_zero, List.getElem?_cons_succ] at x7
                    have hdn := due_next (q := q) hlt
                    have hdl := due_le q (S.1.take j)
                    rw [List.length_take] at hdl
                    rw [HX.out] at hdn
                    dsimp only at hdn
                    have HDN := Aside1.mk hdn
                    have hDb : 0 ≤ D ∧ D ≤ 1024 := by have := HD.out; omega
                    have hDw : IntKind.i64.wrap (D + 1) = D + 1 := by rw [IntKind.wrap_i64]; omega
                    clear hdn hdl
                    have hln := least_next hlt
                    rw [HX.out, HM.out] at hln
                    dsimp only at hln
                    have HLN := Aside1.mk hln
                    have hjw : IntKind.i64.wrap ((j : Int) + 1) = ((j + 1 : Nat) : Int) := by rw [IntKind.wrap_i64]; omega
                    clear hln
                    by_cases hq' : xt ≤ q
                    · have HDE : Aside1 (((dueN q (S.1.take (j + 1)) : Nat) : Int) = D + 1) := ⟨by have := HDN.out; rw [if_pos hq'] at this; rw [this, Int.natCast_add, HD.out]; rfl⟩
                      by_cases hj0 : j = 0
                      · have HLE : Aside1 (leastL (S.1.take (j + 1)) = xt) := ⟨by rw [HLN.out, if_pos (.inl hj0)]⟩
                        have hjz : ((j : Int) == 0) = true := by simp [hj0]
                        clear HLN hj0
                        go_wp2_with fail
                        exact ⟨⟨j + 1, by rw [HDE.out], by rw [HLE.out], by rw [Int.natCast_add]; rfl, hlt, HWg⟩, by simp [RowKit.intOf]; omega⟩
                      · have hjz : ((j : Int) == 0) = false := by simp [hj0]
                        by_cases hxm : xt < M
                        · have HLE : Aside1 (leastL (S.1.take (j + 1)) = xt) := ⟨by rw [HLN.out, if_pos (.inr hxm)]⟩
                          clear HLN hj0
                          go_wp2_with fail
                          exact ⟨⟨j + 1, by rw [HDE.out], by rw [HLE.out], by rw [Int.natCast_add]; rfl, hlt, HWg⟩, by simp [RowKit.intOf]; omega⟩
                        · have HLE : Aside1 (leastL (S.1.take (j + 1)) = M) := ⟨by rw [HLN.out, if_neg (fun h => h.elim hj0 hxm)]⟩
                          clear HLN hj0
                          go_wp2_with fail
                          exact ⟨⟨j + 1, by rw [HDE.out], by rw [HLE.out], by rw [Int.natCast_add]; rfl, hlt, HWg⟩, by simp [RowKit.intOf]; omega⟩
                    · have HDE : Aside1 (((dueN q (S.1.take (j + 1)) : Nat) : Int) = D) := ⟨by have := HDN.out; rw [if_neg hq'] at this; rw [this, Nat.add_zero, HD.out]⟩
                      by_cases hj0 : j = 0
                      · have HLE : Aside1 (leastL (S.1.take (j + 1)) = xt) := ⟨by rw [HLN.out, if_pos (.inl hj0)]⟩
                        have hjz : ((j : Int) == 0) = true := by simp [hj0]
                        clear HLN hj0
                        go_wp2_with fail
                        exact ⟨⟨j + 1, by rw [HDE.out], by rw [HLE.out], by rw [Int.natCast_add]; rfl, hlt, HWg⟩, by simp [RowKit.intOf]; omega⟩
                      · have hjz : ((j : Int) == 0) = false := by simp [hj0]
                        by_cases hxm : xt < M
                        · have HLE : Aside1 (leastL (S.1.take (j + 1)) = xt) := ⟨by rw [HLN.out, if_pos (.inr hxm)]⟩
                          clear HLN hj0
                          go_wp2_with fail
                          exact ⟨⟨j + 1, by rw [HDE.out], by rw [HLE.out], by rw [Int.natCast_add]; rfl, hlt, HWg⟩, by simp [RowKit.intOf]; omega⟩
                        · have HLE : Aside1 (leastL (S.1.take (j + 1)) = M) := ⟨by rw [HLN.out, if_neg (fun h => h.elim hj0 hxm)]⟩
                          clear HLN hj0
                          go_wp2_with fail
                          exact ⟨⟨j + 1, by rw [HDE.out], by rw [HLE.out], by rw [Int.natCast_add]; rfl, hlt, HWg⟩, by simp [RowKit.intOf]; omega⟩
    · have hje : j = S.1.length := by omega
      have htk : S.1.take j = S.1 := List.take_of_length_le (by omega)
      have HDE := HD.out
      have HME := HM.out
      rw [htk] at HDE HME
      have hi : ¬ (j : Int) < (S.1.length : Int) := by omega
      have hdue := held_due w1 wr bt 90000 S (HT.out.keep HQ.out) (by decide) q
      have HDE := Aside1.mk HDE
      have HME := Aside1.mk HME
      clear HD HM htk hje
      go_upto_region 29 with (go_at_call 18; refine hdue.mono ?_; rintro e wA ⟨vd, R, rfl, hlen, hlate, hld, hqd⟩)
      obtain ⟨pd, cd, hvd⟩ := leases_shape hld
      subst hvd
      have hza := hqd.size
      have hzr := HQ.out.size
      have hnext := held_next w1 w3 wA bt 90000 S HT.out ((HQ.out.andThen hqd (fun _ _ h => h)).mono (fun _ h => h.elim)) (by decide) HEN.out
      rw [HNX.out] at hnext
      have HQA := Aside1.mk (HQ.out.andThen hqd (fun _ _ h => h))
      have HLD := Aside1.mk hld
      have HLT := Aside1.mk hlate
      clear hdue hld hqd hlate
      go_upto_region 30 with (go_at_call 19; refine hnext.mono ?_; rintro e wB ⟨rfl, hHB, hkB⟩)
      have hsize := held_size w1 wB bt 90000 _ hHB
      dsimp only at hsize
      have hzz := HZ.out
      have HKB := Aside1.mk hkB
      have HLD2 : Aside1 (LeasesIs wB wr.heap.size (.slice pd R.length cd) R) := ⟨HLD.out.old hkB (fun k hk e => by have := (HLD.out.lt hk).1; omega)⟩
      have hDR : ((R.length : Nat) : Int) = D := by rw [hlen.out]; exact HDE.out
      have HMM := HME.out
      subst HMM
      subst hDR
      obtain ⟨b0, hb0⟩ : ∃ b : Bool, decide (0 < S.1.length) = b := ⟨_, rfl⟩
      have hb1 : decide ((S.1.length : Int) > 0) = b0 := by rw [← hb0, Bool.eq_iff_iff, decide_eq_true_eq, decide_eq_true_eq]; omega
      have hb2 : decide (0 < (S.1.length : Int)) = b0 := hb1
      have hRz : ((R.length : Nat) : Int) ≤ 1024 := by have := due_le q S.1; have := hlen.out; omega
      rw [hb0]
      clear hHB HNX hlen hnext hkB hza hzr
      go_wp2_with (go_at_call 20; refine hsize.mono ?_; rintro e wC ⟨rfl, hqC⟩)
      have hz0 := HZ.out
      have HQB := Aside1.mk ((HQ3.out.andThen HQA.out (fun _ _ h => h)).andThen HKB.out (fun i hi e => absurd e.1 (by omega)))
      have HQC := Aside1.mk hqC
      clear hqC hsize hz0
      go_loopw [21] (fun v21 wk => ∃ i : Nat, v21 = .int .i64 ((i + 1 : Nat) : Int) ∧ (i + 1 ≤ R.length ∨ i = 0) ∧ Aside1 (Quiet wB wk)) (fun v21 _ => R.length - (RowKit.intOf v21).toNat)
      case atStart => exact ⟨0, rfl, .inr rfl, HQC⟩
      case round =>
        clear HQC
        obtain ⟨i, rfl, hil, HQi⟩ := hrel
        by_cases hlt : i + 1 < R.length
        · have hi1 : ((i + 1 : Nat) : Int) < (R.length : Int) := by omega
          have hi0 : (i : Int) < (R.length : Int) := by omega
          have hilt : i < R.length := by omega
          obtain ⟨g, cap, hv, hn, hm, hcell⟩ := leases_cell (HLD2.out.old HQi.out (fun _ _ h => h)) (i + 1) hlt
          obtain ⟨g', cap', hv', _, _, hcell'⟩ := leases_cell (HLD2.out.old HQi.out (fun _ _ h => h)) i hilt
          simp only [Value.slice.injEq] at hv hv'
          obtain ⟨rfl, _, rfl⟩ := hv
          obtain ⟨hg, _, _⟩ := hv'
          obtain rfl : g = g' := by simpa using hg
          have hle := late_le HLT.out hilt hlt (by omega)
          have a7 := (hcell 7 (by omega)).1
          have b7 := (hcell' 7 (by omega)).1
          simp only [Lease.cells, List.getElem?_cons_zero, List.getElem?_cons_succ, Nat.add_zero] at a7 b7
          generalize (R[i + 1]'hlt).till = ta at hle a7
          generalize (R[i]'hilt).till = tb at hle b7
          have hdd : decide (ta < tb) = false := decide_eq_false (by omega)
          have hw1 : IntKind.i64.wrap (((i + 1 : Nat) : Int) - 1) = (i : Int) := by rw [IntKind.wrap_i64]; omega
          have hw2 : ((i + 1 : Nat) : Int) - 1 = (i : Int) := by omega
          have hw3 : IntKind.i64.wrap (((i + 1 : Nat) : Int) + 1) = ((i + 2 : Nat) : Int) := by rw [IntKind.wrap_i64]; omega
          clear hcell hcell' hg
          have A7 := fun q : QW wr => q.cell a7
          have B7 := fun q : QW wr => q.cell b7
          go_wp2_with fail
          refine wp_region_qw (by kernel_rfl) (by kernel_rfl) ?_
          repeat (go_big_quiet_step ((fail)))
          refine wpQuiet_nil ?_
          intro wq hw'
          have hqq := quiet_qw hw'
          clear hw' A7 B7
          go_wp2_with fail
          refine ⟨⟨i + 1, by rw [Int.natCast_add, Int.natCast_add]; rfl, .inl hlt, ⟨HQi.out.andThen hqq (fun _ _ h => h)⟩⟩, by simp [RowKit.intOf]; omega⟩
        · have hi1 : ¬ ((i + 1 : Nat) : Int) < (R.length : Int) := by omega
          go_wp2_with fail
          go_ret
          exact ⟨rfl, HQB.out.andThen HQi.out (fun _ _ h => h)⟩
end Go.Proofs.Ytmegbllhidkmoaa.Tb
