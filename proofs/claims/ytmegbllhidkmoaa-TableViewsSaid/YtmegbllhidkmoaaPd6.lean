/- A table's Apply. -/
import Derived.Test.YtmegbllhidkmoaaPd5
import Derived.Test.YtmegbllhidkmoaaRows
import Derived.ProofKit
import Derived.Deep.Slices
import Derived.Test.YtmegbllhidkmoaaPd1
import Derived.BigQuiet
import Derived.Shelf.RegionOpenPlain
namespace Go.Proofs.Ytmegbllhidkmoaa.Tb
open Go.RowKit Go.Maps Go.Shelf Go.Proofs.YtmegbllhidkmoaaW.PrintWords Go.Proofs.YtmegbllhidkmoaaW.PrintLast Go.Proofs.YtmegbllhidkmoaaW.PrintMore
set_option linter.unusedVariables false
def Change.cells (c : Change) : List Value := [.bool c.gone, .int .i64 c.lease.key.kind, .int .u64 c.lease.key.hi, .int .u64 c.lease.key.lo, .int .i64 c.lease.key.bits, .int .i64 c.lease.state, .string c.lease.client, .int .u32 c.lease.iaid, .int .i64 c.lease.till]
/-- v is a slice of these changes, from block B on or not. -/
def ChangesAt (w : World) (v : Value) (cs : List Change) : Prop :=
  ∃ p cap, v = .slice p cs.length cap ∧ cs.length ≤ cap ∧ cap ≤ maxLen ∧ (∀ j (h : j < cs.length), ∃ g off, p = some ⟨g, off, none⟩ ∧ ∀ i, i < 9 → w.cell? ⟨g, off + j * 9 + i, none⟩ = ((cs[j]'h).cells)[i]?) ∧ ∀ c ∈ cs, c.lease.ok
theorem ChangesAt.quiet {w w' : World} {v : Value} {cs : List Change} (h : ChangesAt w v cs) (hq : Quiet w w') : ChangesAt w' v cs := by
  obtain ⟨p, cap, rfl, h1, h2, h3, h4⟩ := h
  refine ⟨p, cap, rfl, h1, h2, fun j hj => ?_, h4⟩
  obtain ⟨g, off, rfl, hc⟩ := h3 j hj
  refine ⟨g, off, rfl, fun i hi => ?_⟩
  have h9 : i < ((cs[j]'hj).cells).length := hi
  rw [List.getElem?_eq_getElem h9]
  exact hq.cell ((hc i hi).trans (List.getElem?_eq_getElem h9)) (fun h => h)
def applyE : List Lease → List Change → Int
  | _, [] => 0
  | L, c :: cs => if changeE L c = 0 then applyE (changeL L c) cs else changeE L c
def applyL : List Lease → List Change → List Lease
  | L, [] => L
  | L, c :: cs => applyL (changeL L c) cs
def applyEnds : List End → List Change → List End
  | E, [] => E
  | E, c :: cs => applyEnds (changeEnds E c) cs
theorem changeL_sorted {L : List Lease} (h : Sorted L) (c : Change) : Sorted (changeL L c) := by
  unfold changeL; split
  · exact without_sorted h _
  · exact putL_sorted h _
theorem changeL_uniq {w : World} {bt b1 b2 N : Nat} {v : Value} {L : List Lease} {E : List End} (h : TabAt w bt b1 b2 v N L E) (hu : Uniq L) {c : Change} (he : changeE L c = 0) : Uniq (changeL L c) := by
  unfold changeL
  cases hg : c.gone with
  | true => exact uniq_without hu _
  | false =>
    refine uniq_putL h hu ?_
    unfold changeE at he
    rw [hg] at he
    cases hb : changeB c with
    | false => rw [hb] at he; cases he
    | true =>
      rw [hb] at he
      simp only [if_true, Bool.false_eq_true, if_false] at he
      unfold putE at he
      cases ht : takenB L c.lease with
      | false => rfl
      | true => rw [ht] at he; cases he
theorem apply_done {w wr : World} {bt b1 b2 bt' b1' b2' N N' : Nat} {v v' : Value} {L L' : List Lease} {E E' : List End} (h : TabAt w bt b1 b2 v N L E) (h' : TabAt wr bt' b1' b2' v' N' L' E') (hf : ∀ k, Foot bt' b1' b2' v' k → w.heap.size ≤ k) (hq : Quiet w wr) :
    TabAt (((wr.setCell ⟨bt, 0, none⟩ (.map (some b1'))).setCell ⟨bt, 1, none⟩ (.map (some b2'))).setCell ⟨bt, 2, none⟩ v') bt b1' b2' v' N' L' E' ∧ Kept (fun k => k = bt) w (((wr.setCell ⟨bt, 0, none⟩ (.map (some b1'))).setCell ⟨bt, 1, none⟩ (.map (some b2'))).setCell ⟨bt, 2, none⟩ v') := by
  have lt : bt < w.heap.size := (Array.getElem?_eq_some_iff.1 h.blk).1
  have hb := (hq.block bt lt (fun h => h)).trans h.blk
  have k3 : Kept (fun k => k = bt) wr (((wr.setCell ⟨bt, 0, none⟩ (.map (some b1'))).setCell ⟨bt, 1, none⟩ (.map (some b2'))).setCell ⟨bt, 2, none⟩ v') :=
    (((Kept.refl (fun k => k = bt) wr).setCell (p := ⟨bt, 0, none⟩) (fun _ => rfl) _).setCell (p := ⟨bt, 1, none⟩) (fun _ => rfl) _).setCell (p := ⟨bt, 2, none⟩) (fun _ => rfl) _
  have n0 : b1' ≠ bt := fun e => by have := hf b1' (.inr (.inl rfl)); omega
  have n1 : b2' ≠ bt := fun e => by have := hf b2' (.inr (.inr (.inl rfl))); omega
  have n2 : ∀ k, v'.ownBlock = some k → k ≠ bt := fun k hk e => by have := hf k (.inr (.inr (.inr hk))); omega
  refine ⟨⟨?_, h'.m1.block (k3.block b1' h'.m1.lt n0), h'.m2.block (k3.block b2' h'.m2.lt n1), ends_old h'.ends k3 n2, h'.len, h'.n12, h'.v1, h'.v2, fun e => n2 bt e rfl, h'.oks⟩, (hq.mono (S' := fun k => k = bt) (fun _ h => h.elim)).andThen k3 (fun _ _ h => h)⟩
  exact heap_setCell_same _ bt 2 #[.map (some b1'), .map (some b2'), v] _ v' (heap_setCell_same _ bt 1 #[.map (some b1'), .map (some b2), v] _ _ (heap_setCell_same _ bt 0 #[.map (some b1), .map (some b2), v] _ _ hb))

set_option maxHeartbeats 3200000 in
set_option maxRecDepth 100000 in
theorem tab_apply (w : World) (bt b1 b2 N : Nat) (v : Value) (L : List Lease) (E : List End) (h : TabAt w bt b1 b2 v N L E) (hu : Uniq L) (hs : Sorted L) (vc : Value) (cs : List Change) (hc : ChangesAt w vc cs) (hN : N + cs.length < 1000000000) :
    Calls Try.prog 22 #[.pointer (some ⟨bt, 0, none⟩), vc] w fun e w' => e = .returned (.int .i64 (applyE L cs)) ∧ Kept (fun k => k = bt) w w' ∧
      (applyE L cs ≠ 0 → Quiet w w') ∧
      (applyE L cs = 0 → ∃ b1' b2' v', TabAt w' bt b1' b2' v' (N + cs.length) (applyL L cs) (applyEnds E cs) ∧ Sorted (applyL L cs) ∧ Uniq (applyL L cs) ∧ ∀ k, Foot bt b1' b2' v' k → k = bt ∨ w.heap.size ≤ k) := by
  have HT := Aside1.mk h
  have HC := Aside1.mk hc
  have hcopy := fun W (hq : Quiet w W) => tab_copy W bt b1 b2 N v L E (HT.out.kept hq (fun _ _ h => h)) (by omega)
  obtain ⟨p, cap, rfl, hn, hm, hcell, hoks⟩ := hc
  have HX := Aside1.mk hcell
  have HO := Aside1.mk hoks
  clear h hcell hoks
  go_enter Try.func22, Try.ntmps22
  go_wp2_with (go_at_call 21; refine (hcopy _ ?_).mono ?_; ((repeat (first | exact Kept.refl _ _ | assumption | apply Kept.drew | apply Kept.drewN | apply Kept.alloc | refine Kept.setCell ?_ (fun hlt => absurd hlt (Nat.lt_irrefl _)) _ | refine Kept.andThen ?_ (by assumption) (fun _ _ h => h)))); rintro e w1 ⟨bn, m1, m2, vn, rfl, hT1, hf1, hq1⟩)
  have HT1 := Aside1.mk hT1
  have HF1 := Aside1.mk hf1
  have HQ1 := Aside1.mk hq1
  clear hT1 hf1 hq1 hcopy
  go_loopw [15] (fun v15 wr => ∃ (j : Nat) (vj : Value) (Lj : List Lease) (Ej : List End), v15 = .int .i64 j ∧ j ≤ cs.length ∧ Aside1 (TabAt wr bn m1 m2 vj (N + j) Lj Ej) ∧ Aside1 (Sorted Lj) ∧ Aside1 (Uniq Lj) ∧ Aside1 (applyE Lj (cs.drop j) = applyE L cs ∧ applyL Lj (cs.drop j) = applyL L cs ∧ applyEnds Ej (cs.drop j) = applyEnds E cs) ∧ Aside1 (∀ k, Foot bn m1 m2 vj k → w.heap.size ≤ k) ∧ Aside1 (Quiet w wr)) (fun v15 _ => cs.length - (RowKit.intOf v15).toNat)
  case atStart => exact ⟨0, vn, L, E, rfl, Nat.zero_le _, HT1, ⟨hs⟩, ⟨hu⟩, ⟨rfl, rfl, rfl⟩, HF1, HQ1⟩
  case round =>
    obtain ⟨j, vj, Lj, Ej, rfl, hj, HTj, HSj, HUj, HAj, HFj, HQj⟩ := hrel
    by_cases hlt : j < cs.length
    · have hi : (j : Int) < (cs.length : Int) := by omega
      obtain ⟨g, off, hp, hcc⟩ := HX.out j hlt
      subst hp
      obtain ⟨⟨gn, ⟨⟨lk, lh, ll, lb⟩, s, cl, ia, ti⟩⟩, HCj⟩ : ∃ x, Aside1 (cs[j] = x) := ⟨_, ⟨rfl⟩⟩
      have hok := HO.out _ (List.getElem_mem hlt)
      rw [HCj.out] at hcc hok
      have hch := fun W (hq : Quiet wr W) => tab_change W bn m1 m2 (N + j) vj Lj Ej (HTj.out.kept hq (fun _ _ h => h)) HUj.out (by omega) HSj.out ⟨gn, ⟨⟨lk, lh, ll, lb⟩, s, cl, ia, ti⟩⟩ hok
      simp only [Change.val] at hch
      have a0 := HQj.out.cell (hcc 0 (by omega)) (fun h => h)
      have a1 := HQj.out.cell (hcc 1 (by omega)) (fun h => h)
      have a2 := HQj.out.cell (hcc 2 (by omega)) (fun h => h)
      have a3 := HQj.out.cell (hcc 3 (by omega)) (fun h => h)
      have a4 := HQj.out.cell (hcc 4 (by omega)) (fun h => h)
      have a5 := HQj.out.cell (hcc 5 (by omega)) (fun h => h)
      have a6 := HQj.out.cell (hcc 6 (by omega)) (fun h => h)
      have a7 := HQj.out.cell (hcc 7 (by omega)) (fun h => h)
      have a8 := HQj.out.cell (hcc 8 (by omega)) (fun h => h)
      simp only [Nat.add_zero] at a0
      obtain ⟨er, her⟩ : ∃ x, changeE Lj ⟨gn, ⟨⟨lk, lh, ll, lb⟩, s, cl, ia, ti⟩⟩ = x := ⟨_, rfl⟩
      rw [her] at hch
      have HER := Aside1.mk her
      clear her hcc hok HX
      go_wp2_with (go_at_call 41; refine (hch _ ?_).mono ?_; ((repeat (first | exact Kept.refl _ _ | assumption | apply Kept.drew | apply Kept.drewN | apply Kept.alloc | refine Kept.setCell ?_ (fun hlt => absurd hlt (Nat.lt_irrefl _)) _ | refine Kept.andThen ?_ (by assumption) (fun _ _ h => h)))); rintro e w2 ⟨rfl, hk2, hT2⟩)
      all_goals
        have hqX : Quiet w w2 := (HQj.out.alloc _).andThen hk2 (fun i hi h => absurd (HFj.out i h) (by omega))
        have hstep := HAj.out
        rw [List.drop_eq_getElem_cons hlt, HCj.out] at hstep
        simp only [applyE, applyL, applyEnds] at hstep
        rw [HER.out] at hstep
      · rename_i hne
        have hne' : ¬ er = 0 := by simpa using hne
        rw [if_neg hne'] at hstep
        rw [← hstep.1]
        go_ret
        exact ⟨rfl, hqX.mono (fun _ h => h.elim), fun _ => hqX, fun h => absurd h hne'⟩
      · rename_i hne
        have hne' : er = 0 := by simpa using hne
        rw [if_pos hne'] at hstep
        obtain ⟨v', r1, r2⟩ := hT2 hne'
        refine ⟨⟨j + 1, v', _, _, by rw [Int.natCast_add]; rfl, hlt, ⟨r1⟩, ⟨changeL_sorted HSj.out _⟩, ⟨changeL_uniq HTj.out HUj.out (by rw [HER.out]; exact hne')⟩, ⟨hstep⟩, ⟨fun k hk => ?_⟩, ⟨hqX⟩⟩, by simp [RowKit.intOf]; omega⟩
        have hsz : w.heap.size ≤ wr.heap.size := HQj.out.size
        rcases hk with rfl | rfl | rfl | hk
        · exact HFj.out _ (.inl rfl)
        · exact HFj.out _ (.inr (.inl rfl))
        · exact HFj.out _ (.inr (.inr (.inl rfl)))
        · rcases r2 k hk with h | h
          · exact HFj.out _ (.inr (.inr (.inr h)))
          · rw [World.size_alloc] at h; omega
    · have hje : ¬ (j : Int) < (cs.length : Int) := by omega
      obtain rfl : j = cs.length := by omega
      have hdone := HAj.out
      rw [List.drop_length] at hdone
      simp only [applyE, applyL, applyEnds] at hdone
      obtain ⟨d0, d1, d2⟩ := hdone
      subst d1 d2
      obtain ⟨pE, cE, hvE⟩ := ends_shape HTj.out.ends
      subst hvE
      obtain ⟨z0, z1, z2⟩ := cell_tab HTj.out
      have hbw := (HQj.out.block bt (Array.getElem?_eq_some_iff.1 HT.out.blk).1 (fun h => h)).trans HT.out.blk
      have y0 := (cell_of hbw 0).1
      have y1 := (cell_of hbw 1).1
      have y2 := (cell_of hbw 2).1
      have f0 := (cell_of hbw 0).2
      have f1 := (cell_of hbw 1).2
      have f2 := (cell_of hbw 2).2
      simp only [List.getElem?_toArray, List.getElem?_cons_zero, List.getElem?_cons_succ] at y0 y1 y2
      clear HX hbw
      go_wp2_with fail
      go_ret
      rw [← d0]
      obtain ⟨r1, r2⟩ := apply_done HT.out HTj.out HFj.out HQj.out
      exact ⟨rfl, r2, m1, m2, _, r1, HSj.out, HUj.out, fun k hk => hk.imp id (fun h => HFj.out k (.inr h))⟩
end Go.Proofs.Ytmegbllhidkmoaa.Tb

/- A table's Of, Next. -/
namespace Go.Proofs.Ytmegbllhidkmoaa.Tb
open Go.RowKit Go.Maps Go.Shelf Go.Proofs.YtmegbllhidkmoaaW.PrintWords Go.Proofs.YtmegbllhidkmoaaW.PrintLast Go.Proofs.YtmegbllhidkmoaaW.PrintMore
set_option linter.unusedVariables false
theorem zeroKey_ok : zeroKey.ok := ⟨rfl, rfl, rfl, rfl⟩
theorem findO_some {L : List Lease} {o : Owner} {k : Key} (h : findO L o = some k) : ∃ l ∈ L, l.bound = true ∧ l.owner = o ∧ l.key = k := by
  obtain ⟨x, hx, he⟩ := List.mem_map.1 (look_some h)
  simp only [Prod.mk.injEq] at he
  obtain ⟨h1, h2⟩ := List.mem_filter.1 hx
  exact ⟨x, h1, h2, he.1, he.2⟩
theorem foundKey_ok {w : World} {bt b1 b2 N : Nat} {v : Value} {L : List Lease} {E : List End} (h : TabAt w bt b1 b2 v N L E) (o : Owner) : ((findO L o).getD zeroKey).ok := by
  cases hf : findO L o with
  | none => exact zeroKey_ok
  | some k =>
    obtain ⟨l, hl, _, _, rfl⟩ := findO_some hf
    exact (h.oks l hl).1
theorem set_eight {w : World} {b : Nat} {a0 a1 a2 a3 a4 a5 a6 a7 x0 x1 x2 x3 x4 x5 x6 x7 : Value} {t : TypeId} (h : w.heap[b]? = some (.cells #[a0, a1, a2, a3, a4, a5, a6, a7] t (0, 0))) :
    ((((((((w.setCell ⟨b, 0, none⟩ x0).setCell ⟨b, 1, none⟩ x1).setCell ⟨b, 2, none⟩ x2).setCell ⟨b, 3, none⟩ x3).setCell ⟨b, 4, none⟩ x4).setCell ⟨b, 5, none⟩ x5).setCell ⟨b, 6, none⟩ x6).setCell ⟨b, 7, none⟩ x7).heap[b]? = some (.cells #[x0, x1, x2, x3, x4, x5, x6, x7] t (0, 0)) :=
  (heap_setCell_same _ b 7 #[x0, x1, x2, x3, x4, x5, x6, a7] t x7 (heap_setCell_same _ b 6 #[x0, x1, x2, x3, x4, x5, a6, a7] t x6 (heap_setCell_same _ b 5 #[x0, x1, x2, x3, x4, a5, a6, a7] t x5 (heap_setCell_same _ b 4 #[x0, x1, x2, x3, a4, a5, a6, a7] t x4 (heap_setCell_same _ b 3 #[x0, x1, x2, a3, a4, a5, a6, a7] t x3 (heap_setCell_same _ b 2 #[x0, x1, a2, a3, a4, a5, a6, a7] t x2 (heap_setCell_same _ b 1 #[x0, a1, a2, a3, a4, a5, a6, a7] t x1 (heap_setCell_same _ b 0 #[a0, a1, a2, a3, a4, a5, a6, a7] t x0 h))))))))
set_option maxHeartbeats 1600000 in
set_option maxRecDepth 100000 in
theorem tab_of (w : World) (bt b1 b2 N : Nat) (v : Value) (L : List Lease) (E : List End) (h : TabAt w bt b1 b2 v N L E) (o : Owner) (ho : o.ok) :
    Calls Try.prog 14 #[.pointer (some ⟨bt, 0, none⟩), .int .i64 o.kind, .string o.client, .int .u32 o.iaid] w fun e w' => e = .returned (.tuple #[((findL L ((findO L o).getD zeroKey)).getD zeroLease).val, .bool (findO L o).isSome]) ∧ Quiet w w' := by
  have HT := Aside1.mk h
  have SkO : ∀ w2, Quiet w w2 → (Instr.lookup 67 (.map (some b2)) o.val true).run Try.prog w2 = .ok (.tuple #[((findO L o).getD zeroKey).val, .bool (findO L o).isSome]) w2 :=
    fun w2 hq => look_owner (h.kept hq (fun _ _ h => h)).m2 o ho
  have SkL : ∀ w2, Quiet w w2 → (Instr.lookup 66 (.map (some b1)) ((findO L o).getD zeroKey).val false).run Try.prog w2 = .ok ((findL L ((findO L o).getD zeroKey)).getD zeroLease).val w2 :=
    fun w2 hq => look_lease1 (h.kept hq (fun _ _ h => h)).m1 _ (foundKey_ok h o)
  have c1 := fun w2 (hq : Quiet w w2) => (cell_tab (h.kept hq (fun _ _ h => h))).2.1
  have c0 := fun w2 (hq : Quiet w w2) => (cell_tab (h.kept hq (fun _ _ h => h))).1
  clear h ho
  obtain ⟨f, hf⟩ : ∃ f, (findO L o).isSome = f := ⟨_, rfl⟩
  obtain ⟨r, hr⟩ : ∃ r, (findO L o).getD zeroKey = r := ⟨_, rfl⟩
  rw [hr] at SkL SkO ⊢
  obtain ⟨x, hx⟩ : ∃ x, (findL L r).getD zeroLease = x := ⟨_, rfl⟩
  rw [hf] at SkO ⊢
  rw [hx] at SkL ⊢
  clear hf hr hx
  obtain ⟨rk, rh, rl, rb⟩ := r
  obtain ⟨⟨xk, xh, xl, xb⟩, xs, xc, xi, xt⟩ := x
  obtain ⟨ok, oc, oi⟩ := o
  simp only [Lease.val, Key.val, Owner.val] at SkO SkL ⊢
  obtain ⟨wz, hwz⟩ : ∃ wz, wz = w.alloc (.cells #[.int .i64 0, .int .u64 0, .int .u64 0, .int .i64 0, .int .i64 0, .string ⟨#[]⟩, .int .u32 0, .int .i64 0] 36) := ⟨_, rfl⟩
  have qz : Quiet w wz := by rw [hwz]; exact (Kept.refl _ w).alloc _
  have hz : wz.heap[w.heap.size]? = some (.cells #[.int .i64 0, .int .u64 0, .int .u64 0, .int .i64 0, .int .i64 0, .string ⟨#[]⟩, .int .u32 0, .int .i64 0] 36 (0, 0)) := by rw [hwz]; exact heap_alloc_new _ _
  have lz : w.heap.size < wz.heap.size := by rw [hwz, World.size_alloc]; exact Nat.lt_succ_self _
  have s1 := SkO wz qz
  have d1 := c1 wz qz
  have Q4 : Quiet w (wz.alloc (.cells #[.int .i64 rk, .int .u64 rh, .int .u64 rl, .int .i64 rb] 73)).drew := (qz.alloc _).drew
  have s2 := SkL _ Q4
  have d0 : (wz.alloc (.cells #[.int .i64 rk, .int .u64 rh, .int .u64 rl, .int .i64 rb] 73)).cell? ⟨bt, 0, none⟩ = some (.map (some b1)) := c0 _ (qz.alloc _)
  have hz4 := (Below.heap_alloc wz (.cells #[.int .i64 rk, .int .u64 rh, .int .u64 rl, .int .i64 rb] 73) w.heap.size lz).trans hz
  subst hwz
  go_enter Try.func14, Try.ntmps14
  go_wp2_with fail
  have hk4 := heap_alloc_new (w.alloc (.cells #[.int .i64 0, .int .u64 0, .int .u64 0, .int .i64 0, .int .i64 0, .string ⟨#[]⟩, .int .u32 0, .int .i64 0] 36)) (.cells #[.int .i64 rk, .int .u64 rh, .int .u64 rl, .int .i64 rb] 73)
  rw [World.size_alloc] at hk4
  have Q5 : Quiet w ((w.alloc (.cells #[.int .i64 0, .int .u64 0, .int .u64 0, .int .i64 0, .int .i64 0, .string ⟨#[]⟩, .int .u32 0, .int .i64 0] 36)).alloc (.cells #[.int .i64 rk, .int .u64 rh, .int .u64 rl, .int .i64 rb] 73)) := qz.alloc _
  clear s1 d1 qz hz lz Q4 c0 c1 SkO SkL HT
  generalize (w.alloc (.cells #[.int .i64 0, .int .u64 0, .int .u64 0, .int .i64 0, .int .i64 0, .string ⟨#[]⟩, .int .u32 0, .int .i64 0] 36)).alloc (.cells #[.int .i64 rk, .int .u64 rh, .int .u64 rl, .int .i64 rb] 73) = W4 at *
  have k0 := (cell_of hk4 0).1
  have k1 := (cell_of hk4 1).1
  have k2 := (cell_of hk4 2).1
  have k3 := (cell_of hk4 3).1
  have z0 := (cell_of hz4 0).1
  have g0 := (cell_of hz4 0).2
  have z1 := (cell_of hz4 1).1
  have g1 := (cell_of hz4 1).2
  have z2 := (cell_of hz4 2).1
  have g2 := (cell_of hz4 2).2
  have z3 := (cell_of hz4 3).1
  have g3 := (cell_of hz4 3).2
  have z4 := (cell_of hz4 4).1
  have g4 := (cell_of hz4 4).2
  have z5 := (cell_of hz4 5).1
  have g5 := (cell_of hz4 5).2
  have z6 := (cell_of hz4 6).1
  have g6 := (cell_of hz4 6).2
  have z7 := (cell_of hz4 7).1
  have g7 := (cell_of hz4 7).2
  simp only [List.getElem?_toArray, List.getElem?_cons_zero, List.getElem?_cons_succ] at k0 k1 k2 k3 z0 z1 z2 z3 z4 z5 z6 z7
  have HZ := Aside1.mk hz4
  have HQ5 := Aside1.mk Q5
  clear hk4 hz4 Q5
  go_region
  all_goals go_wp2_with fail
  have h9 : ((((((((W4.setCell ⟨w.heap.size, 0, none⟩ (.int .i64 xk)).setCell ⟨w.heap.size, 1, none⟩ (.int .u64 xh)).setCell ⟨w.heap.size, 2, none⟩ (.int .u64 xl)).setCell ⟨w.heap.size, 3, none⟩ (.int .i64 xb)).setCell ⟨w.heap.size, 4, none⟩ (.int .i64 xs)).setCell ⟨w.heap.size, 5, none⟩ (.string xc)).setCell ⟨w.heap.size, 6, none⟩ (.int .u32 xi)).setCell ⟨w.heap.size, 7, none⟩ (.int .i64 xt)).heap[w.heap.size]? = some (.cells #[.int .i64 xk, .int .u64 xh, .int .u64 xl, .int .i64 xb, .int .i64 xs, .string xc, .int .u32 xi, .int .i64 xt] 36 (0, 0)) := set_eight HZ.out
  have q9 : Quiet w ((((((((W4.setCell ⟨w.heap.size, 0, none⟩ (.int .i64 xk)).setCell ⟨w.heap.size, 1, none⟩ (.int .u64 xh)).setCell ⟨w.heap.size, 2, none⟩ (.int .u64 xl)).setCell ⟨w.heap.size, 3, none⟩ (.int .i64 xb)).setCell ⟨w.heap.size, 4, none⟩ (.int .i64 xs)).setCell ⟨w.heap.size, 5, none⟩ (.string xc)).setCell ⟨w.heap.size, 6, none⟩ (.int .u32 xi)).setCell ⟨w.heap.size, 7, none⟩ (.int .i64 xt)) := ((((((((HQ5.out.setCell (p := ⟨w.heap.size, 0, none⟩) (fun h => absurd h (Nat.lt_irrefl _)) (.int .i64 xk)).setCell (p := ⟨w.heap.size, 1, none⟩) (fun h => absurd h (Nat.lt_irrefl _)) (.int .u64 xh)).setCell (p := ⟨w.heap.size, 2, none⟩) (fun h => absurd h (Nat.lt_irrefl _)) (.int .u64 xl)).setCell (p := ⟨w.heap.size, 3, none⟩) (fun h => absurd h (Nat.lt_irrefl _)) (.int .i64 xb)).setCell (p := ⟨w.heap.size, 4, none⟩) (fun h => absurd h (Nat.lt_irrefl _)) (.int .i64 xs)).setCell (p := ⟨w.heap.size, 5, none⟩) (fun h => absurd h (Nat.lt_irrefl _)) (.string xc)).setCell (p := ⟨w.heap.size, 6, none⟩) (fun h => absurd h (Nat.lt_irrefl _)) (.int .u32 xi)).setCell (p := ⟨w.heap.size, 7, none⟩) (fun h => absurd h (Nat.lt_irrefl _)) (.int .i64 xt))
  generalize ((((((((W4.setCell ⟨w.heap.size, 0, none⟩ (.int .i64 xk)).setCell ⟨w.heap.size, 1, none⟩ (.int .u64 xh)).setCell ⟨w.heap.size, 2, none⟩ (.int .u64 xl)).setCell ⟨w.heap.size, 3, none⟩ (.int .i64 xb)).setCell ⟨w.heap.size, 4, none⟩ (.int .i64 xs)).setCell ⟨w.heap.size, 5, none⟩ (.string xc)).setCell ⟨w.heap.size, 6, none⟩ (.int .u32 xi)).setCell ⟨w.heap.size, 7, none⟩ (.int .i64 xt)) = W9 at *
  have e0 := (cell_of h9 0).1
  have e1 := (cell_of h9 1).1
  have e2 := (cell_of h9 2).1
  have e3 := (cell_of h9 3).1
  have e4 := (cell_of h9 4).1
  have e5 := (cell_of h9 5).1
  have e6 := (cell_of h9 6).1
  have e7 := (cell_of h9 7).1
  simp only [List.getElem?_toArray, List.getElem?_cons_zero, List.getElem?_cons_succ] at e0 e1 e2 e3 e4 e5 e6 e7
  refine bodyPost_ret (v := .tuple #[.agg #[.int .i64 xk, .int .u64 xh, .int .u64 xl, .int .i64 xb, .int .i64 xs, .string xc, .int .u32 xi, .int .i64 xt], .bool f]) (by simp [results, Try.results14, go_sem, e0, e1, e2, e3, e4, e5, e6, e7]) rfl ⟨rfl, q9.drew⟩
end Go.Proofs.Ytmegbllhidkmoaa.Tb

/- A table's Next. -/
namespace Go.Proofs.Ytmegbllhidkmoaa.Tb
open Go.RowKit Go.Maps Go.Shelf Go.Proofs.YtmegbllhidkmoaaW.PrintWords Go.Proofs.YtmegbllhidkmoaaW.PrintLast Go.Proofs.YtmegbllhidkmoaaW.PrintMore
set_option linter.unusedVariables false
def nextHit (L : List Lease) (e : End) : Bool := (findL L e.key).isSome && decide (((findL L e.key).getD zeroLease).till = e.till)
def nextR : Nat → List Lease → List End → Int × Bool
  | 0, _, _ => (0, false)
  | n + 1, L, E => match E with
    | [] => (0, false)
    | e :: E' => if nextHit L e then (e.till, true) else nextR n L (popped (e :: E'))
def nextE : Nat → List Lease → List End → List End
  | 0, _, E => E
  | n + 1, L, E => match E with
    | [] => []
    | e :: E' => if nextHit L e then e :: E' else nextE n L (popped (e :: E'))
theorem siftDown_len (E : List End) (i n : Nat) : (siftDown E i n).length = E.length := by
  induction h : n - i using Nat.strongRecOn generalizing E i with
  | _ m ih =>
    rw [siftDown]
    split
    · rfl
    · split
      · rw [ih _ ?_ _ _ rfl, swapE_len]
        have : child E i n > i := by unfold child; split <;> omega
        omega
      · rfl
theorem popped_len (E : List End) : (popped E).length = E.length - 1 := by
  unfold popped
  rw [List.length_dropLast, siftDown_len, swapE_len]
theorem swapE_mem {E : List End} {i j : Nat} (hi : i < E.length) (hj : j < E.length) {e : End} (h : e ∈ swapE E i j) : e ∈ E := by
  rw [swapE_eq hi hj] at h
  rcases List.mem_or_eq_of_mem_set h with h | h
  · rcases List.mem_or_eq_of_mem_set h with h | h
    · exact h
    · rw [h]; exact List.getElem_mem hj
  · rw [h]; exact List.getElem_mem hi
theorem siftDown_mem (E : List End) (i n : Nat) (hn : n ≤ E.length) {e : End} (h : e ∈ siftDown E i n) : e ∈ E := by
  induction hm : n - i using Nat.strongRecOn generalizing E i with
  | _ m ih =>
    rw [siftDown] at h
    split at h
    · exact h
    · split at h
      · have hc : child E i n > i := by unfold child; split <;> omega
        have hc2 : child E i n < n := by unfold child; split <;> omega
        exact swapE_mem (by omega) (by omega) (ih _ (by omega) (swapE E i (child E i n)) (child E i n) (by rw [swapE_len]; exact hn) h rfl)
      · exact h
theorem popped_mem {E : List End} {e : End} (h : e ∈ popped E) : e ∈ E := by
  unfold popped at h
  have h1 := List.dropLast_subset _ h
  cases E with
  | nil =>
    have := siftDown_mem _ _ _ (by simp [swapE_len]) h1
    simp [swapE] at this
  | cons a E =>
    have := siftDown_mem _ _ _ (by rw [swapE_len]; simp) h1
    exact swapE_mem (by simp) (by simp) this
theorem tab_popped {w w' : World} {bt b1 b2 N : Nat} {v v' : Value} {L : List Lease} {E : List End} (h : TabAt w bt b1 b2 v N L E) (hH : HeapAt w' bt #[.map (some b1), .map (some b2), v] 71 v' (popped E)) (ho : v'.ownBlock = v.ownBlock) (hk : Kept (fun k => k = bt ∨ v.ownBlock = some k) w w') : TabAt w' bt b1 b2 v' N L (popped E) := by
  refine ⟨?_, h.m1.block (hk.block b1 h.m1.lt ?_), h.m2.block (hk.block b2 h.m2.lt ?_), hH.ends, ?_, h.n12, by rw [ho]; exact h.v1, by rw [ho]; exact h.v2, hH.ne, h.oks⟩
  · have := hH.blk
    simpa using this
  · rintro (e | e)
    · exact h.ne1 e.symm
    · exact h.v1 e
  · rintro (e | e)
    · exact h.ne2 e.symm
    · exact h.v2 e
  · rw [popped_len]; have := h.len; omega
theorem tab_heap {w : World} {bt b1 b2 N : Nat} {v : Value} {L : List Lease} {E : List End} (h : TabAt w bt b1 b2 v N L E) : HeapAt w bt #[.map (some b1), .map (some b2), v] 71 v E := ⟨h.blk, by simp, h.ends, h.vt⟩
set_option maxHeartbeats 3200000 in
set_option maxRecDepth 100000 in
theorem tab_next (w : World) (bt b1 b2 N : Nat) (v : Value) (L : List Lease) (E : List End) (h : TabAt w bt b1 b2 v N L E) (hN : N ≤ 1000000000) (hE : ∀ e ∈ E, e.key.ok) :
    Calls Try.prog 19 #[.pointer (some ⟨bt, 0, none⟩)] w fun e w' => e = .returned (.tuple #[.int .i64 (nextR E.length L E).1, .bool (nextR E.length L E).2]) ∧ ∃ v', TabAt w' bt b1 b2 v' N L (nextE E.length L E) ∧ v'.ownBlock = v.ownBlock ∧ Kept (fun k => k = bt ∨ v.ownBlock = some k) w w' := by
  have HT := Aside1.mk h
  have HE := Aside1.mk hE
  clear h hE
  go_enter Try.func19, Try.ntmps19
  go_wp2_with fail
  go_loopw [4] (fun _ wr => ∃ (vj : Value) (Ej : List End), Aside1 (TabAt wr bt b1 b2 vj N L Ej) ∧ Aside1 (∀ e ∈ Ej, e.key.ok) ∧ Aside1 (nextR Ej.length L Ej = nextR E.length L E ∧ nextE Ej.length L Ej = nextE E.length L E) ∧ Aside1 (vj.ownBlock = v.ownBlock) ∧ Aside1 (Kept (fun k => k = bt ∨ v.ownBlock = some k) w wr)) (fun _ wr => match wr.cell? ⟨bt, 2, none⟩ with | some (.slice _ n _) => n | _ => 0)
  case atStart => exact ⟨v, E, HT, HE, ⟨rfl, rfl⟩, ⟨rfl⟩, ⟨Kept.refl _ _⟩⟩
  case round =>
    obtain ⟨vj, Ej, HTj, HEj, HNj, HOj, HKj⟩ := hrel
    obtain ⟨pE, cE, hvE⟩ := ends_shape HTj.out.ends
    subst hvE
    have c2 := (cell_tab HTj.out).2.2
    have c0 := (cell_tab HTj.out).1
    cases Ej with
    | nil =>
      simp only [List.length_nil] at c2
      go_wp2_with fail
      have hn := HNj.out
      simp only [List.length_nil, nextR, nextE] at hn
      refine bodyPost_ret (v := .tuple #[.int .i64 0, .bool false]) (by simp [results, Try.results19, go_sem]) rfl ⟨by rw [← hn.1], _, by rw [← hn.2]; exact HTj.out, HOj.out, HKj.out⟩
    | cons top Ej =>
      obtain ⟨g, cap, hv, hn, hm, hcell⟩ := ends_cell HTj.out.ends 0 (by simp)
      simp only [Value.slice.injEq] at hv
      obtain ⟨rfl, _, rfl⟩ := hv
      obtain ⟨et, ⟨ek, eh, el, eb⟩⟩ := top
      have a0 := (hcell 0 (by omega)).1
      have a1 := (hcell 1 (by omega)).1
      have a2 := (hcell 2 (by omega)).1
      have a3 := (hcell 3 (by omega)).1
      have a4 := (hcell 4 (by omega)).1
      simp only [End.cells, List.getElem_cons_zero, List.getElem?_cons_zero, List.getElem?_cons_succ, Nat.zero_mul, Nat.zero_add] at a0 a1 a2 a3 a4
      have hkok : Key.ok ⟨ek, eh, el, eb⟩ := HEj.out _ List.mem_cons_self
      obtain ⟨r, hr⟩ : ∃ r, (findL L ⟨ek, eh, el, eb⟩).getD zeroLease = r := ⟨_, rfl⟩
      obtain ⟨fok, hf⟩ : ∃ f, (findL L ⟨ek, eh, el, eb⟩).isSome = f := ⟨_, rfl⟩
      have SkL : ∀ w2, Quiet wr w2 → (Instr.lookup 66 (.map (some b1)) (Key.val ⟨ek, eh, el, eb⟩) true).run Try.prog w2 = .ok (.tuple #[r.val, .bool fok]) w2 :=
        fun w2 hq => by rw [← hr, ← hf]; exact look_lease (HTj.out.kept hq (fun _ _ h => h)).m1 _ hkok
      obtain ⟨⟨fk, fh, fl, fb⟩, fs, fc, fi, ft⟩ := r
      have HHit := Aside1.mk (show nextHit L ⟨et, ⟨ek, eh, el, eb⟩⟩ = (fok && decide (ft = et)) by unfold nextHit; simp only; rw [hr, hf])
      simp only [Lease.val, Key.val] at SkL
      clear hr hf hcell hkok
      simp only [List.length_cons] at c2 hn
      have hpos : (0 : Int) < ((Ej.length + 1 : Nat) : Int) := by omega
      have hcap : (0 : Int) < (cE : Int) := by omega
      go_upto_region 3 with fail
      have HQ2 := Aside1.mk ((Kept.refl (fun _ => False) wr).alloc (.cells #[.int .i64 et, .int .i64 ek, .int .u64 eh, .int .u64 el, .int .i64 eb] 80))
      have HB2 := Aside1.mk (heap_alloc_new wr (.cells #[.int .i64 et, .int .i64 ek, .int .u64 eh, .int .u64 el, .int .i64 eb] 80))
      obtain ⟨tx, htx⟩ : ∃ tx, wr.heap.size = tx := ⟨_, rfl⟩
      rw [htx] at HB2 ⊢
      clear a0 a1 a2 a3 a4
      generalize wr.alloc (.cells #[.int .i64 et, .int .i64 ek, .int .u64 eh, .int .u64 el, .int .i64 eb] 80) = W2 at *
      have HS : Aside1 (∀ w', Quiet W2 w' → (w'.cell? ⟨bt, 0, none⟩ = some (.map (some b1)) ∧ w'.cell? ⟨tx, 1, none⟩ = some (.int .i64 ek) ∧ w'.cell? ⟨tx, 2, none⟩ = some (.int .u64 eh) ∧ w'.cell? ⟨tx, 3, none⟩ = some (.int .u64 el) ∧ w'.cell? ⟨tx, 4, none⟩ = some (.int .i64 eb) ∧ (Instr.lookup 66 (.map (some b1)) (.agg #[.int .i64 ek, .int .u64 eh, .int .u64 el, .int .i64 eb]) true).run Try.prog w' = .ok (.tuple #[.agg #[.int .i64 fk, .int .u64 fh, .int .u64 fl, .int .i64 fb, .int .i64 fs, .string fc, .int .u32 fi, .int .i64 ft], .bool fok]) w')) := ⟨fun w' hq => ⟨(HQ2.out.andThen hq (fun _ _ h => h)).cell c0 (fun h => h), hq.cell (cell_of HB2.out 1).1 (fun h => h), hq.cell (cell_of HB2.out 2).1 (fun h => h), hq.cell (cell_of HB2.out 3).1 (fun h => h), hq.cell (cell_of HB2.out 4).1 (fun h => h), SkL w' (HQ2.out.andThen hq (fun _ _ h => h))⟩⟩
      clear SkL
      go_cut [5, 6] (fun v5 v6 wz => ∃ lx : Nat, v5 = .pointer (some ⟨lx, 0, none⟩) ∧ v6 = .bool fok ∧ Aside1 (wz.heap[lx]? = some (.cells #[.int .i64 fk, .int .u64 fh, .int .u64 fl, .int .i64 fb, .int .i64 fs, .string fc, .int .u32 fi, .int .i64 ft] 36 (0, 0))) ∧ Aside1 (Quiet W2 wz))
      case first =>
        go_region_held3 (fun w' => w'.cell? ⟨bt, 0, none⟩ = some (.map (some b1)) ∧ w'.cell? ⟨tx, 1, none⟩ = some (.int .i64 ek) ∧ w'.cell? ⟨tx, 2, none⟩ = some (.int .u64 eh) ∧ w'.cell? ⟨tx, 3, none⟩ = some (.int .u64 el) ∧ w'.cell? ⟨tx, 4, none⟩ = some (.int .i64 eb) ∧ (Instr.lookup 66 (.map (some b1)) (.agg #[.int .i64 ek, .int .u64 eh, .int .u64 el, .int .i64 eb]) true).run Try.prog w' = .ok (.tuple #[.agg #[.int .i64 fk, .int .u64 fh, .int .u64 fl, .int .i64 fb, .int .i64 fs, .string fc, .int .u32 fi, .int .i64 ft], .bool fok]) w') ((refine HS.out _ ?_; (repeat (first | exact Kept.refl _ _ | assumption | apply Kept.drew | apply Kept.drewN | apply Kept.alloc | refine Kept.setCell ?_ (fun hlt => absurd hlt (Nat.lt_irrefl _)) _ | refine Kept.andThen ?_ (by assumption) (fun _ _ h => h))))) (fail)
        all_goals go_wp2_with fail
        all_goals go_meet
        all_goals exact ⟨_, rfl, rfl, ⟨heap_alloc_new _ _⟩, ⟨by (repeat (first | exact Kept.refl _ _ | assumption | apply Kept.drew | apply Kept.drewN | apply Kept.alloc | refine Kept.setCell ?_ (fun hlt => absurd hlt (Nat.lt_irrefl _)) _ | refine Kept.andThen ?_ (by assumption) (fun _ _ h => h)))⟩⟩
      case rest =>
        obtain ⟨lx, rfl, rfl, HBl, HQz⟩ := hcut
        have HQw := Aside1.mk (HQ2.out.andThen HQz.out (fun _ _ h => h))
        have HTw := Aside1.mk (HTj.out.kept HQw.out (fun _ _ h => h))
        have hbt := (HQz.out.block tx (Array.getElem?_eq_some_iff.1 HB2.out).1 (fun h => h)).trans HB2.out
        have e0 := (cell_of hbt 0).1
        have l7 := (cell_of HBl.out 7).1
        simp only [List.getElem?_toArray, List.getElem?_cons_zero, List.getElem?_cons_succ] at e0 l7
        have HKw := Aside1.mk (HKj.out.andThen HQw.out (fun _ _ h => h.elim))
        clear hbt HS HQ2 HB2 HQz HBl c0
        have hout := HNj.out
        simp only [List.length_cons, nextR, nextE] at hout
        rw [HHit.out] at hout
        by_cases hit : (fok && decide (ft = et)) = true
        · rw [if_pos hit, if_pos hit] at hout
          have HOUT := Aside1.mk hout
          clear hout
          simp only [Bool.and_eq_true, decide_eq_true_eq] at hit
          obtain ⟨h1, h2⟩ := hit
          subst h1 h2
          go_wp2_with fail
          refine bodyPost_ret (v := .tuple #[.int .i64 ft, .bool true]) (by simp [results, Try.results19, go_sem]) rfl ⟨by rw [← HOUT.out.1], _, by rw [← HOUT.out.2]; exact HTw.out, HOj.out, HKw.out⟩
        · rw [if_neg hit, if_neg hit] at hout
          have HOUT := Aside1.mk hout
          have hpl : (popped (⟨et, ⟨ek, eh, el, eb⟩⟩ :: Ej)).length = Ej.length := by rw [popped_len]; simp
          have hpop := heap_pop wc bt #[.map (some b1), .map (some b2), .slice (some ⟨g, 0, none⟩) (Ej.length + 1) cE] 71 (.slice (some ⟨g, 0, none⟩) (Ej.length + 1) cE) (⟨et, ⟨ek, eh, el, eb⟩⟩ :: Ej) (tab_heap HTw.out) (by simp) (Nat.le_trans HTw.out.len hN)
          have HPL := Aside1.mk hpl
          have hcond : fok = false ∨ ¬ ft = et := by
            cases fok
            · exact .inl rfl
            · exact .inr (fun e => hit (by simp [e]))
          have hc2 : wr.cell? ⟨bt, 2, none⟩ = some (.slice (some ⟨g, 0, none⟩) (Ej.length + 1) cE) := c2
          have HC2 := Aside1.mk hc2
          clear hout hpl hit c2 hc2
          rcases hcond with rfl | hne
          · go_wp2_with (go_at_call 37; refine hpop.mono ?_; rintro e w3 ⟨⟨x, rfl⟩, v3, hH3, ho3, hk3⟩)
            all_goals
              have hT3 := tab_popped HTw.out hH3 ho3 hk3
              have c3 := (cell_tab hT3).2.2
              obtain ⟨p3, d3, hv3⟩ := ends_shape hT3.ends
              subst hv3
              refine ⟨⟨_, _, ⟨hT3⟩, ⟨fun e he => HEj.out e (popped_mem he)⟩, ⟨by rw [HPL.out]; exact HOUT.out⟩, ⟨ho3.trans HOj.out⟩, ⟨HKw.out.andThen hk3 (fun _ _ h => h.imp id (fun h => HOj.out.symm.trans h))⟩⟩, ?_⟩
              rw [c3, HC2.out]
              simp only [HPL.out]
              omega
          · go_wp2_with (go_at_call 37; refine hpop.mono ?_; rintro e w3 ⟨⟨x, rfl⟩, v3, hH3, ho3, hk3⟩)
            all_goals
              have hT3 := tab_popped HTw.out hH3 ho3 hk3
              have c3 := (cell_tab hT3).2.2
              obtain ⟨p3, d3, hv3⟩ := ends_shape hT3.ends
              subst hv3
              refine ⟨⟨_, _, ⟨hT3⟩, ⟨fun e he => HEj.out e (popped_mem he)⟩, ⟨by rw [HPL.out]; exact HOUT.out⟩, ⟨ho3.trans HOj.out⟩, ⟨HKw.out.andThen hk3 (fun _ _ h => h.imp id (fun h => HOj.out.symm.trans h))⟩⟩, ?_⟩
              rw [c3, HC2.out]
              simp only [HPL.out]
              omega
end Go.Proofs.Ytmegbllhidkmoaa.Tb

/- Due, where few leases have ended. -/
namespace Go.Proofs.Ytmegbllhidkmoaa.Tb
open Go.RowKit Go.Maps Go.Shelf Go.Sort
set_option linter.unusedVariables false
def cmpT (a b : Lease) : Int := cmpI a.till b.till
set_option maxRecDepth 100000 in
theorem due_compare (w : World) (a b : Lease) : Calls Try.prog 36 #[a.val, b.val] w fun e w' => e = .returned (.int .i64 (cmpT a b)) ∧ Grows w w' := by
  obtain ⟨⟨k, h, l, n⟩, s, c, i, t⟩ := a
  obtain ⟨⟨k', h', l', n'⟩, s', c', i', t'⟩ := b
  simp only [Lease.val]
  go_enter Try.func36, Try.ntmps36
  go_wp2_with (go_at_call 29; refine (compare_i _ _ _).mono ?_; rintro e w' ⟨rfl, rfl⟩)
  go_ret
  exact ⟨rfl, ((Grows.refl w).alloc _).alloc _⟩
set_option maxRecDepth 100000 in
theorem due_fn (w : World) (l : Lease) (x : Nat) (q : Int) (ha : w.cell? ⟨x, 0, none⟩ = some (.int .i64 q)) : Calls Try.prog 34 #[l.val, .pointer (some ⟨x, 0, none⟩)] w fun e w' => e = .returned (.bool (decide (l.till ≤ q))) ∧ Quiet w w' := by
  obtain ⟨⟨k, h, lo, b⟩, s, c, i, t⟩ := l
  have hx := World.block_lt_of_cell? w _ ha
  have hne : ¬ x = w.heap.size := by simp at hx; omega
  simp only [Lease.val]
  go_enter Try.func34, Try.ntmps34
  go_wp2_with fail
  all_goals
    go_ret
    exact ⟨by simp [*], (Kept.refl _ w).alloc _⟩
theorem cmpT_swo : SWO (ltOf cmpT) := by
  refine ⟨fun x => ?_, fun x y z => ?_, fun x y z => ?_⟩
  · simp only [ltOf, cmpT, decide_eq_false_iff_not, cmpI_neg]; omega
  · simp only [ltOf, cmpT, decide_eq_true_eq, cmpI_neg]; omega
  · simp only [ltOf, cmpT, decide_eq_false_iff_not, cmpI_neg]; omega
set_option maxHeartbeats 800000 in
set_option maxRecDepth 100000 in
theorem stable_small (w : World) (B : Nat) (v : Value) (R : List Lease) (h : LeasesIs w B v R) (h0 : 0 < R.length) (hlen : R.length < 20) :
    Calls Try.prog 35 #[v, .func (.func 36) #[] #[]] w fun e w' => e = .returned (.tuple #[]) ∧ LeasesIs w' B v (Sort.insertionSort (ltOf cmpT) R.toArray 0 R.length).toList ∧ Kept (fun i => v.ownBlock = some i) w w' := by
  have h' := h
  obtain ⟨h1, h2⟩ := h'
  rcases h2 with ⟨hv, h0'⟩ | ⟨g, cap, cur, rfl, hg, hh, hn, hm, hc, ht⟩
  · omega
  · have lg : g < w.heap.size := (Array.getElem?_eq_some_iff.1 hh).1
    have hH : HoldsK Lease.cells 8 w g 0 R.toArray := by
      intro j hj
      rw [size_flatK, List.size_toArray] at hj
      rw [Nat.zero_add]
      have h3 := flat_at Lease.cells 8 (by omega) lcells R j hj
      rw [← ht, List.getElem?_take_of_lt hj, Array.getElem?_toList] at h3
      constructor
      · simp [World.cell?, hh, h3]
      · simp [World.frozen?, hh]
    have hcmp : CmpLays Try.prog 36 #[] Lease.cells 8 cmpT g 0 R.toArray.size w := by
      intro m os dk hdk x y
      refine (due_compare _ x y).mono ?_
      rintro e w' ⟨rfl, q, os', hw⟩
      exact ⟨rfl, q, os', hw⟩
    have hL : SlLaysF0.n20 Try.prog Try.sortLease_ren := { Try.sortLease with }
    have hsort : Calls Try.prog 62 #[.slice (some ⟨g, 0, none⟩) R.length cap, .int .i64 0, .int .i64 (R.length : Int), .func (.func 36) #[] #[]] w fun e w' => e = .returned (.tuple #[]) ∧ ∃ n os, w' = sortWorldK Lease.cells 8 w g 0 n (Sort.insertionSort (ltOf cmpT) R.toArray 0 R.length) os := AnyQ.insertionSortCmpFunc hL 8 Try.isAgg36 Try.sizeOf36 Lease.cells lcells lone cmpT 36 #[] g 0 cap 0 R.length R.toArray w (enters_of Try.func36 (by kernel_rfl) rfl) hcmp hH lg (Nat.zero_le _) (by simp) (by simp; omega)
    have hsz : (Sort.insertionSort (ltOf cmpT) R.toArray 0 R.length).size = R.length := by
      have := (insertionSort_holds cmpT_swo R.toArray 0 R.length (Nat.zero_le _) (by simp)).1.1
      rw [this, List.size_toArray]
    have hst : Calls Try.prog 49 #[.slice (some ⟨g, 0, none⟩) R.length cap, .int .i64 (R.length : Int), .func (.func 36) #[] #[]] w fun e w' => e = .returned (.tuple #[]) ∧ ∃ n os, w' = sortWorldK Lease.cells 8 w g 0 n (Sort.insertionSort (ltOf cmpT) R.toArray 0 R.length) os := by
      have H := Aside1.mk hsort
      have hl20 : ¬ (20 : Int) ≤ (R.length : Int) := by omega
      have hl20' : ¬ (20 : Int) < (R.length : Int) := by omega
      clear hsort hH hcmp hL hsz h h1 ht hh
      go_enter Try.func49, Try.ntmps49
      go_wp2_with fail
      refine wp_loop_rounds 1 ?_
      rw [rounds_succ]
      go_wp2_with (go_at_call 62; refine H.out.mono ?_; rintro e w' ⟨rfl, n, os, rfl⟩)
      refine wp_loop_rounds 1 ?_
      rw [rounds_succ]
      go_wp2_with fail
      go_end0
      exact ⟨rfl, n, os, rfl⟩
    have H := Aside1.mk hst
    have HB := Aside1.mk h
    clear hst hsort hH hcmp hL h h1 ht hh
    go_enter Try.func35, Try.ntmps35
    go_wp2_with (go_at_call 49; refine H.out.mono ?_; rintro e w' ⟨rfl, n, os, rfl⟩)
    go_end0
    obtain ⟨r1, r2⟩ := sort_done (n := n) (os := os) HB.out h0 hsz
    exact ⟨rfl, r1, r2.mono (fun k hk => by rw [hk]; rfl)⟩
set_option maxHeartbeats 800000 in
set_option maxRecDepth 100000 in
theorem tab_due_small (w : World) (bt b1 b2 N : Nat) (v : Value) (L : List Lease) (E : List End) (h : TabAt w bt b1 b2 v N L E) (hN : N ≤ 1000000000) (hs : Sorted L) (q : Int) (R : List Lease) (hR : L.filter (fun l => decide (l.till ≤ q)) = R) (h0 : 0 < R.length) (h20 : R.length < 20) :
    Calls Try.prog 18 #[.pointer (some ⟨bt, 0, none⟩), .int .i64 q] w fun e w' => ∃ v', e = .returned v' ∧ LeasesIs w' w.heap.size v' (Sort.insertionSort (ltOf cmpT) R.toArray 0 R.length).toList ∧ Quiet w w' := by
  have hp := fun W (hT : TabAt W bt b1 b2 v N L E) (hc : W.cell? ⟨w.heap.size, 0, none⟩ = some (.int .i64 q)) => picked_sorted W bt b1 b2 N v L E hT hN hs 34 #[.pointer (some ⟨w.heap.size, 0, none⟩)] (fun l => decide (l.till ≤ q)) (enters_of Try.func34 (by kernel_rfl) rfl) (fun W' l _ hq => due_fn W' l w.heap.size q (hq.cell hc (fun h => h)))
  rw [hR] at hp
  have HT := Aside1.mk (h.kept ((Kept.refl (fun _ => False) w).alloc (.cells #[.int .i64 q] 3)) (fun _ _ h => h))
  have hc : (w.alloc (.cells #[.int .i64 q] 3)).cell? ⟨w.heap.size, 0, none⟩ = some (.int .i64 q) := (cell_of (heap_alloc_new w _) 0).1
  clear h hR
  go_enter Try.func18, Try.ntmps18
  go_wp2_with (first
    | (go_at_call 25; refine (hp _ HT.out hc).mono ?_; rintro e w1 ⟨v', rfl, hl, hq⟩; have HL := Aside1.mk hl; have HQ := Aside1.mk hq; clear hl hq)
    | (go_at_call 35; refine (stable_small _ _ _ R HL.out h0 h20).mono ?_; rintro e w2 ⟨rfl, hl2, hk2⟩))
  go_ret
  refine ⟨v', rfl, hl2.mono (by rw [World.size_alloc]; exact Nat.le_succ _), (((Kept.refl (fun _ => False) w).alloc _).andThen HQ.out (fun _ _ h => h)).andThen hk2 (fun i hi h => ?_)⟩
  have := (HL.out.lt h).1
  rw [World.size_alloc] at this
  omega
end Go.Proofs.Ytmegbllhidkmoaa.Tb

/- The laws' small functions: same, host. -/
namespace Go.Proofs.Ytmegbllhidkmoaa.Tb
open Go.RowKit Go.Maps Go.Shelf Go.Proofs.YtmegbllhidkmoaaW.PrintWords Go.Proofs.YtmegbllhidkmoaaW.PrintLast Go.Proofs.YtmegbllhidkmoaaW.PrintMore
set_option linter.unusedVariables false
attribute [local go_sem high] eqA36
theorem lease_eq (xk xh xl xb xs : Int) (xc : ByteArray) (xi xt yk yh yl yb ys : Int) (yc : ByteArray) (yi yt : Int) :
    (xk == yk && (((xh == yh && (xl == yl)) && (xb == yb)) && (xs == ys && (xc.toList == yc.toList && (xi == yi && (xt == yt)))))) = decide ((⟨⟨xk, xh, xl, xb⟩, xs, xc, xi, xt⟩ : Lease) = ⟨⟨yk, yh, yl, yb⟩, ys, yc, yi, yt⟩) := by
  rw [bytes_eq, Bool.eq_iff_iff, decide_eq_true_eq]
  simp only [Bool.and_eq_true, beq_iff_eq, decide_eq_true_eq, Lease.mk.injEq, Key.mk.injEq, and_assoc]
set_option maxHeartbeats 1600000 in
set_option maxRecDepth 100000 in
theorem same_run (w : World) (B B' : Nat) (a b : Value) (R R' : List Lease) (ha : LeasesIs w B a R) (hb : LeasesIs w B' b R') :
    Calls Try.prog 15 #[a, b] w fun e w' => e = .returned (.bool (decide (R = R'))) ∧ Quiet w w' := by
  obtain ⟨pa, ca, rfl⟩ := leases_shape ha
  obtain ⟨pb, cb, rfl⟩ := leases_shape hb
  have HA := Aside1.mk ha
  have HB := Aside1.mk hb
  clear ha hb
  by_cases hlen : R.length = R'.length
  · have hlen' : (R.length : Int) = (R'.length : Int) := by rw [hlen]
    go_enter Try.func15, Try.ntmps15
    go_wp2_with fail
    go_loopw [5] (fun v5 wr => ∃ j : Nat, v5 = .int .i64 j ∧ j ≤ R.length ∧ Aside1 (R.take j = R'.take j) ∧ Aside1 (Quiet w wr)) (fun v5 _ => R.length - (RowKit.intOf v5).toNat)
    case atStart => exact ⟨0, rfl, Nat.zero_le _, ⟨rfl⟩, ⟨Kept.refl _ _⟩⟩
    case round =>
      obtain ⟨j, rfl, hj, HJ, HQ⟩ := hrel
      by_cases hlt : j < R.length
      · have hlt' : j < R'.length := by omega
        have hi : (j : Int) < (R.length : Int) := by omega
        have hi' : (j : Int) < (R'.length : Int) := by omega
        obtain ⟨g, cap, hv, hn, hm, hcell⟩ := leases_cell (HA.out.old HQ.out (fun _ _ h => h)) j hlt
        obtain ⟨g', cap', hv', hn', hm', hcell'⟩ := leases_cell (HB.out.old HQ.out (fun _ _ h => h)) j hlt'
        simp only [Value.slice.injEq] at hv hv'
        obtain ⟨rfl, _, rfl⟩ := hv
        obtain ⟨rfl, _, rfl⟩ := hv'
        obtain ⟨⟨⟨xk, xh, xl, xb⟩, xs, xc, xi, xt⟩, HX⟩ : ∃ x, Aside1 (R[j] = x) := ⟨_, ⟨rfl⟩⟩
        obtain ⟨⟨⟨yk, yh, yl, yb⟩, ys, yc, yi, yt⟩, HY⟩ : ∃ x, Aside1 (R'[j] = x) := ⟨_, ⟨rfl⟩⟩
        rw [HX.out] at hcell
        rw [HY.out] at hcell'
        have a0 := (hcell 0 (by omega)).1
        have b0 := (hcell' 0 (by omega)).1
        have a1 := (hcell 1 (by omega)).1
        have b1 := (hcell' 1 (by omega)).1
        have a2 := (hcell 2 (by omega)).1
        have b2 := (hcell' 2 (by omega)).1
        have a3 := (hcell 3 (by omega)).1
        have b3 := (hcell' 3 (by omega)).1
        have a4 := (hcell 4 (by omega)).1
        have b4 := (hcell' 4 (by omega)).1
        have a5 := (hcell 5 (by omega)).1
        have b5 := (hcell' 5 (by omega)).1
        have a6 := (hcell 6 (by omega)).1
        have b6 := (hcell' 6 (by omega)).1
        have a7 := (hcell 7 (by omega)).1
        have b7 := (hcell' 7 (by omega)).1
        simp only [Lease.cells, List.getElem?_cons_zero, List.getElem?_cons_succ, Nat.add_zero] at a0 a1 a2 a3 a4 a5 a6 a7 b0 b1 b2 b3 b4 b5 b6 b7
        have hle := lease_eq xk xh xl xb xs xc xi xt yk yh yl yb ys yc yi yt
        by_cases hxy : (⟨⟨xk, xh, xl, xb⟩, xs, xc, xi, xt⟩ : Lease) = ⟨⟨yk, yh, yl, yb⟩, ys, yc, yi, yt⟩
        · rw [decide_eq_true hxy] at hle
          have HJ2 : Aside1 (R.take (j + 1) = R'.take (j + 1)) := ⟨by rw [List.take_succ_eq_append_getElem hlt, List.take_succ_eq_append_getElem hlt', HJ.out, HX.out, HY.out, hxy]⟩
          clear hxy hcell hcell'
          go_wp2_with fail
          go_region_held3 (fun w' => w'.cell? ⟨g, j * 8, none⟩ = some (.int .i64 xk) ∧ w'.cell? ⟨g, j * 8 + 1, none⟩ = some (.int .u64 xh) ∧ w'.cell? ⟨g, j * 8 + 2, none⟩ = some (.int .u64 xl) ∧ w'.cell? ⟨g, j * 8 + 3, none⟩ = some (.int .i64 xb) ∧ w'.cell? ⟨g, j * 8 + 4, none⟩ = some (.int .i64 xs) ∧ w'.cell? ⟨g, j * 8 + 5, none⟩ = some (.string xc) ∧ w'.cell? ⟨g, j * 8 + 6, none⟩ = some (.int .u32 xi) ∧ w'.cell? ⟨g, j * 8 + 7, none⟩ = some (.int .i64 xt) ∧ w'.cell? ⟨g', j * 8, none⟩ = some (.int .i64 yk) ∧ w'.cell? ⟨g', j * 8 + 1, none⟩ = some (.int .u64 yh) ∧ w'.cell? ⟨g', j * 8 + 2, none⟩ = some (.int .u64 yl) ∧ w'.cell? ⟨g', j * 8 + 3, none⟩ = some (.int .i64 yb) ∧ w'.cell? ⟨g', j * 8 + 4, none⟩ = some (.int .i64 ys) ∧ w'.cell? ⟨g', j * 8 + 5, none⟩ = some (.string yc) ∧ w'.cell? ⟨g', j * 8 + 6, none⟩ = some (.int .u32 yi) ∧ w'.cell? ⟨g', j * 8 + 7, none⟩ = some (.int .i64 yt)) (go_keep) (fail)
          all_goals go_wp2_with fail
          rw [wrap_next (by unfold maxLen at hm; omega)]
          exact ⟨⟨j + 1, rfl, hlt, HJ2, ⟨HQ.out.drew⟩⟩, by simp [RowKit.intOf]; omega⟩
        · rw [decide_eq_false hxy] at hle
          have hne : R ≠ R' := fun e => hxy (by rw [← HX.out, ← HY.out]; simp [e])
          have HN := Aside1.mk hne
          clear hxy hcell hcell' hne
          go_wp2_with fail
          go_region_held3 (fun w' => w'.cell? ⟨g, j * 8, none⟩ = some (.int .i64 xk) ∧ w'.cell? ⟨g, j * 8 + 1, none⟩ = some (.int .u64 xh) ∧ w'.cell? ⟨g, j * 8 + 2, none⟩ = some (.int .u64 xl) ∧ w'.cell? ⟨g, j * 8 + 3, none⟩ = some (.int .i64 xb) ∧ w'.cell? ⟨g, j * 8 + 4, none⟩ = some (.int .i64 xs) ∧ w'.cell? ⟨g, j * 8 + 5, none⟩ = some (.string xc) ∧ w'.cell? ⟨g, j * 8 + 6, none⟩ = some (.int .u32 xi) ∧ w'.cell? ⟨g, j * 8 + 7, none⟩ = some (.int .i64 xt) ∧ w'.cell? ⟨g', j * 8, none⟩ = some (.int .i64 yk) ∧ w'.cell? ⟨g', j * 8 + 1, none⟩ = some (.int .u64 yh) ∧ w'.cell? ⟨g', j * 8 + 2, none⟩ = some (.int .u64 yl) ∧ w'.cell? ⟨g', j * 8 + 3, none⟩ = some (.int .i64 yb) ∧ w'.cell? ⟨g', j * 8 + 4, none⟩ = some (.int .i64 ys) ∧ w'.cell? ⟨g', j * 8 + 5, none⟩ = some (.string yc) ∧ w'.cell? ⟨g', j * 8 + 6, none⟩ = some (.int .u32 yi) ∧ w'.cell? ⟨g', j * 8 + 7, none⟩ = some (.int .i64 yt)) (go_keep) (fail)
          all_goals go_wp2_with fail
          go_ret
          exact ⟨by rw [decide_eq_false HN.out]; rfl, HQ.out.drew⟩
      · have hje : ¬ (j : Int) < (R.length : Int) := by omega
        have hall : R = R' := by
          have h1 := HJ.out
          rw [List.take_of_length_le (by omega), List.take_of_length_le (by omega)] at h1
          exact h1
        have HALL := Aside1.mk hall
        clear hall
        go_wp2_with fail
        go_ret
        exact ⟨by rw [decide_eq_true HALL.out]; rfl, HQ.out⟩
  · have hne : ¬ (R.length : Int) = (R'.length : Int) := by omega
    have hR : R ≠ R' := fun e => hlen (by rw [e])
    have HR := Aside1.mk hR
    clear hR hlen
    go_enter Try.func15, Try.ntmps15
    go_wp2_with fail
    go_ret
    exact ⟨by rw [decide_eq_false HR.out]; rfl, Kept.refl _ _⟩
def hostL (n : Int) (c : ByteArray) (t : Int) : Lease := ⟨⟨1, 0, n, 128⟩, 1, c, 0, t⟩
set_option maxRecDepth 100000 in
theorem host_run (w : World) (n : Int) (c : ByteArray) (t : Int) : Calls Try.prog 24 #[.int .u64 n, .string c, .int .i64 t] w fun e w' => e = .returned (hostL n c t).val ∧ Quiet w w' := by
  simp only [Lease.val, hostL]
  go_enter Try.func24, Try.ntmps24
  go_wp2_with fail
  refine bodyPost_ret (v := .agg #[.int .i64 1, .int .u64 0, .int .u64 n, .int .i64 128, .int .i64 1, .string c, .int .u32 0, .int .i64 t]) (by simp [results, Try.results24, go_sem]) rfl ⟨rfl, ?_⟩
  exact (Kept.refl _ w).alloc _
end Go.Proofs.Ytmegbllhidkmoaa.Tb

/- The laws' filled: a table behind lists of changes. -/
namespace Go.Proofs.Ytmegbllhidkmoaa.Tb
open Go.RowKit Go.Maps Go.Shelf Go.Proofs.YtmegbllhidkmoaaW.PrintWords Go.Proofs.YtmegbllhidkmoaaW.PrintLast Go.Proofs.YtmegbllhidkmoaaW.PrintMore
set_option linter.unusedVariables false
/-- v is a slice of slices of these changes. -/
def ListsAt (w : World) (v : Value) (css : List (List Change)) : Prop :=
  ∃ p cap, v = .slice p css.length cap ∧ css.length ≤ cap ∧ cap ≤ maxLen ∧ ∀ i (h : i < css.length), ∃ g off vi, p = some ⟨g, off, none⟩ ∧ w.cell? ⟨g, off + i, none⟩ = some vi ∧ ChangesAt w vi (css[i]'h)
theorem ListsAt.quiet {w w' : World} {v : Value} {css : List (List Change)} (h : ListsAt w v css) (hq : Quiet w w') : ListsAt w' v css := by
  obtain ⟨p, cap, rfl, h1, h2, h3⟩ := h
  refine ⟨p, cap, rfl, h1, h2, fun i hi => ?_⟩
  obtain ⟨g, off, vi, hp, hc, hh⟩ := h3 i hi
  exact ⟨g, off, vi, hp, hq.cell hc (fun h => h), hh.quiet hq⟩
def stepS (S : List Lease × List End) (cs : List Change) : List Lease × List End := if cs.length ≤ 300 then (if applyE S.1 cs = 0 then (applyL S.1 cs, applyEnds S.2 cs) else S) else S
def playS (S : List Lease × List End) (css : List (List Change)) : List Lease × List End := (css.take 300).foldl stepS S
def filledS (css : List (List Change)) : List Lease × List End := playS ([], []) css
theorem play_next {css : List (List Change)} {j : Nat} (h : j < css.length) (S : List Lease × List End) : (css.take (j + 1)).foldl stepS S = stepS ((css.take j).foldl stepS S) (css[j]'h) := by
  rw [List.take_succ_eq_append_getElem h, List.foldl_append]; rfl
/-- What holds of a table in a law. -/
structure Held (w wr : World) (bt N : Nat) (S : List Lease × List End) : Prop where
  tab : ∃ b1 b2 v, TabAt wr bt b1 b2 v N S.1 S.2 ∧ ∀ k, Foot bt b1 b2 v k → w.heap.size ≤ k
  sorted : Sorted S.1
  uniq : Uniq S.1
  quiet : Quiet w wr
theorem Held.keep {w wr w2 : World} {bt N : Nat} {S : List Lease × List End} (h : Held w wr bt N S) (hq : Quiet wr w2) : Held w w2 bt N S := by
  obtain ⟨b1, b2, v, hT, hf⟩ := h.tab
  exact ⟨⟨b1, b2, v, hT.kept hq (fun _ _ h => h), hf⟩, h.sorted, h.uniq, h.quiet.andThen hq (fun _ _ h => h)⟩
theorem Held.mono {w wr : World} {bt N N' : Nat} {S : List Lease × List End} (h : Held w wr bt N S) (hN : N ≤ N') : Held w wr bt N' S := by
  obtain ⟨b1, b2, v, hT, hf⟩ := h.tab
  exact ⟨⟨b1, b2, v, hT.mono hN, hf⟩, h.sorted, h.uniq, h.quiet⟩
theorem Held.base {w wr : World} {bt N : Nat} {S : List Lease × List End} (h : Held w wr bt N S) : w.heap.size ≤ bt ∧ bt < wr.heap.size := by
  obtain ⟨b1, b2, v, hT, hf⟩ := h.tab
  exact ⟨hf bt (.inl rfl), (Array.getElem?_eq_some_iff.1 hT.blk).1⟩
def applyS (S : List Lease × List End) (cs : List Change) : List Lease × List End := if applyE S.1 cs = 0 then (applyL S.1 cs, applyEnds S.2 cs) else S
theorem held_apply (w wr : World) (bt N : Nat) (S : List Lease × List End) (h : Held w wr bt N S) (vc : Value) (cs : List Change) (hc : ChangesAt wr vc cs) (hN : N + cs.length < 1000000000) :
    Calls Try.prog 22 #[.pointer (some ⟨bt, 0, none⟩), vc] wr fun e w2 => e = .returned (.int .i64 (applyE S.1 cs)) ∧ Held w w2 bt (N + cs.length) (applyS S cs) ∧ Kept (fun k => k = bt) wr w2 := by
  obtain ⟨b1, b2, v, hT, hf⟩ := h.tab
  refine (tab_apply wr bt b1 b2 N v S.1 S.2 hT h.uniq h.sorted vc cs hc hN).mono ?_
  rintro e w2 ⟨rfl, hk, hbad, hgood⟩
  refine ⟨rfl, ?_, hk⟩
  unfold applyS
  by_cases he : applyE S.1 cs = 0
  · rw [if_pos he]
    obtain ⟨c1, c2, v', r1, r2, r3, r4⟩ := hgood he
    have hs := h.quiet.size
    exact ⟨⟨c1, c2, v', r1, fun k hk => (r4 k hk).elim (fun e => by rw [e]; exact hf bt (.inl rfl)) (fun e => Nat.le_trans hs e)⟩, r2, r3, h.quiet.andThen hk (fun i hi e => by have := hf bt (.inl rfl); omega)⟩
  · rw [if_neg he]
    exact (h.keep (hbad he)).mono (by omega)
set_option maxHeartbeats 3200000 in
set_option maxRecDepth 100000 in
theorem filled_run (w : World) (v : Value) (css : List (List Change)) (h : ListsAt w v css) :
    Calls Try.prog 8 #[v] w fun e w' => ∃ bt, e = .returned (.pointer (some ⟨bt, 0, none⟩)) ∧ Held w w' bt 90000 (filledS css) := by
  have hnew := fun W => new_table W
  obtain ⟨p, cap, rfl, hn, hm, hcell⟩ := h
  have HX := Aside1.mk hcell
  clear hcell
  have hlen : (css.length : Int) ≤ 9223372036854775807 := by unfold maxLen at hm; omega
  go_enter Try.func8, Try.ntmps8
  go_wp2_with (go_at_call 23; refine (hnew _).mono ?_; rintro e w1 ⟨bt, b1, b2, rfl, hT1, hf1, hq1⟩)
  have HH : Held w w1 bt 0 ([], []) := ⟨⟨b1, b2, _, hT1, hf1⟩, List.Pairwise.nil, (fun a ha => by cases ha), hq1⟩
  have HH1 := Aside1.mk HH
  clear HH hT1 hf1 hq1
  go_loopw [4] (fun v4 wr => ∃ j : Nat, v4 = .int .i64 j ∧ j ≤ css.length ∧ j ≤ 300 ∧ Aside1 (Held w wr bt (300 * j) ((css.take j).foldl stepS ([], [])))) (fun v4 _ => css.length - (RowKit.intOf v4).toNat)
  case atStart => exact ⟨0, rfl, Nat.zero_le _, Nat.zero_le _, HH1⟩
  case round =>
    obtain ⟨j, rfl, hj, hj3, HJ⟩ := hrel
    by_cases hlt : j < css.length
    · by_cases h300 : j < 300
      · have hi : (j : Int) < (css.length : Int) := by omega
        have hi3 : (j : Int) < 300 := by omega
        obtain ⟨g, off, vi, hp, hc, hch⟩ := HX.out j hlt
        subst hp
        have hc' := HJ.out.quiet.cell hc (fun h => h)
        obtain ⟨q, qc, hv, hrest⟩ := hch.quiet HJ.out.quiet
        have HCH := Aside1.mk (show ChangesAt wr (.slice q (css[j]'hlt).length qc) (css[j]'hlt) by rw [← hv]; exact hch.quiet HJ.out.quiet)
        subst hv
        have HN := Aside1.mk (play_next hlt ([], []))
        clear hch hrest hc
        obtain ⟨cs, HCS⟩ : ∃ x, Aside1 (css[j]'hlt = x) := ⟨_, ⟨rfl⟩⟩
        rw [HCS.out] at HCH HN hc'
        by_cases hl : cs.length ≤ 300
        · have hl' : (cs.length : Int) ≤ 300 := by omega
          have happ := held_apply w wr bt (300 * j) _ HJ.out _ cs HCH.out (by omega)
          go_wp2_with (go_at_call 22; refine happ.mono ?_; rintro e w2 ⟨rfl, hH2, hk2⟩)
          refine ⟨⟨j + 1, by rw [Int.natCast_add]; rfl, hlt, h300, ⟨?_⟩⟩, by simp [RowKit.intOf]; omega⟩
          rw [HN.out]
          unfold stepS
          rw [if_pos hl]
          exact hH2.mono (by omega)
        · have hl' : ¬ (cs.length : Int) ≤ 300 := by omega
          go_wp2_with fail
          refine ⟨⟨j + 1, by rw [Int.natCast_add]; rfl, hlt, h300, ⟨?_⟩⟩, by simp [RowKit.intOf]; omega⟩
          rw [HN.out]
          unfold stepS
          rw [if_neg hl]
          exact HJ.out.mono (by omega)
      · have hi3 : ¬ (j : Int) < 300 := by omega
        have hi : (j : Int) < (css.length : Int) := by omega
        have hj300 : j = 300 := by omega
        subst hj300
        go_wp2_with fail
        go_ret
        exact ⟨bt, rfl, HJ.out⟩
    · have hi : ¬ (j : Int) < (css.length : Int) := by omega
      have hfin : Held w wr bt 90000 (filledS css) := by
        have h1 := HJ.out.mono (show 300 * j ≤ 90000 by omega)
        have h2 : css.take j = css.take 300 := by rw [List.take_of_length_le (by omega), List.take_of_length_le (by omega)]
        rw [h2] at h1
        exact h1
      have HFIN := Aside1.mk hfin
      clear hfin
      go_wp2_with fail
      go_ret
      exact ⟨bt, rfl, HFIN.out⟩
end Go.Proofs.Ytmegbllhidkmoaa.Tb

/- How the laws' arguments read: changes, and lists of lists of changes. -/
namespace Go.Proofs.Ytmegbllhidkmoaa.Tb
open Go.RowKit Go.ChangeShapes Go.WideShapes Go.ChangeAt Go.Deep
set_option linter.unusedVariables false
theorem row_own : ownKnob Try.prog.godebug = none := by kernel_rfl
theorem row_laid : laidOutB Try.prog = true := by kernel_rfl
section
variable {H : Type} {enc : TypeId × Value → H} {w : World} {base : Nat} {spare : Nat → Bool} {held : Bool} {fuel : Nat} {cs : List Value} {x : DataW H × List MemPlace}
theorem cellsChange : Try.prog.cellsOf 54 = 9 := by kernel_rfl
theorem cellsLease : Try.prog.cellsOf 36 = 8 := by kernel_rfl
theorem cellsBool : Try.prog.cellsOf 4 = 1 := by kernel_rfl
theorem cellsRow : Try.prog.cellsOf 51 = 1 := by kernel_rfl
set_option maxRecDepth 100000 in
theorem read_addr (h : DataW.trod enc Try.prog w base spare held fuel 31 cs = some x) : ∃ hi lo : Int, cs = [.int .u64 hi, .int .u64 lo] ∧ (Lit.int .u64 hi).wf = true ∧ (Lit.int .u64 lo).wf = true := by
  obtain ⟨xs, n, _, _, hl, hx, hf⟩ := DataW.trod_struct Try.underlying31 h
  rw [Try.cellsAddr] at hl
  match cs, hl with
  | [c0, c1], _ =>
    have h0 := hf 0 _ rfl
    have h1 := hf 1 _ rfl
    simp only [List.getElem_toArray, List.getElem_cons_zero, List.getElem_cons_succ, Try.cellsU64, List.drop_zero, List.drop_succ_cons, List.take_succ_cons, List.take_zero] at h0 h1
    rw [List.getElem?_eq_getElem (by rw [hx]; decide)] at h0 h1
    obtain ⟨a, e0, _, w0⟩ := DataW.trod_int Try.underlying29 h0
    obtain ⟨b, e1, _, w1⟩ := DataW.trod_int Try.underlying29 h1
    exact ⟨a, b, by simp only [List.cons.injEq, and_true] at e0 e1; rw [e0, e1], w0, w1⟩
set_option maxRecDepth 100000 in
theorem read_prefix (h : DataW.trod enc Try.prog w base spare held fuel 33 cs = some x) : ∃ hi lo bits : Int, cs = [.int .u64 hi, .int .u64 lo, .int .i64 bits] ∧ (Lit.int .u64 hi).wf = true ∧ (Lit.int .u64 lo).wf = true ∧ (Lit.int .i64 bits).wf = true := by
  obtain ⟨xs, n, _, _, hl, hx, hf⟩ := DataW.trod_struct Try.underlying33 h
  rw [Try.cellsPfx] at hl
  match cs, hl with
  | [c0, c1, c2], _ =>
    have h0 := hf 0 _ rfl
    have h1 := hf 1 _ rfl
    simp only [List.getElem_toArray, List.getElem_cons_zero, List.getElem_cons_succ, Try.cellsAddr, Try.cellsInt, List.drop_zero, List.drop_succ_cons, List.take_succ_cons, List.take_zero] at h0 h1
    rw [List.getElem?_eq_getElem (by rw [hx]; decide)] at h0 h1
    obtain ⟨a, b, e0, w0, w0'⟩ := read_addr h0
    obtain ⟨c, e1, _, w1⟩ := DataW.trod_int Try.underlying3 h1
    exact ⟨a, b, c, by simp only [List.cons.injEq, and_true] at e0 e1; rw [e0.1, e0.2, e1], w0, w0', w1⟩
set_option maxRecDepth 100000 in
theorem read_lease (h : DataW.trod enc Try.prog w base spare held fuel 36 cs = some x) : ∃ l : Lease, cs = l.cells ∧ l.ok := by
  obtain ⟨xs, n, _, _, hl, hx, hf⟩ := DataW.trod_struct Try.underlying36 h
  rw [cellsLease] at hl
  match cs, hl with
  | [c0, c1, c2, c3, c4, c5, c6, c7], _ =>
    have h0 := hf 0 _ rfl
    have h1 := hf 1 _ rfl
    have h2 := hf 2 _ rfl
    have h3 := hf 3 _ rfl
    have h4 := hf 4 _ rfl
    have h5 := hf 5 _ rfl
    simp only [List.getElem_toArray, List.getElem_cons_zero, List.getElem_cons_succ, Try.cellsPfx, Try.cellsInt, Try.cellsStr, Try.cellsU32, List.drop_zero, List.drop_succ_cons, List.take_succ_cons, List.take_zero] at h0 h1 h2 h3 h4 h5
    rw [List.getElem?_eq_getElem (by rw [hx]; decide)] at h0 h1 h2 h3 h4 h5
    obtain ⟨k, e0, _, w0⟩ := DataW.trod_int Try.underlying3 h0
    obtain ⟨hi, lo, b, e1, w1, w2, w3⟩ := read_prefix h1
    obtain ⟨s, e2, _, w4⟩ := DataW.trod_int Try.underlying3 h2
    obtain ⟨c, e3, _, w5⟩ := DataW.trod_string Try.underlying9 h3
    obtain ⟨i, e4, _, w6⟩ := DataW.trod_int Try.underlying34 h4
    obtain ⟨u, e5, _, w7⟩ := DataW.trod_int Try.underlying3 h5
    simp only [List.cons.injEq, and_true] at e0 e1 e2 e3 e4 e5
    exact ⟨⟨⟨k, hi, lo, b⟩, s, c, i, u⟩, by rw [e0, e1.1, e1.2.1, e1.2.2, e2, e3, e4, e5]; rfl, ⟨w0, w1, w2, w3⟩, w4, w5, w6, w7⟩
set_option maxRecDepth 100000 in
theorem read_change (h : DataW.trod enc Try.prog w base spare held fuel 54 cs = some x) : ∃ c : Change, cs = c.cells ∧ c.lease.ok := by
  obtain ⟨xs, n, _, _, hl, hx, hf⟩ := DataW.trod_struct Try.underlying54 h
  rw [cellsChange] at hl
  match cs, hl with
  | [c0, c1, c2, c3, c4, c5, c6, c7, c8], _ =>
    have h0 := hf 0 _ rfl
    have h1 := hf 1 _ rfl
    simp only [List.getElem_toArray, List.getElem_cons_zero, List.getElem_cons_succ, cellsBool, cellsLease, List.drop_zero, List.drop_succ_cons, List.take_succ_cons, List.take_zero] at h0 h1
    rw [List.getElem?_eq_getElem (by rw [hx]; decide)] at h0 h1
    obtain ⟨g, e0, _⟩ := DataW.trod_bool Try.underlying4 h0
    obtain ⟨l, e1, w1⟩ := read_lease h1
    simp only [List.cons.injEq, and_true] at e0
    refine ⟨⟨g, l⟩, ?_, w1⟩
    rw [e0, e1]; rfl
theorem read_changes (h : DataW.trod enc Try.prog w base (fun _ => true) held fuel 51 cs = some x) : ∃ (v : Value) (L : List Change), cs = [v] ∧ ChangesAt w v L := by
  rcases open_slice Try.underlying51 h with ⟨rfl, _⟩ | ⟨a, len, cap, m, n, D, Pl, rfl, _, hlc, hcm, hm, _, hi⟩
  · exact ⟨_, [], rfl, none, 0, rfl, Nat.le_refl _, Nat.zero_le _, (fun j hj => absurd hj (Nat.not_lt_zero _)), (fun c hc => by cases hc)⟩
  · simp only [if_true] at hm
    subst hm
    have hall : ∀ i, i < len → ∃ c : Change, w.cells? base (a.add (i * 9)) 9 = some c.cells ∧ c.lease.ok := fun i hil => by
      obtain ⟨cs', h1, h2⟩ := hi i (by omega)
      obtain ⟨c, rfl, hc⟩ := read_change h2
      rw [cellsChange] at h1
      exact ⟨c, h1, hc⟩
    obtain ⟨f, hf⟩ : ∃ f : Nat → Change, ∀ i, i < len → w.cells? base (a.add (i * 9)) 9 = some (f i).cells ∧ (f i).lease.ok := by
      refine ⟨fun i => if h : i < len then Classical.choose (hall i h) else ⟨false, zeroLease⟩, fun i hil => ?_⟩
      simp only [dif_pos hil]
      exact Classical.choose_spec (hall i hil)
    refine ⟨_, (List.range len).map f, rfl, some a, m, by simp, by simpa using hlc, hcm, fun j hj => ?_, fun c hc => ?_⟩
    · have hjl : j < len := by simpa using hj
      obtain ⟨b, off, spot⟩ := a
      have hs : spot = none := by
        obtain ⟨_, _, hat⟩ := World.cells?_some (hf 0 (by omega)).1
        have h0 := hat 0 (by omega)
        have h1 : (f 0).cells[0]? = some (.bool (f 0).gone) := rfl
        rw [h1] at h0
        simpa [Addr.add] using World.cell?_spot h0
      subst hs
      obtain ⟨_, _, hat⟩ := World.cells?_some (hf j hjl).1
      refine ⟨b, off, rfl, fun i hi9 => ?_⟩
      have h2 := hat i hi9
      rw [Addr.add_lit, Addr.add_lit] at h2
      simp only [List.getElem_map, List.getElem_range]
      exact h2
    · obtain ⟨i, hi', rfl⟩ := List.mem_map.1 hc
      exact (hf i (List.mem_range.1 hi')).2
theorem read_lists (h : DataW.trod enc Try.prog w base (fun _ => true) held fuel 22 cs = some x) : ∃ (v : Value) (L : List (List Change)), cs = [v] ∧ ListsAt w v L := by
  rcases open_slice Try.underlying22 h with ⟨rfl, _⟩ | ⟨a, len, cap, m, n, D, Pl, rfl, _, hlc, hcm, hm, _, hi⟩
  · exact ⟨_, [], rfl, none, 0, rfl, Nat.le_refl _, Nat.zero_le _, (fun j hj => absurd hj (Nat.not_lt_zero _))⟩
  · simp only [if_true] at hm
    subst hm
    have hall : ∀ i, i < len → ∃ (r : Value × List Change), w.cells? base (a.add i) 1 = some [r.1] ∧ ChangesAt w r.1 r.2 := fun i hil => by
      obtain ⟨cs', h1, h2⟩ := hi i (by omega)
      obtain ⟨v, L, rfl, hc⟩ := read_changes h2
      rw [cellsRow, Nat.mul_one] at h1
      exact ⟨(v, L), h1, hc⟩
    obtain ⟨f, hf⟩ : ∃ f : Nat → Value × List Change, ∀ i, i < len → w.cells? base (a.add i) 1 = some [(f i).1] ∧ ChangesAt w (f i).1 (f i).2 := by
      refine ⟨fun i => if h : i < len then Classical.choose (hall i h) else (.bool false, []), fun i hil => ?_⟩
      simp only [dif_pos hil]
      exact Classical.choose_spec (hall i hil)
    refine ⟨_, (List.range len).map (fun i => (f i).2), rfl, some a, m, by simp, by simpa using hlc, hcm, fun j hj => ?_⟩
    have hjl : j < len := by simpa using hj
    obtain ⟨b, off, spot⟩ := a
    have hs : spot = none := by
      obtain ⟨_, _, hat⟩ := World.cells?_some (hf 0 (by omega)).1
      have h0 := hat 0 (by omega)
      have h1 : [(f 0).1][0]? = some (f 0).1 := rfl
      rw [h1] at h0
      simpa [Addr.add] using World.cell?_spot h0
    subst hs
    obtain ⟨_, _, hat⟩ := World.cells?_some (hf j hjl).1
    have h0 := hat 0 (by omega)
    have h1 : [(f j).1][0]? = some (f j).1 := rfl
    rw [h1, Addr.add_lit, Addr.add_lit] at h0
    refine ⟨b, off, (f j).1, rfl, ?_, ?_⟩
    · exact h0
    · simp only [List.getElem_map, List.getElem_range]
      exact (hf j hjl).2
end
theorem quiet_below {w w' : World} (h : Quiet w w') : Below w.heap.size w w' := h.below (Nat.le_refl _) (fun _ _ h => h)
end Go.Proofs.Ytmegbllhidkmoaa.Tb

/- What holds of every table that is filled: all sound, none meets another, at most 1024. -/
namespace Go.Proofs.Ytmegbllhidkmoaa.Tb
open Go.RowKit Go.Maps
set_option linter.unusedVariables false
structure Good (L : List Lease) : Prop where
  sound : ∀ l ∈ L, soundL l = true
  apart : ∀ a ∈ L, ∀ b ∈ L, a.key ≠ b.key → meetsB a.key b.key = false
  size : L.length ≤ 1024
theorem good_nil : Good [] := ⟨(fun l h => by cases h), (fun l h => by cases h), by simp⟩
theorem good_without {L : List Lease} (h : Good L) (k : Key) : Good (without L k) :=
  ⟨fun l hl => h.sound l (mem_without.1 hl).1, fun a ha b hb => h.apart a (mem_without.1 ha).1 b (mem_without.1 hb).1, Nat.le_trans (List.length_filter_le _ _) h.size⟩
theorem insertK_len (l : Lease) (X : List Lease) : (insertK l X).length = X.length + 1 := (insertK_perm l X).length_eq
theorem good_put {L : List Lease} {l : Lease} (h : Good L) (hs : soundL l = true) (he : putE L l = 0) : Good (putL L l) := by
  unfold putE at he
  have ht : takenB L l = false := by cases hb : takenB L l with
    | false => rfl
    | true => rw [hb] at he; cases he
  rw [ht] at he
  simp only [Bool.false_eq_true, if_false] at he
  have hm : meetAny L l = false := by cases hb : meetAny L l with
    | false => rfl
    | true => rw [hb] at he; cases he
  rw [hm] at he
  simp only [Bool.false_eq_true, if_false] at he
  have hf : fullB L l = false := by cases hb : fullB L l with
    | false => rfl
    | true => rw [hb] at he; cases he
  have hmm : ∀ x ∈ L, x.key ≠ l.key → meetsB l.key x.key = false := fun x hx hk => by
    unfold meetAny at hm
    rw [List.any_eq_false] at hm
    have := hm x hx
    simpa [hk] using this
  refine ⟨fun x hx => ?_, fun a ha b hb hk => ?_, ?_⟩
  · rcases mem_putL.1 hx with rfl | hx
    · exact hs
    · exact h.sound x hx.1
  · rcases mem_putL.1 ha with rfl | ha'
    · rcases mem_putL.1 hb with rfl | hb'
      · exact absurd rfl hk
      · exact hmm b hb'.1 hb'.2
    · rcases mem_putL.1 hb with rfl | hb'
      · rw [meetsB_symm]; exact hmm a ha'.1 ha'.2
      · exact h.apart a ha'.1 b hb'.1 hk
  · unfold putL
    rw [insertK_len]
    unfold fullB at hf
    cases hfl : findL L l.key with
    | none =>
      rw [hfl] at hf
      simp at hf
      have := List.length_filter_le (fun x : Lease => decide (x.key ≠ l.key)) L
      unfold without
      omega
    | some x =>
      obtain ⟨h1, h2⟩ := findL_some hfl
      have hlt : (without L l.key).length < L.length := by
        unfold without
        rw [List.length_filter_lt_length_iff_exists]
        exact ⟨x, h1, by simp [h2]⟩
      have := h.size
      omega
theorem good_change {L : List Lease} {c : Change} (h : Good L) (he : changeE L c = 0) : Good (changeL L c) := by
  unfold changeE at he
  cases hb : changeB c with
  | false => rw [hb] at he; cases he
  | true =>
    rw [hb] at he
    unfold changeL
    cases hg : c.gone with
    | true => exact good_without h _
    | false =>
      rw [hg] at he
      simp only [if_true, Bool.false_eq_true, if_false] at he
      refine good_put h ?_ he
      unfold changeB at hb
      rw [hg] at hb
      exact hb
theorem good_apply : ∀ (cs : List Change) {L : List Lease}, Good L → applyE L cs = 0 → Good (applyL L cs)
  | [], L, h, _ => h
  | c :: cs, L, h, he => by
    unfold applyE at he
    by_cases h0 : changeE L c = 0
    · rw [if_pos h0] at he
      exact good_apply cs (good_change h h0) he
    · rw [if_neg h0] at he
      exact absurd he h0
theorem good_applyS {S : List Lease × List End} (h : Good S.1) (cs : List Change) : Good (applyS S cs).1 := by
  unfold applyS
  by_cases he : applyE S.1 cs = 0
  · rw [if_pos he]; exact good_apply cs h he
  · rw [if_neg he]; exact h
theorem good_step {S : List Lease × List End} (h : Good S.1) (cs : List Change) : Good (stepS S cs).1 := by
  unfold stepS
  split
  · exact good_applyS h cs
  · exact h
theorem good_fold : ∀ (css : List (List Change)) {S : List Lease × List End}, Good S.1 → Good (css.foldl stepS S).1
  | [], S, h => h
  | cs :: css, S, h => good_fold css (good_step h cs)
theorem good_filled (css : List (List Change)) : Good (filledS css).1 := good_fold _ good_nil
end Go.Proofs.Ytmegbllhidkmoaa.Tb

/- The ends of a table are a heap, and what that says of Next: the plain part. -/
namespace Go.Proofs.Ytmegbllhidkmoaa.Tb
set_option linter.unusedVariables false
--BEGIN
theorem tillAt_swap {E : List End} {i j : Nat} (hi : i < E.length) (hj : j < E.length) (k : Nat) : tillAt (swapE E i j) k = if k = j then tillAt E i else if k = i then tillAt E j else tillAt E k := by
  rw [swapE_eq hi hj]
  unfold tillAt
  rw [List.getElem?_set, List.getElem?_set]
  by_cases h1 : k = j
  · subst h1; simp [hi, hj]
  · rw [if_neg (fun e => h1 e.symm), if_neg h1]
    by_cases h2 : k = i
    · subst h2; simp [hi, hj]
    · rw [if_neg (fun e => h2 e.symm), if_neg h2]
/-- A heap, but for what lies at c against what is above it. -/
structure UpTo (E : List End) (c : Nat) : Prop where
  rest : ∀ i, 0 < i → i < E.length → i ≠ c → tillAt E ((i - 1) / 2) ≤ tillAt E i
  over : 0 < c → ∀ i, 0 < i → i < E.length → (i - 1) / 2 = c → tillAt E ((c - 1) / 2) ≤ tillAt E i
def HeapE (E : List End) : Prop := ∀ i, 0 < i → i < E.length → tillAt E ((i - 1) / 2) ≤ tillAt E i
theorem siftUp_heap : ∀ (j : Nat) (E : List End), j < E.length → UpTo E j → HeapE (siftUp E j) := by
  intro j
  induction j using Nat.strongRecOn with
  | _ j ih =>
    intro E hj h
    rw [siftUp]
    by_cases h0 : j = 0
    · rw [dif_pos h0]
      intro i hi hl
      exact h.rest i hi hl (by omega)
    · rw [dif_neg h0]
      have hp : (j - 1) / 2 < j := by omega
      by_cases hc : tillAt E j < tillAt E ((j - 1) / 2)
      · rw [if_pos hc]
        have hpl : (j - 1) / 2 < E.length := by omega
        generalize hP : (j - 1) / 2 = p at *
        refine ih p hp _ (by rw [swapE_len]; exact hpl) ⟨fun i hi hl hne => ?_, fun hc0 i hi hl hip => ?_⟩
        · rw [swapE_len] at hl
          rw [tillAt_swap hpl hj, tillAt_swap hpl hj]
          by_cases e1 : i = j
          · subst e1
            rw [if_pos rfl, hP, if_neg (by omega), if_pos rfl]
            omega
          · rw [if_neg e1, if_neg hne]
            by_cases e2 : (i - 1) / 2 = j
            · rw [if_pos e2]
              have := h.over (by omega) i hi hl e2
              rw [hP] at this
              exact this
            · rw [if_neg e2]
              by_cases e3 : (i - 1) / 2 = p
              · rw [if_pos e3]
                have := h.rest i hi hl e1
                rw [e3] at this
                omega
              · rw [if_neg e3]
                exact h.rest i hi hl e1
        · rw [swapE_len] at hl
          have hpp : (p - 1) / 2 < p := by omega
          rw [tillAt_swap hpl hj, tillAt_swap hpl hj, if_neg (by omega), if_neg (by omega)]
          have hup := h.rest p hc0 hpl (by omega)
          by_cases e1 : i = j
          · rw [if_pos e1]; exact hup
          · rw [if_neg e1, if_neg (by omega)]
            have := h.rest i hi hl e1
            rw [hip] at this
            omega
      · rw [if_neg hc]
        intro i hi hl
        by_cases e1 : i = j
        · subst e1; omega
        · exact h.rest i hi hl e1
theorem swapE_perm {E : List End} {i j : Nat} (hi : i < E.length) (hj : j < E.length) : (swapE E i j).Perm E := by
  rw [swapE_eq hi hj]
  exact List.set_set_perm hi hj
theorem siftUp_perm : ∀ (j : Nat) (E : List End), j < E.length → (siftUp E j).Perm E := by
  intro j
  induction j using Nat.strongRecOn with
  | _ j ih =>
    intro E hj
    rw [siftUp]
    by_cases h0 : j = 0
    · rw [dif_pos h0]
    · rw [dif_neg h0]
      by_cases hc : tillAt E j < tillAt E ((j - 1) / 2)
      · rw [if_pos hc]
        exact (ih _ (by omega) _ (by rw [swapE_len]; omega)).trans (swapE_perm (by omega) hj)
      · rw [if_neg hc]
theorem push_heap {E : List End} (h : HeapE E) (e : End) : HeapE (siftUp (E ++ [e]) E.length) := by
  have ht : ∀ i, i < E.length → tillAt (E ++ [e]) i = tillAt E i := fun i hi => by
    unfold tillAt; rw [List.getElem?_append_left hi]
  refine siftUp_heap _ _ (by simp) ⟨fun i hi hl hne => ?_, fun h0 i hi hl hp => ?_⟩
  · rw [List.length_append, List.length_singleton] at hl
    rw [ht i (by omega), ht _ (by omega)]
    exact h i hi (by omega)
  · rw [List.length_append, List.length_singleton] at hl
    omega
theorem push_perm (E : List End) (e : End) : (siftUp (E ++ [e]) E.length).Perm (E ++ [e]) := siftUp_perm _ _ (by simp)
/-- The first n are a heap, but for what lies at c against what is below it. -/
structure DownTo (E : List End) (c n : Nat) : Prop where
  rest : ∀ i, 0 < i → i < n → (i - 1) / 2 ≠ c → tillAt E ((i - 1) / 2) ≤ tillAt E i
  over : 0 < c → ∀ i, 0 < i → i < n → (i - 1) / 2 = c → tillAt E ((c - 1) / 2) ≤ tillAt E i
theorem child_cases (E : List End) (i n : Nat) (h : 2 * i + 1 < n) : (child E i n = 2 * i + 1 ∨ child E i n = 2 * i + 2) ∧ child E i n < n ∧ ∀ k, 0 < k → k < n → (k - 1) / 2 = i → tillAt E (child E i n) ≤ tillAt E k := by
  unfold child
  by_cases hc : 2 * i + 2 < n ∧ tillAt E (2 * i + 2) < tillAt E (2 * i + 1)
  · rw [if_pos hc]
    refine ⟨.inr rfl, hc.1, fun k h0 hk hp => ?_⟩
    rcases (by omega : k = 2 * i + 1 ∨ k = 2 * i + 2) with rfl | rfl
    · omega
    · exact Int.le_refl _
  · rw [if_neg hc]
    refine ⟨.inl rfl, h, fun k h0 hk hp => ?_⟩
    rcases (by omega : k = 2 * i + 1 ∨ k = 2 * i + 2) with rfl | rfl
    · exact Int.le_refl _
    · have : ¬ tillAt E (2 * i + 2) < tillAt E (2 * i + 1) := fun e => hc ⟨hk, e⟩
      omega
theorem siftDown_heap (n : Nat) : ∀ (m i : Nat) (E : List End), n - i = m → n ≤ E.length → DownTo E i n → ∀ k, 0 < k → k < n → tillAt (siftDown E i n) ((k - 1) / 2) ≤ tillAt (siftDown E i n) k := by
  intro m
  induction m using Nat.strongRecOn with
  | _ m ih =>
    intro i E hm hn h k hk0 hk
    rw [siftDown]
    by_cases h0 : n ≤ 2 * i + 1
    · rw [dif_pos h0]
      exact h.rest k hk0 hk (by omega)
    · rw [dif_neg h0]
      obtain ⟨hch, hcn, hmin⟩ := child_cases E i n (by omega)
      by_cases hc : tillAt E (child E i n) < tillAt E i
      · rw [if_pos hc]
        generalize child E i n = c at *
        have hil : i < E.length := by omega
        have hcl : c < E.length := by omega
        refine ih (n - c) (by omega) c _ rfl (by rw [swapE_len]; exact hn) ⟨fun q hq0 hq hne => ?_, fun hc0 q hq0 hq hqc => ?_⟩ k hk0 hk
        · rw [tillAt_swap hil hcl, tillAt_swap hil hcl, if_neg hne]
          by_cases e1 : (q - 1) / 2 = i
          · rw [if_pos e1]
            by_cases e2 : q = c
            · rw [if_pos e2]; omega
            · rw [if_neg e2, if_neg (by omega)]
              exact hmin q hq0 hq e1
          · rw [if_neg e1]
            by_cases e2 : q = c
            · subst e2; omega
            · rw [if_neg e2]
              by_cases e3 : q = i
              · rw [if_pos e3]
                subst e3
                exact h.over hq0 c (by omega) hcn (by omega)
              · rw [if_neg e3]
                exact h.rest q hq0 hq e1
        · have hci : (c - 1) / 2 = i := by omega
          rw [tillAt_swap hil hcl, tillAt_swap hil hcl, hci, if_neg (by omega), if_pos rfl, if_neg (by omega), if_neg (by omega)]
          have := h.rest q hq0 hq (by omega)
          rw [hqc] at this
          exact this
      · rw [if_neg hc]
        by_cases e1 : (k - 1) / 2 = i
        · have := hmin k hk0 hk e1
          rw [e1]; omega
        · exact h.rest k hk0 hk e1
theorem siftDown_perm (n : Nat) : ∀ (m i : Nat) (E : List End), n - i = m → n ≤ E.length → (siftDown E i n).Perm E := by
  intro m
  induction m using Nat.strongRecOn with
  | _ m ih =>
    intro i E hm hn
    rw [siftDown]
    by_cases h0 : n ≤ 2 * i + 1
    · rw [dif_pos h0]
    · rw [dif_neg h0]
      obtain ⟨hch, hcn, _⟩ := child_cases E i n (by omega)
      by_cases hc : tillAt E (child E i n) < tillAt E i
      · rw [if_pos hc]
        generalize child E i n = c at *
        exact (ih (n - c) (by omega) c _ rfl (by rw [swapE_len]; exact hn)).trans (swapE_perm (by omega) (by omega))
      · rw [if_neg hc]
theorem siftDown_keep (n : Nat) : ∀ (m i : Nat) (E : List End), n - i = m → n ≤ E.length → ∀ k, n ≤ k → (siftDown E i n)[k]? = E[k]? := by
  intro m
  induction m using Nat.strongRecOn with
  | _ m ih =>
    intro i E hm hn k hk
    rw [siftDown]
    by_cases h0 : n ≤ 2 * i + 1
    · rw [dif_pos h0]
    · rw [dif_neg h0]
      obtain ⟨hch, hcn, _⟩ := child_cases E i n (by omega)
      by_cases hc : tillAt E (child E i n) < tillAt E i
      · rw [if_pos hc]
        generalize child E i n = c at *
        rw [ih (n - c) (by omega) c _ rfl (by rw [swapE_len]; exact hn) k hk, swapE_eq (by omega) (by omega), List.getElem?_set_ne (by omega), List.getElem?_set_ne (by omega)]
      · rw [if_neg hc]
/-- The heap behind Pop: a heap, and all but the one on top. -/
theorem popped_spec (e : End) (E : List End) (h : HeapE (e :: E)) : HeapE (popped (e :: E)) ∧ (popped (e :: E)).Perm E := by
  unfold popped
  have hn : (e :: E).length - 1 = E.length := by simp
  rw [hn]
  obtain ⟨D, hD⟩ : ∃ D, siftDown (swapE (e :: E) 0 E.length) 0 E.length = D := ⟨_, rfl⟩
  have hsl : (swapE (e :: E) 0 E.length).length = E.length + 1 := by rw [swapE_len]; rfl
  have hperm : D.Perm (e :: E) := by
    rw [← hD]
    exact (siftDown_perm E.length _ 0 _ rfl (by rw [hsl]; omega)).trans (swapE_perm (by simp) (by simp))
  have hDl : D.length = E.length + 1 := hperm.length_eq
  have hlast : D[E.length]? = some e := by
    rw [← hD, siftDown_keep E.length _ 0 _ rfl (by rw [hsl]; omega) E.length (Nat.le_refl _), swapE_eq (by simp) (by simp), List.getElem?_set]
    rw [if_pos rfl]; simp
  have hheap : ∀ k, 0 < k → k < E.length → tillAt D ((k - 1) / 2) ≤ tillAt D k := by
    rw [← hD]
    refine siftDown_heap E.length _ 0 _ rfl (by rw [hsl]; omega) ⟨fun i hi hl hne => ?_, fun h0 => absurd h0 (Nat.lt_irrefl _)⟩
    rw [tillAt_swap (by simp) (by simp), tillAt_swap (by simp) (by simp), if_neg (by omega), if_neg hne, if_neg (by omega), if_neg (by omega)]
    exact h i hi (by simp; omega)
  rw [hD]
  have hsplit : D = D.dropLast ++ [e] := by
    have hne : D ≠ [] := by intro h0; rw [h0] at hDl; simp at hDl
    have h1 := List.dropLast_concat_getLast hne
    have h2 : D.getLast hne = e := by
      rw [List.getLast_eq_getElem]
      have : D.length - 1 = E.length := by omega
      simp only [this]
      rw [List.getElem?_eq_getElem (by omega)] at hlast
      exact Option.some.inj hlast
    rw [h2] at h1; exact h1.symm
  refine ⟨fun i hi hl => ?_, ?_⟩
  · rw [List.length_dropLast] at hl
    have ht : ∀ k, k < E.length → tillAt D.dropLast k = tillAt D k := fun k hk => by
      unfold tillAt
      rw [List.getElem?_dropLast, if_pos (by omega)]
    rw [ht i (by omega), ht _ (by omega)]
    exact hheap i hi (by omega)
  · have h3 : (D.dropLast ++ [e]).Perm (E ++ [e]) := by
      rw [← hsplit]
      exact hperm.trans (List.perm_append_comm (l₁ := [e]))
    exact (List.perm_append_right_iff [e]).1 h3
/-- The one on top is the least. -/
theorem heap_least (e : End) (E : List End) (h : HeapE (e :: E)) : ∀ x ∈ e :: E, e.till ≤ x.till := by
  have hk : ∀ k, k < (e :: E).length → e.till ≤ tillAt (e :: E) k := by
    intro k
    induction k using Nat.strongRecOn with
    | _ k ih =>
      intro hl
      by_cases h0 : k = 0
      · subst h0; simp [tillAt]
      · have h1 := h k (by omega) hl
        have h2 := ih ((k - 1) / 2) (by omega) (by omega)
        omega
  intro x hx
  obtain ⟨i, hi, rfl⟩ := List.getElem_of_mem hx
  have := hk i hi
  rwa [tillAt_eq hi] at this
--END
end Go.Proofs.Ytmegbllhidkmoaa.Tb

/- What the laws' awake plays, reckoned. -/
namespace Go.Proofs.Ytmegbllhidkmoaa.Tb
open Go.RowKit Go.Maps
set_option linter.unusedVariables false
def la : Lease := hostL 5 ⟨#[97]⟩ 10
def lb : Lease := hostL 6 ⟨#[98]⟩ 9
def lc : Lease := hostL 7 ⟨#[97]⟩ 10
def awL : List Lease := [la, lb]
def awE : List End := [lb.fin, la.fin]
theorem aw_e1 : applyE [] [⟨false, la⟩, ⟨false, lb⟩] = 0 := by decide +kernel
theorem aw_l1 : applyL [] [⟨false, la⟩, ⟨false, lb⟩] = awL := by decide +kernel
theorem aw_n1 : applyEnds [] [⟨false, la⟩, ⟨false, lb⟩] = awE := by decide +kernel
theorem aw_e2 : applyE awL [⟨false, lc⟩] = 90 := by decide +kernel
theorem aw_next : nextR 2 awL awE = (9, true) := by decide +kernel
theorem aw_nextE : nextE 2 awL awE = awE := by decide +kernel
theorem aw_ofk : (findO awL ⟨1, ⟨#[97]⟩, 0⟩).getD zeroKey = la.key := by decide +kernel
theorem aw_ofs : (findO awL ⟨1, ⟨#[97]⟩, 0⟩).isSome = true := by decide +kernel
theorem aw_ofl : (findL awL la.key).getD zeroLease = la := by decide +kernel
theorem aw_find : (findL awL lb.key).getD zeroLease = lb := by decide +kernel
theorem aw_finds : (findL awL lb.key).isSome = true := by decide +kernel
theorem aw_due : awL.filter (fun l => decide (l.till ≤ 10)) = awL := by decide +kernel
theorem aw_sorted : (Sort.insertionSort (ltOf cmpT) awL.toArray 0 awL.length).toList = [lb, la] := by decide +kernel
theorem aw_client : awL.filter (fun l => l.bound && decide (l.client = ⟨#[97]⟩)) = [la] := by decide +kernel
theorem changes_row {w : World} {b : Nat} {t : TypeId} (cs : List Change) (h : w.heap[b]? = some (.cells (cs.flatMap Change.cells).toArray t (0, 0))) (hok : ∀ c ∈ cs, c.lease.ok) (hlen : cs.length ≤ maxLen) : ChangesAt w (.slice (some ⟨b, 0, none⟩) cs.length cs.length) cs := by
  refine ⟨_, _, rfl, Nat.le_refl _, hlen, fun j hj => ⟨b, 0, rfl, fun i hi => ?_⟩, hok⟩
  rw [Nat.zero_add, (cell_of h (j * 9 + i)).1, List.getElem?_toArray]
  exact flat_idx Change.cells 9 (fun _ => rfl) i hi cs j hj
theorem leases_row {w : World} {b : Nat} (R : List Lease) (h : w.heap[b]? = some (.cells (R.flatMap Lease.cells).toArray 36 (0, 0))) (hlen : R.length ≤ maxLen) : LeasesIs w 0 (.slice (some ⟨b, 0, none⟩) R.length R.length) R := by
  have hl := flat_length Lease.cells 8 lcells R
  refine ⟨hl, .inr ⟨b, R.length, _, rfl, Nat.zero_le _, h, Nat.le_refl _, hlen, by simpa using hl, ?_⟩⟩
  rw [List.toList_toArray, List.take_of_length_le (by omega)]
end Go.Proofs.Ytmegbllhidkmoaa.Tb

/- The laws' awake. -/
namespace Go.Proofs.Ytmegbllhidkmoaa.Tb
open Go.RowKit Go.Maps Go.Shelf Go.Proofs.YtmegbllhidkmoaaW.PrintWords Go.Proofs.YtmegbllhidkmoaaW.PrintLast Go.Proofs.YtmegbllhidkmoaaW.PrintMore
set_option linter.unusedVariables false
attribute [local go_sem high] eqA36
theorem fldL_1 (a b c d e f g h : Value) (w : World) : (Instr.field 36 (.agg #[a, b, c, d, e, f, g, h]) 1).run Try.prog w = .ok (.agg #[b, c, d]) w := by kernel_rfl
attribute [local go_sem] fldL_1
theorem host_lit (w : World) (n : Int) (c : ByteArray) (t : Int) : Calls Try.prog 24 #[.int .u64 n, .string c, .int .i64 t] w fun e w' => e = .returned (.agg #[.int .i64 1, .int .u64 0, .int .u64 n, .int .i64 128, .int .i64 1, .string c, .int .u32 0, .int .i64 t]) ∧ Quiet w w' := host_run w n c t
theorem la_ok : la.ok := ⟨⟨rfl, rfl, rfl, rfl⟩, rfl, by decide, rfl, rfl⟩
theorem lb_ok : lb.ok := ⟨⟨rfl, rfl, rfl, rfl⟩, rfl, by decide, rfl, rfl⟩
theorem lc_ok : lc.ok := ⟨⟨rfl, rfl, rfl, rfl⟩, rfl, by decide, rfl, rfl⟩
theorem aw_ok1 : ∀ c ∈ [(⟨false, la⟩ : Change), ⟨false, lb⟩], c.lease.ok := by
  intro c hc
  rcases List.mem_cons.1 hc with rfl | hc
  · exact la_ok
  · rcases List.mem_cons.1 hc with rfl | hc
    · exact lb_ok
    · cases hc
theorem aw_ok2 : ∀ c ∈ [(⟨false, lc⟩ : Change)], c.lease.ok := by
  intro c hc
  rcases List.mem_cons.1 hc with rfl | hc
  · exact lc_ok
  · cases hc
theorem aw_s1 : applyS ([], []) [⟨false, la⟩, ⟨false, lb⟩] = (awL, awE) := by unfold applyS; rw [if_pos aw_e1, aw_l1, aw_n1]
theorem aw_s2 : applyS (awL, awE) [⟨false, lc⟩] = (awL, awE) := by unfold applyS; rw [if_neg (by rw [aw_e2]; decide)]
theorem aw_ap1 (w wr : World) (bt : Nat) (h : Held w wr bt 0 ([], [])) (vc : Value) (hc : ChangesAt wr vc [⟨false, la⟩, ⟨false, lb⟩]) :
    Calls Try.prog 22 #[.pointer (some ⟨bt, 0, none⟩), vc] wr fun e w2 => e = .returned (.int .i64 0) ∧ Held w w2 bt 2 (awL, awE) := by
  refine (held_apply w wr bt 0 _ h vc _ hc (by decide)).mono ?_
  rintro e w2 ⟨rfl, h2, _⟩
  rw [aw_s1] at h2
  exact ⟨by rw [aw_e1], h2⟩
theorem aw_ap2 (w wr : World) (bt : Nat) (h : Held w wr bt 2 (awL, awE)) (vc : Value) (hc : ChangesAt wr vc [⟨false, lc⟩]) :
    Calls Try.prog 22 #[.pointer (some ⟨bt, 0, none⟩), vc] wr fun e w2 => e = .returned (.int .i64 90) ∧ Held w w2 bt 3 (awL, awE) := by
  refine (held_apply w wr bt 2 _ h vc _ hc (by decide)).mono ?_
  rintro e w2 ⟨rfl, h2, _⟩
  rw [aw_s2] at h2
  exact ⟨by rw [aw_e2], h2⟩
theorem aw_nx (w wr : World) (bt : Nat) (h : Held w wr bt 3 (awL, awE)) :
    Calls Try.prog 19 #[.pointer (some ⟨bt, 0, none⟩)] wr fun e w2 => e = .returned (.tuple #[.int .i64 9, .bool true]) ∧ Held w w2 bt 3 (awL, awE) := by
  obtain ⟨b1, b2, v, hT, hf⟩ := h.tab
  refine (tab_next wr bt b1 b2 3 v awL awE hT (by decide) ?_).mono ?_
  · intro e he
    rcases List.mem_cons.1 he with rfl | he
    · exact lb_ok.1
    · rcases List.mem_cons.1 he with rfl | he
      · exact la_ok.1
      · cases he
  · rintro e w2 ⟨rfl, v', r1, r2, r3⟩
    have e1 : nextR awE.length awL awE = (9, true) := aw_next
    have e2 : nextE awE.length awL awE = awE := aw_nextE
    rw [e2] at r1
    rw [e1]
    have hbt := hf bt (.inl rfl)
    exact ⟨rfl, ⟨⟨b1, b2, v', r1, fun k hk => hf k (hk.imp id (fun h => h.imp id (fun h => h.imp id (fun h => by rw [← r2]; exact h))))⟩, h.sorted, h.uniq, h.quiet.andThen r3 (fun i hi e => by
      rcases e with e | e
      · omega
      · have := hf i (.inr (.inr (.inr e))); omega)⟩⟩
theorem aw_of (w wr : World) (bt : Nat) (h : Held w wr bt 3 (awL, awE)) :
    Calls Try.prog 14 #[.pointer (some ⟨bt, 0, none⟩), .int .i64 1, .string ⟨#[97]⟩, .int .u32 0] wr fun e w2 => e = .returned (.tuple #[.agg #[.int .i64 1, .int .u64 0, .int .u64 5, .int .i64 128, .int .i64 1, .string ⟨#[97]⟩, .int .u32 0, .int .i64 10], .bool true]) ∧ Quiet wr w2 := by
  obtain ⟨b1, b2, v, hT, hf⟩ := h.tab
  refine (tab_of wr bt b1 b2 3 v awL awE hT ⟨1, ⟨#[97]⟩, 0⟩ ⟨rfl, by decide, rfl⟩).mono ?_
  rintro e w2 ⟨rfl, hq⟩
  rw [aw_ofk, aw_ofs, aw_ofl]
  exact ⟨rfl, hq⟩
theorem aw_fi (w wr : World) (bt : Nat) (h : Held w wr bt 3 (awL, awE)) :
    Calls Try.prog 13 #[.pointer (some ⟨bt, 0, none⟩), .int .i64 1, .agg #[.int .u64 0, .int .u64 6, .int .i64 128]] wr fun e w2 => e = .returned (.tuple #[.agg #[.int .i64 1, .int .u64 0, .int .u64 6, .int .i64 128, .int .i64 1, .string ⟨#[98]⟩, .int .u32 0, .int .i64 9], .bool true]) ∧ Quiet wr w2 := by
  obtain ⟨b1, b2, v, hT, hf⟩ := h.tab
  refine (tab_find wr bt b1 b2 3 v awL awE hT lb.key lb_ok.1).mono ?_
  rintro e w2 ⟨rfl, hq⟩
  rw [aw_find, aw_finds]
  exact ⟨rfl, hq⟩
theorem aw_du (w wr : World) (bt : Nat) (h : Held w wr bt 3 (awL, awE)) :
    Calls Try.prog 18 #[.pointer (some ⟨bt, 0, none⟩), .int .i64 10] wr fun e w2 => ∃ v', e = .returned v' ∧ LeasesIs w2 wr.heap.size v' [lb, la] ∧ Quiet wr w2 := by
  obtain ⟨b1, b2, v, hT, hf⟩ := h.tab
  refine (tab_due_small wr bt b1 b2 3 v awL awE hT (by decide) h.sorted 10 awL aw_due (by decide) (by decide)).mono ?_
  rintro e w2 ⟨v', rfl, hl, hq⟩
  rw [aw_sorted] at hl
  exact ⟨v', rfl, hl, hq⟩
theorem aw_al (w wr : World) (bt : Nat) (h : Held w wr bt 3 (awL, awE)) :
    Calls Try.prog 9 #[.pointer (some ⟨bt, 0, none⟩)] wr fun e w2 => ∃ v', e = .returned v' ∧ LeasesIs w2 wr.heap.size v' [la, lb] ∧ Quiet wr w2 := by
  obtain ⟨b1, b2, v, hT, hf⟩ := h.tab
  exact tab_all wr bt b1 b2 3 v awL awE hT (by decide) h.sorted
theorem aw_cl (w wr : World) (bt : Nat) (h : Held w wr bt 3 (awL, awE)) :
    Calls Try.prog 17 #[.pointer (some ⟨bt, 0, none⟩), .string ⟨#[97]⟩] wr fun e w2 => ∃ v', e = .returned v' ∧ LeasesIs w2 wr.heap.size v' [la] ∧ Quiet wr w2 := by
  obtain ⟨b1, b2, v, hT, hf⟩ := h.tab
  have := tab_client wr bt b1 b2 3 v awL awE hT (by decide) h.sorted ⟨#[97]⟩
  rw [aw_client] at this
  exact this
theorem held_size (w wr : World) (bt N : Nat) (S : List Lease × List End) (h : Held w wr bt N S) :
    Calls Try.prog 20 #[.pointer (some ⟨bt, 0, none⟩)] wr fun e w2 => e = .returned (.int .i64 (S.1.length : Int)) ∧ Quiet wr w2 := by
  obtain ⟨b1, b2, v, hT, hf⟩ := h.tab
  exact tab_size wr bt b1 b2 N v S.1 S.2 hT
theorem held_copy (w wr : World) (bt N : Nat) (S : List Lease × List End) (h : Held w wr bt N S) (hN : N ≤ 1000000000) :
    Calls Try.prog 21 #[.pointer (some ⟨bt, 0, none⟩)] wr fun e w2 => ∃ bc, e = .returned (.pointer (some ⟨bc, 0, none⟩)) ∧ Held wr w2 bc N S ∧ Quiet wr w2 := by
  obtain ⟨b1, b2, v, hT, hf⟩ := h.tab
  refine (tab_copy wr bt b1 b2 N v S.1 S.2 hT hN).mono ?_
  rintro e w2 ⟨bc, c1, c2, v', rfl, r1, r2, r3⟩
  exact ⟨bc, rfl, ⟨⟨c1, c2, v', r1, r2⟩, h.sorted, h.uniq, r3⟩, r3⟩
theorem aw_same1 (X : World) (B : Nat) (a : Value) (h : LeasesIs (X.alloc (.cells #[.int .i64 1, .int .u64 0, .int .u64 6, .int .i64 128, .int .i64 1, .string ⟨#[98]⟩, .int .u32 0, .int .i64 9, .int .i64 1, .int .u64 0, .int .u64 5, .int .i64 128, .int .i64 1, .string ⟨#[97]⟩, .int .u32 0, .int .i64 10] 36)) B a [lb, la]) : Calls Try.prog 15 #[a, .slice (some ⟨X.heap.size, 0, none⟩) 2 2] (X.alloc (.cells #[.int .i64 1, .int .u64 0, .int .u64 6, .int .i64 128, .int .i64 1, .string ⟨#[98]⟩, .int .u32 0, .int .i64 9, .int .i64 1, .int .u64 0, .int .u64 5, .int .i64 128, .int .i64 1, .string ⟨#[97]⟩, .int .u32 0, .int .i64 10] 36)) fun e w' => e = .returned (.bool true) ∧ Quiet (X.alloc (.cells #[.int .i64 1, .int .u64 0, .int .u64 6, .int .i64 128, .int .i64 1, .string ⟨#[98]⟩, .int .u32 0, .int .i64 9, .int .i64 1, .int .u64 0, .int .u64 5, .int .i64 128, .int .i64 1, .string ⟨#[97]⟩, .int .u32 0, .int .i64 10] 36)) w' := by
  have hr : LeasesIs (X.alloc (.cells #[.int .i64 1, .int .u64 0, .int .u64 6, .int .i64 128, .int .i64 1, .string ⟨#[98]⟩, .int .u32 0, .int .i64 9, .int .i64 1, .int .u64 0, .int .u64 5, .int .i64 128, .int .i64 1, .string ⟨#[97]⟩, .int .u32 0, .int .i64 10] 36)) 0 (.slice (some ⟨X.heap.size, 0, none⟩) 2 2) [lb, la] := leases_row [lb, la] (heap_alloc_new X _) (by decide)
  refine (same_run _ B 0 _ _ [lb, la] [lb, la] h hr).mono ?_
  rintro e w' ⟨rfl, hq⟩
  exact ⟨by rw [decide_eq_true rfl], hq⟩
theorem aw_same2 (X : World) (B : Nat) (a : Value) (h : LeasesIs (X.alloc (.cells #[.int .i64 1, .int .u64 0, .int .u64 5, .int .i64 128, .int .i64 1, .string ⟨#[97]⟩, .int .u32 0, .int .i64 10, .int .i64 1, .int .u64 0, .int .u64 6, .int .i64 128, .int .i64 1, .string ⟨#[98]⟩, .int .u32 0, .int .i64 9] 36)) B a [la, lb]) : Calls Try.prog 15 #[a, .slice (some ⟨X.heap.size, 0, none⟩) 2 2] (X.alloc (.cells #[.int .i64 1, .int .u64 0, .int .u64 5, .int .i64 128, .int .i64 1, .string ⟨#[97]⟩, .int .u32 0, .int .i64 10, .int .i64 1, .int .u64 0, .int .u64 6, .int .i64 128, .int .i64 1, .string ⟨#[98]⟩, .int .u32 0, .int .i64 9] 36)) fun e w' => e = .returned (.bool true) ∧ Quiet (X.alloc (.cells #[.int .i64 1, .int .u64 0, .int .u64 5, .int .i64 128, .int .i64 1, .string ⟨#[97]⟩, .int .u32 0, .int .i64 10, .int .i64 1, .int .u64 0, .int .u64 6, .int .i64 128, .int .i64 1, .string ⟨#[98]⟩, .int .u32 0, .int .i64 9] 36)) w' := by
  have hr : LeasesIs (X.alloc (.cells #[.int .i64 1, .int .u64 0, .int .u64 5, .int .i64 128, .int .i64 1, .string ⟨#[97]⟩, .int .u32 0, .int .i64 10, .int .i64 1, .int .u64 0, .int .u64 6, .int .i64 128, .int .i64 1, .string ⟨#[98]⟩, .int .u32 0, .int .i64 9] 36)) 0 (.slice (some ⟨X.heap.size, 0, none⟩) 2 2) [la, lb] := leases_row [la, lb] (heap_alloc_new X _) (by decide)
  refine (same_run _ B 0 _ _ [la, lb] [la, lb] h hr).mono ?_
  rintro e w' ⟨rfl, hq⟩
  exact ⟨by rw [decide_eq_true rfl], hq⟩
theorem aw_same3 (X : World) (B : Nat) (a : Value) (h : LeasesIs (X.alloc (.cells #[.int .i64 1, .int .u64 0, .int .u64 5, .int .i64 128, .int .i64 1, .string ⟨#[97]⟩, .int .u32 0, .int .i64 10] 36)) B a [la]) : Calls Try.prog 15 #[a, .slice (some ⟨X.heap.size, 0, none⟩) 1 1] (X.alloc (.cells #[.int .i64 1, .int .u64 0, .int .u64 5, .int .i64 128, .int .i64 1, .string ⟨#[97]⟩, .int .u32 0, .int .i64 10] 36)) fun e w' => e = .returned (.bool true) ∧ Quiet (X.alloc (.cells #[.int .i64 1, .int .u64 0, .int .u64 5, .int .i64 128, .int .i64 1, .string ⟨#[97]⟩, .int .u32 0, .int .i64 10] 36)) w' := by
  have hr : LeasesIs (X.alloc (.cells #[.int .i64 1, .int .u64 0, .int .u64 5, .int .i64 128, .int .i64 1, .string ⟨#[97]⟩, .int .u32 0, .int .i64 10] 36)) 0 (.slice (some ⟨X.heap.size, 0, none⟩) 1 1) [la] := leases_row [la] (heap_alloc_new X _) (by decide)
  refine (same_run _ B 0 _ _ [la] [la] h hr).mono ?_
  rintro e w' ⟨rfl, hq⟩
  exact ⟨by rw [decide_eq_true rfl], hq⟩
theorem aw_sz (w wr : World) (bt : Nat) (h : Held w wr bt 3 (awL, awE)) : Calls Try.prog 20 #[.pointer (some ⟨bt, 0, none⟩)] wr fun e w2 => e = .returned (.int .i64 2) ∧ Quiet wr w2 := held_size w wr bt 3 (awL, awE) h
theorem aw_cp (w wr : World) (bt : Nat) (h : Held w wr bt 3 (awL, awE)) : Calls Try.prog 21 #[.pointer (some ⟨bt, 0, none⟩)] wr fun e w2 => ∃ bc, e = .returned (.pointer (some ⟨bc, 0, none⟩)) ∧ Held wr w2 bc 3 (awL, awE) ∧ Quiet wr w2 := held_copy w wr bt 3 (awL, awE) h (by decide)
set_option maxHeartbeats 6400000 in
set_option maxRecDepth 100000 in
theorem awake_run (w : World) : Calls Try.prog 7 #[] w fun e w' => e = .returned (.bool true) ∧ Quiet w w' := by
  have hnew := fun W => new_table W
  go_enter Try.func7, Try.ntmps7
  go_upto_region 4 with (go_at_call 23; refine (hnew _).mono ?_; rintro e w1 ⟨bt, b1, b2, rfl, hT1, hf1, hq1⟩)
  have HH1 : Aside1 (Held w w1 bt 0 ([], [])) := ⟨⟨b1, b2, _, hT1, hf1⟩, List.Pairwise.nil, (fun a ha => by cases ha), hq1⟩
  clear hT1 hf1 hq1
  go_upto_region 6 with (first
    | (go_at_call 24; refine (host_lit _ _ _ _).mono ?_; rintro e wh ⟨rfl, hqh⟩)
    | (go_at_call 22; refine (aw_ap1 w _ bt (HH1.out.keep ?_) _ (changes_row _ (heap_alloc_new _ _) aw_ok1 (by decide))).mono ?_; (repeat (first | exact Kept.refl _ _ | assumption | apply Kept.drew | apply Kept.drewN | apply Kept.alloc | refine Kept.setCell ?_ (fun hlt => absurd hlt (Nat.lt_irrefl _)) _ | refine Kept.andThen ?_ (by assumption) (fun _ _ h => h))); rintro e w2 ⟨rfl, hH2⟩; have HH2 := Aside1.mk hH2; clear hH2 HH1)
    | (go_at_call 22; refine (aw_ap2 w _ bt (HH2.out.keep ?_) _ (changes_row _ (heap_alloc_new _ _) aw_ok2 (by decide))).mono ?_; (repeat (first | exact Kept.refl _ _ | assumption | apply Kept.drew | apply Kept.drewN | apply Kept.alloc | refine Kept.setCell ?_ (fun hlt => absurd hlt (Nat.lt_irrefl _)) _ | refine Kept.andThen ?_ (by assumption) (fun _ _ h => h))); rintro e w3 ⟨rfl, hH3⟩; have HH3 := Aside1.mk hH3; clear hH3 HH2))
  go_upto_region 9 with (first
    | (go_at_call 24; refine (host_lit _ _ _ _).mono ?_; rintro e wh ⟨rfl, hqh⟩)
    | (go_at_call 19; refine (aw_nx w _ bt HH3.out).mono ?_; rintro e w4 ⟨rfl, hH4⟩; have HH4 := Aside1.mk hH4; clear hH4 HH3)
    | (go_at_call 14; refine (aw_of w _ bt HH4.out).mono ?_; rintro e w5 ⟨rfl, hq5⟩)
    | (go_at_call 13; refine (aw_fi w _ bt (HH4.out.keep ?_)).mono ?_; (repeat (first | exact Kept.refl _ _ | assumption | apply Kept.drew | apply Kept.drewN | apply Kept.alloc | refine Kept.setCell ?_ (fun hlt => absurd hlt (Nat.lt_irrefl _)) _ | refine Kept.andThen ?_ (by assumption) (fun _ _ h => h))); rintro e w6 ⟨rfl, hq6⟩))
  have hqA : Quiet w5 (w5.alloc (.cells #[.int .i64 1, .int .u64 0, .int .u64 5, .int .i64 128, .int .i64 1, .string ⟨#[97]⟩, .int .u32 0, .int .i64 10] 36)) := (Kept.refl _ w5).alloc _
  have hq46 : Quiet w4 w6 := ((hq5.andThen hqA (fun _ _ h => h)).andThen hqh (fun _ _ h => h)).andThen hq6 (fun _ _ h => h)
  have HH9 := Aside1.mk (HH4.out.keep (hq46.alloc (.cells #[.int .i64 1, .int .u64 0, .int .u64 6, .int .i64 128, .int .i64 1, .string ⟨#[98]⟩, .int .u32 0, .int .i64 9] 36)))
  have l5 : w5.heap.size < (w5.alloc (.cells #[.int .i64 1, .int .u64 0, .int .u64 5, .int .i64 128, .int .i64 1, .string ⟨#[97]⟩, .int .u32 0, .int .i64 10] 36)).heap.size := by rw [World.size_alloc]; exact Nat.lt_succ_self _
  have l56 : w5.heap.size < w6.heap.size := Nat.lt_of_lt_of_le l5 (Nat.le_trans hqh.size hq6.size)
  have HB6 := Aside1.mk ((Below.heap_alloc w6 (.cells #[.int .i64 1, .int .u64 0, .int .u64 6, .int .i64 128, .int .i64 1, .string ⟨#[98]⟩, .int .u32 0, .int .i64 9] 36) w5.heap.size l56).trans ((hq6.block w5.heap.size (Nat.lt_of_lt_of_le l5 hqh.size) (fun h => h)).trans ((hqh.block w5.heap.size l5 (fun h => h)).trans (heap_alloc_new w5 (.cells #[.int .i64 1, .int .u64 0, .int .u64 5, .int .i64 128, .int .i64 1, .string ⟨#[97]⟩, .int .u32 0, .int .i64 10] 36)))))
  have HB8 := Aside1.mk (heap_alloc_new w6 (.cells #[.int .i64 1, .int .u64 0, .int .u64 6, .int .i64 128, .int .i64 1, .string ⟨#[98]⟩, .int .u32 0, .int .i64 9] 36))
  clear hqA hq46 l5 l56 HH4 hq5 hq6 hqh
  generalize w5.heap.size = x6 at *
  generalize w6.heap.size = x8 at *
  generalize w6.alloc (.cells #[.int .i64 1, .int .u64 0, .int .u64 6, .int .i64 128, .int .i64 1, .string ⟨#[98]⟩, .int .u32 0, .int .i64 9] 36) = W9 at *
  have HS : Aside1 (∀ w', Quiet W9 w' → (w'.cell? ⟨x6, 0, none⟩ = some (.int .i64 1) ∧ w'.cell? ⟨x6, 1, none⟩ = some (.int .u64 0) ∧ w'.cell? ⟨x6, 2, none⟩ = some (.int .u64 5) ∧ w'.cell? ⟨x6, 3, none⟩ = some (.int .i64 128) ∧ w'.cell? ⟨x6, 4, none⟩ = some (.int .i64 1) ∧ w'.cell? ⟨x6, 5, none⟩ = some (.string ⟨#[97]⟩) ∧ w'.cell? ⟨x6, 6, none⟩ = some (.int .u32 0) ∧ w'.cell? ⟨x6, 7, none⟩ = some (.int .i64 10) ∧ w'.cell? ⟨x8, 0, none⟩ = some (.int .i64 1) ∧ w'.cell? ⟨x8, 1, none⟩ = some (.int .u64 0) ∧ w'.cell? ⟨x8, 2, none⟩ = some (.int .u64 6) ∧ w'.cell? ⟨x8, 3, none⟩ = some (.int .i64 128) ∧ w'.cell? ⟨x8, 4, none⟩ = some (.int .i64 1) ∧ w'.cell? ⟨x8, 5, none⟩ = some (.string ⟨#[98]⟩) ∧ w'.cell? ⟨x8, 6, none⟩ = some (.int .u32 0) ∧ w'.cell? ⟨x8, 7, none⟩ = some (.int .i64 9))) := ⟨fun w' hq => ⟨hq.cell (cell_of HB6.out 0).1 (fun h => h), hq.cell (cell_of HB6.out 1).1 (fun h => h), hq.cell (cell_of HB6.out 2).1 (fun h => h), hq.cell (cell_of HB6.out 3).1 (fun h => h), hq.cell (cell_of HB6.out 4).1 (fun h => h), hq.cell (cell_of HB6.out 5).1 (fun h => h), hq.cell (cell_of HB6.out 6).1 (fun h => h), hq.cell (cell_of HB6.out 7).1 (fun h => h), hq.cell (cell_of HB8.out 0).1 (fun h => h), hq.cell (cell_of HB8.out 1).1 (fun h => h), hq.cell (cell_of HB8.out 2).1 (fun h => h), hq.cell (cell_of HB8.out 3).1 (fun h => h), hq.cell (cell_of HB8.out 4).1 (fun h => h), hq.cell (cell_of HB8.out 5).1 (fun h => h), hq.cell (cell_of HB8.out 6).1 (fun h => h), hq.cell (cell_of HB8.out 7).1 (fun h => h)⟩⟩
  go_region_held3 (fun w' => w'.cell? ⟨x6, 0, none⟩ = some (.int .i64 1) ∧ w'.cell? ⟨x6, 1, none⟩ = some (.int .u64 0) ∧ w'.cell? ⟨x6, 2, none⟩ = some (.int .u64 5) ∧ w'.cell? ⟨x6, 3, none⟩ = some (.int .i64 128) ∧ w'.cell? ⟨x6, 4, none⟩ = some (.int .i64 1) ∧ w'.cell? ⟨x6, 5, none⟩ = some (.string ⟨#[97]⟩) ∧ w'.cell? ⟨x6, 6, none⟩ = some (.int .u32 0) ∧ w'.cell? ⟨x6, 7, none⟩ = some (.int .i64 10) ∧ w'.cell? ⟨x8, 0, none⟩ = some (.int .i64 1) ∧ w'.cell? ⟨x8, 1, none⟩ = some (.int .u64 0) ∧ w'.cell? ⟨x8, 2, none⟩ = some (.int .u64 6) ∧ w'.cell? ⟨x8, 3, none⟩ = some (.int .i64 128) ∧ w'.cell? ⟨x8, 4, none⟩ = some (.int .i64 1) ∧ w'.cell? ⟨x8, 5, none⟩ = some (.string ⟨#[98]⟩) ∧ w'.cell? ⟨x8, 6, none⟩ = some (.int .u32 0) ∧ w'.cell? ⟨x8, 7, none⟩ = some (.int .i64 9)) ((refine HS.out _ ?_; (repeat (first | exact Kept.refl _ _ | assumption | apply Kept.drew | apply Kept.drewN | apply Kept.alloc | refine Kept.setCell ?_ (fun hlt => absurd hlt (Nat.lt_irrefl _)) _ | refine Kept.andThen ?_ (by assumption) (fun _ _ h => h)))))
    (first
      | (go_at_call 24; refine (host_lit _ _ _ _).mono ?_; rintro e wh ⟨rfl, hqh⟩)
      | (go_at_call 18; refine (aw_du w _ bt (HH9.out.keep ?_)).mono ?_; (repeat (first | exact Kept.refl _ _ | assumption | apply Kept.drew | apply Kept.drewN | apply Kept.alloc | refine Kept.setCell ?_ (fun hlt => absurd hlt (Nat.lt_irrefl _)) _ | refine Kept.andThen ?_ (by assumption) (fun _ _ h => h))); rintro e wd ⟨vd, rfl, hld, hqd⟩; obtain ⟨pd, cd, hvd⟩ := leases_shape hld; have hvd2 : vd = .slice pd 2 cd := hvd; clear hvd; subst hvd2; have HLd := Aside1.mk hld; clear hld)
      | (go_at_call 9; refine (aw_al w _ bt (HH9.out.keep ?_)).mono ?_; (repeat (first | exact Kept.refl _ _ | assumption | apply Kept.drew | apply Kept.drewN | apply Kept.alloc | refine Kept.setCell ?_ (fun hlt => absurd hlt (Nat.lt_irrefl _)) _ | refine Kept.andThen ?_ (by assumption) (fun _ _ h => h))); rintro e wa ⟨va, rfl, hla, hqa⟩; obtain ⟨pa, ca, hva⟩ := leases_shape hla; have hva2 : va = .slice pa 2 ca := hva; clear hva; subst hva2; have HLa := Aside1.mk hla; clear hla)
      | (go_at_call 17; refine (aw_cl w _ bt (HH9.out.keep ?_)).mono ?_; (repeat (first | exact Kept.refl _ _ | assumption | apply Kept.drew | apply Kept.drewN | apply Kept.alloc | refine Kept.setCell ?_ (fun hlt => absurd hlt (Nat.lt_irrefl _)) _ | refine Kept.andThen ?_ (by assumption) (fun _ _ h => h))); rintro e wl ⟨vl, rfl, hll, hql⟩; obtain ⟨pl, cl, hvl⟩ := leases_shape hll; have hvl2 : vl = .slice pl 1 cl := hvl; clear hvl; subst hvl2; have HLl := Aside1.mk hll; clear hll)
      | (go_at_call 21; refine (aw_cp w _ bt (HH9.out.keep ?_)).mono ?_; (repeat (first | exact Kept.refl _ _ | assumption | apply Kept.drew | apply Kept.drewN | apply Kept.alloc | refine Kept.setCell ?_ (fun hlt => absurd hlt (Nat.lt_irrefl _)) _ | refine Kept.andThen ?_ (by assumption) (fun _ _ h => h))); rintro e wc ⟨bc, rfl, hHc, hqc⟩; have HHc := Aside1.mk hHc; clear hHc)
      | (go_at_call 20; with_reducible refine (aw_sz w _ bt (HH9.out.keep ?_)).mono ?_; (repeat (first | exact Kept.refl _ _ | assumption | apply Kept.drew | apply Kept.drewN | apply Kept.alloc | refine Kept.setCell ?_ (fun hlt => absurd hlt (Nat.lt_irrefl _)) _ | refine Kept.andThen ?_ (by assumption) (fun _ _ h => h))); rintro e wsz ⟨rfl, hqsz⟩)
      | (go_at_call 20; with_reducible refine (aw_sz _ _ bc (HHc.out.keep ?_)).mono ?_; (repeat (first | exact Kept.refl _ _ | assumption | apply Kept.drew | apply Kept.drewN | apply Kept.alloc | refine Kept.setCell ?_ (fun hlt => absurd hlt (Nat.lt_irrefl _)) _ | refine Kept.andThen ?_ (by assumption) (fun _ _ h => h))); rintro e wsz ⟨rfl, hqsz⟩)
      | (go_at_call 15; with_reducible refine (aw_same1 _ _ (.slice pd 2 cd) (HLd.out.old ?_ (fun _ _ h => h))).mono ?_; (repeat (first | exact Kept.refl _ _ | assumption | apply Kept.drew | apply Kept.drewN | apply Kept.alloc | refine Kept.setCell ?_ (fun hlt => absurd hlt (Nat.lt_irrefl _)) _ | refine Kept.andThen ?_ (by assumption) (fun _ _ h => h))); rintro e ws1 ⟨rfl, hqs1⟩)
      | (go_at_call 15; with_reducible refine (aw_same2 _ _ (.slice pa 2 ca) (HLa.out.old ?_ (fun _ _ h => h))).mono ?_; (repeat (first | exact Kept.refl _ _ | assumption | apply Kept.drew | apply Kept.drewN | apply Kept.alloc | refine Kept.setCell ?_ (fun hlt => absurd hlt (Nat.lt_irrefl _)) _ | refine Kept.andThen ?_ (by assumption) (fun _ _ h => h))); rintro e ws2 ⟨rfl, hqs2⟩)
      | (go_at_call 15; with_reducible refine (aw_same3 _ _ (.slice pl 1 cl) (HLl.out.old ?_ (fun _ _ h => h))).mono ?_; (repeat (first | exact Kept.refl _ _ | assumption | apply Kept.drew | apply Kept.drewN | apply Kept.alloc | refine Kept.setCell ?_ (fun hlt => absurd hlt (Nat.lt_irrefl _)) _ | refine Kept.andThen ?_ (by assumption) (fun _ _ h => h))); rintro e ws3 ⟨rfl, hqs3⟩))
  all_goals go_wp2_with fail
  all_goals
    go_ret
    have hq9 := HH9.out.quiet
    exact ⟨rfl, by (repeat (first | exact Kept.refl _ _ | assumption | apply Kept.drew | apply Kept.drewN | apply Kept.alloc | refine Kept.setCell ?_ (fun hlt => absurd hlt (Nat.lt_irrefl _)) _ | refine Kept.andThen ?_ (by assumption) (fun _ _ h => h)))⟩
end Go.Proofs.Ytmegbllhidkmoaa.Tb

/- A region that draws its order, that only reads, and whose callees leave all that lay there as it lay: walked once, in the order of the text. -/
namespace Go.Proofs.Ytmegbllhidkmoaa.Tb
open Go.RowKit
set_option linter.unusedVariables false
/-- A world in which all lies as it lay in w. -/
structure QW (w : World) where
  wd : World
  quiet : Quiet w wd
instance (w : World) : Inhabited (QW w) := ⟨⟨w, Kept.refl _ w⟩⟩
theorem wp_region_qw {P : Program} {id : Nat} {Q : Exit → Act → World → Prop} {a : Act} {w : World} {l : List Oper} (hm : P.follows .mixedOrders = true) (hB : Region.lexB .any l.toArray = true)
    (h : wpQuiet P l.toArray (fun w' => ∃ q : QW w, w' = q.wd) (fun a' => ∀ w', (∃ q : QW w, w' = q.wd) → Q .normal a' w') l a) : (Code.region id l.toArray true).wp P Q a w :=
  wp_region_quiet (C := fun w' => ∃ q : QW w, w' = q.wd) hm hB ⟨⟨w.drew, (Kept.refl _ w).drew⟩, rfl⟩ (by simpa using h)
theorem QW.cell {w : World} (q : QW w) {a : Addr} {v : Value} (h : w.cell? a = some v) : q.wd.cell? a = some v := q.quiet.cell h (fun h => h)
theorem quiet_qw {w w' : World} (h : ∃ q : QW w, w' = q.wd) : Quiet w w' := by
  obtain ⟨q, rfl⟩ := h
  exact q.quiet
theorem Calls.qw_of {P : Program} {f : FuncId} {args : Array Value} {w : World} {q : QW w} {v : Value}
    (h : Calls P f args q.wd fun e w' => e = .returned v ∧ Quiet q.wd w') : Calls P f args q.wd fun e w'' => e = .returned v ∧ ∃ p : QW w, w'' = p.wd :=
  h.mono fun _ w' ⟨he, hq⟩ => ⟨he, ⟨w', q.quiet.andThen hq (fun _ _ h => h)⟩, rfl⟩
end Go.Proofs.Ytmegbllhidkmoaa.Tb

/- The law TableApart. -/
namespace Go.Proofs.Ytmegbllhidkmoaa.Tb
open Go.RowKit Go.Maps Go.Shelf Go.Proofs.YtmegbllhidkmoaaW.PrintWords Go.Proofs.YtmegbllhidkmoaaW.PrintLast Go.Proofs.YtmegbllhidkmoaaW.PrintMore
set_option linter.unusedVariables false
theorem held_all (w wr : World) (bt N : Nat) (S : List Lease × List End) (h : Held w wr bt N S) (hN : N ≤ 1000000000) :
    Calls Try.prog 9 #[.pointer (some ⟨bt, 0, none⟩)] wr fun e w2 => ∃ v', e = .returned v' ∧ LeasesIs w2 wr.heap.size v' S.1 ∧ Quiet wr w2 := by
  obtain ⟨b1, b2, v, hT, hf⟩ := h.tab
  exact tab_all wr bt b1 b2 N v S.1 S.2 hT hN h.sorted
theorem sound_lit (w : World) (l : Lease) (h : soundL l = true) : Calls Try.prog 10 #[l.val] w fun e w' => e = .returned (.bool true) ∧ Quiet w w' := by
  have := sound_run w l
  rw [h] at this
  exact this
theorem compare_lit (w : World) (a b : Key) (h : cmpK a b < 0) : Calls Try.prog 11 #[.int .i64 a.kind, .agg #[.int .u64 a.hi, .int .u64 a.lo, .int .i64 a.bits], .int .i64 b.kind, .agg #[.int .u64 b.hi, .int .u64 b.lo, .int .i64 b.bits]] w fun e w' => ∃ x, e = .returned (.int .i64 x) ∧ x < 0 ∧ Quiet w w' := by
  refine (lease_compare w a b).mono ?_
  rintro e w' ⟨rfl, hg⟩
  exact ⟨_, rfl, h, hg.quiet⟩
set_option maxHeartbeats 6400000 in
set_option maxRecDepth 100000 in
theorem apart_run (w : World) (v : Value) (css : List (List Change)) (h : ListsAt w v css) : Calls Try.prog 3 #[v] w fun e w' => e = .returned (.bool true) ∧ Quiet w w' := by
  have hshape := h
  obtain ⟨pv, cv, hv, _⟩ := hshape
  subst hv
  have HLs := Aside1.mk h
  clear h
  have hG := good_filled css
  go_enter Try.func3, Try.ntmps3
  go_upto_region 5 with (first
    | (go_at_call 7; refine (awake_run _).mono ?_; rintro e w1 ⟨rfl, hq1⟩)
    | (go_at_call 8; refine (filled_run _ _ css (HLs.out.quiet hq1)).mono ?_; rintro e w2 ⟨bt, rfl, hH2⟩)
    | (go_at_call 9; refine (held_all _ _ bt 90000 _ hH2 (by decide)).mono ?_; rintro e w3 ⟨vl, rfl, hl3, hq3⟩))
  obtain ⟨L, hL⟩ : ∃ L, (filledS css).1 = L := ⟨_, rfl⟩
  have hso := hH2.sorted
  have hun := hH2.uniq
  rw [hL] at hG hl3 hso hun
  have HQ3 := Aside1.mk ((hq1.andThen hH2.quiet (fun _ _ h => h)).andThen hq3 (fun _ _ h => h))
  have HL3 := Aside1.mk hl3
  have HG := Aside1.mk hG
  have HSo := Aside1.mk hso
  have HUn := Aside1.mk hun
  obtain ⟨pl, cl, hvl⟩ := leases_shape hl3
  subst hvl
  clear hH2 hq1 hq3 hl3 hG hso hun hL HLs
  have hsz : ¬ ((L.length : Int) > 1024) := by have := HG.out.size; omega
  go_wp2_with fail
  go_loopw [5] (fun v5 wr => ∃ j : Nat, v5 = .int .i64 j ∧ j ≤ L.length ∧ Aside1 (Quiet w3 wr)) (fun v5 _ => L.length - (RowKit.intOf v5).toNat)
  case atStart => exact ⟨0, rfl, Nat.zero_le _, ⟨Kept.refl _ _⟩⟩
  case round =>
    obtain ⟨j, rfl, hj, HQ⟩ := hrel
    by_cases hlt : j < L.length
    · have hi : (j : Int) < (L.length : Int) := by omega
      obtain ⟨g, cap, hv, hn, hm, hcell⟩ := leases_cell (HL3.out.old HQ.out (fun _ _ h => h)) j hlt
      simp only [Value.slice.injEq] at hv
      obtain ⟨rfl, _, rfl⟩ := hv
      have hsound := fun W => sound_lit W L[j] (HG.out.sound _ (List.getElem_mem hlt))
      obtain ⟨⟨⟨xk, xh, xl, xb⟩, xs, xc, xi, xt⟩, HX⟩ : ∃ x, Aside1 (L[j] = x) := ⟨_, ⟨rfl⟩⟩
      rw [HX.out] at hcell hsound
      simp only [Lease.val] at hsound
      have a0 := (hcell 0 (by omega)).1
      have a1 := (hcell 1 (by omega)).1
      have a2 := (hcell 2 (by omega)).1
      have a3 := (hcell 3 (by omega)).1
      have a4 := (hcell 4 (by omega)).1
      have a5 := (hcell 5 (by omega)).1
      have a6 := (hcell 6 (by omega)).1
      have a7 := (hcell 7 (by omega)).1
      simp only [Lease.cells, List.getElem?_cons_zero, List.getElem?_cons_succ, Nat.add_zero] at a0 a1 a2 a3 a4 a5 a6 a7
      clear hcell
      have hiN : ((L.length : Nat) : Int) ≤ 9223372036854775807 := by unfold maxLen at hm; omega
      go_upto_region 10 with fail
      go_cut [57] (fun v57 wz => v57 = .bool false ∧ Aside1 (Quiet wr wz))
      case first =>
        have A0 := fun q : QW wr => q.cell a0
        have A1 := fun q : QW wr => q.cell a1
        have A2 := fun q : QW wr => q.cell a2
        have A3 := fun q : QW wr => q.cell a3
        have A4 := fun q : QW wr => q.cell a4
        have A5 := fun q : QW wr => q.cell a5
        have A6 := fun q : QW wr => q.cell a6
        have A7 := fun q : QW wr => q.cell a7
        by_cases hj0 : j = 0
        · have hzd : decide ((j : Int) > 0) = false := decide_eq_false (by omega)
          have hzn : ¬ 0 < j := by omega
          clear hj0
          refine wp_region_qw (by kernel_rfl) (by kernel_rfl) ?_
          repeat (go_big_quiet_step ((first | (go_at_call 10; exact Calls.qw_of (hsound _)))))
          refine wpQuiet_nil ?_
          intro wq hw'
          have hqq := quiet_qw hw'
          clear hw'
          go_wp2_with fail
          go_meet
          exact ⟨rfl, ⟨hqq⟩⟩
        · obtain ⟨m, hjm⟩ : ∃ m, j = m + 1 := ⟨j - 1, by omega⟩
          have hzd : decide ((j : Int) > 0) = true := decide_eq_true (by omega)
          have hzn : 0 < j := by omega
          have hmlt : m < L.length := by omega
          have hmi : (m : Int) < (L.length : Int) := by omega
          have hw : (j : Int) - 1 = (m : Int) := by omega
          have hwr : IntKind.i64.wrap ((j : Int) - 1) = (m : Int) := by rw [IntKind.wrap_i64]; omega
          have hwr2 : IntKind.i64.wrap (m : Int) = (m : Int) := by rw [IntKind.wrap_i64]; omega
          obtain ⟨g2, cap2, hv2, _, _, hcell2⟩ := leases_cell (HL3.out.old HQ.out (fun _ _ h => h)) m hmlt
          simp only [Value.slice.injEq, Option.some.injEq, Addr.mk.injEq] at hv2
          obtain ⟨⟨rfl, _, _⟩, _, rfl⟩ := hv2
          have hneg : cmpK (L[m]).key (L[j]).key < 0 := List.pairwise_iff_getElem.1 HSo.out m j hmlt hlt (by omega)
          have hcmp := fun W => lease_compare W (L[m]).key (L[j]).key
          rw [HX.out] at hcmp hneg
          obtain ⟨⟨⟨yk, yh, yl, yb⟩, ys, yc, yi, yt⟩, HY⟩ : ∃ x, Aside1 (L[m] = x) := ⟨_, ⟨rfl⟩⟩
          rw [HY.out] at hcell2 hcmp hneg
          simp only at hcmp
          generalize cmpK _ _ = cv at hcmp hneg
          have hcd : decide (cv ≥ 0) = false := decide_eq_false (by omega)
          have hcd2 : decide (0 ≤ cv) = false := decide_eq_false (by omega)
          have hcall := fun W => (hcmp W).mono (R' := fun e w' => e = .returned (.int .i64 cv) ∧ Quiet W w') fun _ _ h => ⟨h.1, h.2.quiet⟩
          clear hcmp
          have b0 := (hcell2 0 (by omega)).1
          have b1 := (hcell2 1 (by omega)).1
          have b2 := (hcell2 2 (by omega)).1
          have b3 := (hcell2 3 (by omega)).1
          simp only [Lease.cells, List.getElem?_cons_zero, List.getElem?_cons_succ, Nat.add_zero] at b0 b1 b2 b3
          have B0 := fun q : QW wr => q.cell b0
          have B1 := fun q : QW wr => q.cell b1
          have B2 := fun q : QW wr => q.cell b2
          have B3 := fun q : QW wr => q.cell b3
          clear hcell2 hjm hj0
          refine wp_region_qw (by kernel_rfl) (by kernel_rfl) ?_
          repeat (go_big_quiet_step ((first | (go_at_call 10; exact Calls.qw_of (hsound _)) | (go_at_call 11; exact Calls.qw_of (hcall _)))))
          refine wpQuiet_nil ?_
          intro wq hw'
          have hqq := quiet_qw hw'
          clear hw'
          go_wp2_with fail
          go_meet
          exact ⟨rfl, ⟨hqq⟩⟩
      case rest =>
        obtain ⟨rfl, HQz⟩ := hcut
        have HQ0 := Aside1.mk (HQ.out.andThen HQz.out (fun _ _ h => h))
        obtain ⟨wo, hwo⟩ : ∃ wo : World, wo = w3 := ⟨_, rfl⟩
        clear HQ HQz a0 a1 a2 a3 a4 a5 a6 a7
        go_wp2_with fail
        go_loopw [6] (fun v6 wz => ∃ i : Nat, v6 = .int .i64 i ∧ i ≤ j ∧ Aside1 (Quiet w3 wz)) (fun v6 _ => j - (RowKit.intOf v6).toNat)
        case atStart => exact ⟨0, rfl, Nat.zero_le _, HQ0⟩
        case round =>
          clear HQ0
          obtain ⟨i, rfl, hij, HQ⟩ := hrel
          by_cases hik : i < j
          · have hikz : (i : Int) < (j : Int) := by omega
            have hil : i < L.length := by omega
            have hiz : (i : Int) < (L.length : Int) := by omega
            obtain ⟨g1, cap1, hv1, _, _, hcell1⟩ := leases_cell (HL3.out.old HQ.out (fun _ _ h => h)) j hlt
            obtain ⟨g2, cap2, hv2, _, _, hcell2⟩ := leases_cell (HL3.out.old HQ.out (fun _ _ h => h)) i hil
            simp only [Value.slice.injEq, Option.some.injEq, Addr.mk.injEq] at hv1 hv2
            obtain ⟨⟨rfl, _, _⟩, _, _⟩ := hv1
            obtain ⟨⟨rfl, _, _⟩, _, _⟩ := hv2
            have hneg : cmpK (L[i]).key (L[j]).key < 0 := List.pairwise_iff_getElem.1 HSo.out i j hil hlt (by omega)
            have hne : (L[j]).key ≠ (L[i]).key := fun e => by rw [e, (cmpK_zero _ _).2 rfl] at hneg; omega
            have hme := fun W => meets_run W (L[j]).key (L[i]).key
            rw [HG.out.apart _ (List.getElem_mem hlt) _ (List.getElem_mem hil) hne] at hme
            have hun := HUn.out _ (List.getElem_mem hlt) _ (List.getElem_mem hil)
            rw [HX.out] at hcell1 hme hun hne
            obtain ⟨⟨⟨yk, yh, yl, yb⟩, ys, yc, yi, yt⟩, HY⟩ : ∃ x, Aside1 (L[i] = x) := ⟨_, ⟨rfl⟩⟩
            rw [HY.out] at hcell2 hme hun hne
            simp only at hme
            have hcases : ((xs == 1) = false) ∨ ((xs == 1) = true ∧ (ys == 1) = false) ∨ ((xs == 1) = true ∧ (ys == 1) = true ∧ (xk == yk) = false) ∨ ((xs == 1) = true ∧ (ys == 1) = true ∧ (xk == yk) = true ∧ (xc.toList == yc.toList) = false) ∨ ((xs == 1) = true ∧ (ys == 1) = true ∧ (xk == yk) = true ∧ (xc.toList == yc.toList) = true ∧ (xi == yi) = false) := by
              cases e1 : xs == 1 with
              | false => exact .inl rfl
              | true => cases e2 : ys == 1 with
                | false => exact .inr (.inl ⟨rfl, rfl⟩)
                | true => cases e3 : xk == yk with
                  | false => exact .inr (.inr (.inl ⟨rfl, rfl, rfl⟩))
                  | true => cases e4 : xc.toList == yc.toList with
                    | false => exact .inr (.inr (.inr (.inl ⟨rfl, rfl, rfl, rfl⟩)))
                    | true => cases e5 : xi == yi with
                      | false => exact .inr (.inr (.inr (.inr ⟨rfl, rfl, rfl, rfl, rfl⟩)))
                      | true =>
                        exfalso
                        have h3 : xk = yk := beq_iff_eq.1 e3
                        have h4 : xc = yc := (bytes_same _ _).1 (beq_iff_eq.1 e4)
                        have h5 : xi = yi := beq_iff_eq.1 e5
                        have := hun e1 e2 (by simp only [Lease.owner, h3, h4, h5])
                        exact hne (by rw [this])
            have a0 := (hcell1 0 (by omega)).1
            have b0 := (hcell2 0 (by omega)).1
            have a1 := (hcell1 1 (by omega)).1
            have b1 := (hcell2 1 (by omega)).1
            have a2 := (hcell1 2 (by omega)).1
            have b2 := (hcell2 2 (by omega)).1
            have a3 := (hcell1 3 (by omega)).1
            have b3 := (hcell2 3 (by omega)).1
            have a4 := (hcell1 4 (by omega)).1
            have b4 := (hcell2 4 (by omega)).1
            have a5 := (hcell1 5 (by omega)).1
            have b5 := (hcell2 5 (by omega)).1
            have a6 := (hcell1 6 (by omega)).1
            have b6 := (hcell2 6 (by omega)).1
            have a7 := (hcell1 7 (by omega)).1
            have b7 := (hcell2 7 (by omega)).1
            simp only [Lease.cells, List.getElem?_cons_zero, List.getElem?_cons_succ, Nat.add_zero] at a0 a1 a2 a3 a4 a5 a6 a7 b0 b1 b2 b3 b4 b5 b6 b7
            have HCS := Aside1.mk hcases
            clear hcell1 hcell2 hne hneg hun hcases
            have A0 := fun q : QW wr => q.cell a0
            have B0 := fun q : QW wr => q.cell b0
            have A1 := fun q : QW wr => q.cell a1
            have B1 := fun q : QW wr => q.cell b1
            have A2 := fun q : QW wr => q.cell a2
            have B2 := fun q : QW wr => q.cell b2
            have A3 := fun q : QW wr => q.cell a3
            have B3 := fun q : QW wr => q.cell b3
            go_wp2_with fail
            refine wp_region_qw (by kernel_rfl) (by kernel_rfl) ?_
            repeat (go_big_quiet_step ((first | (go_at_call 12; exact Calls.qw_of (hme _)))))
            refine wpQuiet_nil ?_
            intro wq1 hw'
            have hqwq1 := quiet_qw hw'
            clear hw'
            replace a0 := hqwq1.cell a0 (fun h => h)
            replace b0 := hqwq1.cell b0 (fun h => h)
            replace a1 := hqwq1.cell a1 (fun h => h)
            replace b1 := hqwq1.cell b1 (fun h => h)
            replace a2 := hqwq1.cell a2 (fun h => h)
            replace b2 := hqwq1.cell b2 (fun h => h)
            replace a3 := hqwq1.cell a3 (fun h => h)
            replace b3 := hqwq1.cell b3 (fun h => h)
            replace a4 := hqwq1.cell a4 (fun h => h)
            replace b4 := hqwq1.cell b4 (fun h => h)
            replace a5 := hqwq1.cell a5 (fun h => h)
            replace b5 := hqwq1.cell b5 (fun h => h)
            replace a6 := hqwq1.cell a6 (fun h => h)
            replace b6 := hqwq1.cell b6 (fun h => h)
            replace a7 := hqwq1.cell a7 (fun h => h)
            replace b7 := hqwq1.cell b7 (fun h => h)
            clear A0 A1 A2 A3 B0 B1 B2 B3 hme
            have HQ1 := Aside1.mk (HQ.out.andThen hqwq1 (fun _ _ h => h))
            clear HQ hqwq1
            have A0 := fun q : QW wq1 => q.cell a0
            have B0 := fun q : QW wq1 => q.cell b0
            have A4 := fun q : QW wq1 => q.cell a4
            have B4 := fun q : QW wq1 => q.cell b4
            have A5 := fun q : QW wq1 => q.cell a5
            have B5 := fun q : QW wq1 => q.cell b5
            have A6 := fun q : QW wq1 => q.cell a6
            have B6 := fun q : QW wq1 => q.cell b6
            clear a0 a1 a2 a3 a4 a5 a6 a7 b0 b1 b2 b3 b4 b5 b6 b7
            go_wp2_with fail
            rcases HCS.out with e1 | ⟨e1, e2⟩ | ⟨e1, e2, e3⟩ | ⟨e1, e2, e3, e4⟩ | ⟨e1, e2, e3, e4, e5⟩
            all_goals
              refine wp_region_qw (by kernel_rfl) (by kernel_rfl) ?_
              repeat (go_big_quiet_step ((fail)))
              refine wpQuiet_nil ?_
              intro wq2 hw'
              have hqwq2 := quiet_qw hw'
              clear hw'
              go_wp2_with fail
              exact ⟨⟨i + 1, by rw [Int.natCast_add]; rfl, hik, ⟨HQ1.out.andThen hqwq2 (fun _ _ h => h)⟩⟩, by simp [RowKit.intOf]; omega⟩
          · have hikz : ¬ (i : Int) < (j : Int) := by omega
            go_wp2_with fail
            exact ⟨⟨j + 1, by rw [Int.natCast_add]; rfl, hlt, HQ⟩, by simp [RowKit.intOf]; omega⟩
    · have hi : ¬ (j : Int) < (L.length : Int) := by omega
      go_wp2_with fail
      go_ret
      exact ⟨rfl, HQ3.out.andThen HQ.out (fun _ _ h => h)⟩
end Go.Proofs.Ytmegbllhidkmoaa.Tb

/- What the laws on tables share: ends with keys that are in their kinds; Next, All and Copy of a table that is held; Next again. -/
namespace Go.Proofs.Ytmegbllhidkmoaa.Tb
open Go.RowKit Go.Maps
set_option linter.unusedVariables false
def EndsOk (E : List End) : Prop := ∀ e ∈ E, e.key.ok
theorem endsOk_change {E : List End} (h : EndsOk E) {c : Change} (hc : c.lease.ok) : EndsOk (changeEnds E c) := by
  unfold changeEnds
  split
  · exact h
  · intro e he
    rcases List.mem_append.1 ((push_perm E c.lease.fin).mem_iff.1 he) with he | he
    · exact h e he
    · obtain rfl : e = c.lease.fin := by simpa using he
      exact hc.1
theorem endsOk_apply : ∀ (cs : List Change) {E : List End}, EndsOk E → (∀ c ∈ cs, c.lease.ok) → EndsOk (applyEnds E cs)
  | [], E, h, _ => h
  | c :: cs, E, h, hc => endsOk_apply cs (endsOk_change h (hc c List.mem_cons_self)) (fun x hx => hc x (List.mem_cons_of_mem _ hx))
theorem endsOk_applyS {S : List Lease × List End} {cs : List Change} (h : EndsOk S.2) (hc : ∀ c ∈ cs, c.lease.ok) : EndsOk (applyS S cs).2 := by
  unfold applyS; split
  · exact endsOk_apply cs h hc
  · exact h
theorem endsOk_step {S : List Lease × List End} {cs : List Change} (h : EndsOk S.2) (hc : ∀ c ∈ cs, c.lease.ok) : EndsOk (stepS S cs).2 := by
  unfold stepS; split
  · exact endsOk_applyS h hc
  · exact h
theorem endsOk_fold : ∀ (css : List (List Change)) {S : List Lease × List End}, EndsOk S.2 → (∀ cs ∈ css, ∀ c ∈ cs, c.lease.ok) → EndsOk (css.foldl stepS S).2
  | [], S, h, _ => h
  | cs :: css, S, h, hc => endsOk_fold css (endsOk_step h (hc cs List.mem_cons_self)) (fun x hx => hc x (List.mem_cons_of_mem _ hx))
theorem ListsAt.oks {w : World} {v : Value} {css : List (List Change)} (h : ListsAt w v css) : ∀ cs ∈ css, ∀ c ∈ cs, c.lease.ok := by
  obtain ⟨p, cap, rfl, h1, h2, h3⟩ := h
  intro cs hcs c hc
  obtain ⟨i, hi, rfl⟩ := List.getElem_of_mem hcs
  obtain ⟨g, off, vi, _, _, hh⟩ := h3 i hi
  obtain ⟨_, _, _, _, _, _, hok⟩ := hh
  exact hok c hc
theorem endsOk_filled {w : World} {v : Value} {css : List (List Change)} (h : ListsAt w v css) : EndsOk (filledS css).2 :=
  endsOk_fold _ (fun e he => by cases he) (fun cs hcs => h.oks cs (List.mem_of_mem_take hcs))
theorem next_again : ∀ (n : Nat) (L : List Lease) (E : List End), E.length ≤ n → nextR (nextE n L E).length L (nextE n L E) = nextR n L E ∧ (nextE n L E).length ≤ E.length
  | 0, L, E, h => by
    obtain rfl : E = [] := List.length_eq_zero_iff.1 (by omega)
    exact ⟨rfl, Nat.le_refl _⟩
  | n + 1, L, [], _ => ⟨rfl, Nat.le_refl _⟩
  | n + 1, L, e :: E, h => by
    simp only [nextE, nextR]
    by_cases hit : nextHit L e = true
    · rw [if_pos hit, if_pos hit]
      simp only [List.length_cons, nextR, if_pos hit]
      exact ⟨trivial, Nat.le_refl _⟩
    · rw [if_neg hit, if_neg hit]
      have hl : (popped (e :: E)).length = E.length := by rw [popped_len]; simp
      rw [List.length_cons] at h
      have := next_again n L (popped (e :: E)) (by omega)
      exact ⟨this.1, by rw [List.length_cons]; omega⟩
theorem nextE_ok : ∀ (n : Nat) (L : List Lease) (E : List End), EndsOk E → EndsOk (nextE n L E)
  | 0, L, E, h => h
  | n + 1, L, [], _ => fun e he => by cases he
  | n + 1, L, e :: E, h => by
    simp only [nextE]
    split
    · exact h
    · exact nextE_ok n L _ (fun x hx => h x (popped_mem hx))
theorem foot_lt {w : World} {bt b1 b2 N : Nat} {v : Value} {L : List Lease} {E : List End} (h : TabAt w bt b1 b2 v N L E) : ∀ k, Foot bt b1 b2 v k → k < w.heap.size := fun k hk => by
  rcases hk with rfl | rfl | rfl | hk
  · exact (Array.getElem?_eq_some_iff.1 h.blk).1
  · exact h.m1.lt
  · exact h.m2.lt
  · exact ends_lt h.ends hk
/-- Next of a table that is held: it may turn blocks of the table alone. -/
theorem held_next (w w0 wr : World) (bt N : Nat) (S : List Lease × List End) (h : Held w w0 bt N S) (hk : Kept (fun k => w0.heap.size ≤ k) w0 wr) (hN : N ≤ 1000000000) (hE : EndsOk S.2) :
    Calls Try.prog 19 #[.pointer (some ⟨bt, 0, none⟩)] wr fun e w2 => e = .returned (.tuple #[.int .i64 (nextR S.2.length S.1 S.2).1, .bool (nextR S.2.length S.1 S.2).2]) ∧ Held w w2 bt N (S.1, nextE S.2.length S.1 S.2) ∧ Kept (fun k => w.heap.size ≤ k ∧ k < w0.heap.size) wr w2 := by
  obtain ⟨b1, b2, v, hT, hf⟩ := h.tab
  have hsz := h.quiet.size
  have hlt : ∀ k, Foot bt b1 b2 v k → k < w0.heap.size := foot_lt hT
  have hT' := hT.kept hk (fun k hk' h => by have := hlt k hk'; omega)
  refine (tab_next wr bt b1 b2 N v S.1 S.2 hT' hN hE).mono ?_
  rintro e w2 ⟨rfl, v', r1, r2, r3⟩
  have hK : Kept (fun k => w.heap.size ≤ k ∧ k < w0.heap.size) wr w2 := r3.mono (fun k hk' => by
    rcases hk' with rfl | hk'
    · exact ⟨hf _ (.inl rfl), hlt _ (.inl rfl)⟩
    · exact ⟨hf k (.inr (.inr (.inr hk'))), hlt k (.inr (.inr (.inr hk')))⟩)
  refine ⟨rfl, ⟨⟨b1, b2, v', r1, fun k hk => hf k (hk.imp id (fun h => h.imp id (fun h => h.imp id (fun h => by rw [← r2]; exact h))))⟩, h.sorted, h.uniq, (h.quiet.andThen hk (fun i hi h => by omega)).andThen hK (fun i hi h => absurd h.1 (by omega))⟩, hK⟩
theorem Held.kept {w wr w2 : World} {bt N : Nat} {S : List Lease × List End} {U : Nat → Prop} (h : Held w wr bt N S) (hk : Kept U wr w2) (hu : ∀ k, w.heap.size ≤ k → k < wr.heap.size → ¬ U k) (hl : ∀ k, k < w.heap.size → ¬ U k) : Held w w2 bt N S := by
  obtain ⟨b1, b2, v, hT, hf⟩ := h.tab
  have hlt : ∀ k, Foot bt b1 b2 v k → k < wr.heap.size := fun k hk => by
    rcases hk with rfl | rfl | rfl | hk
    · exact (Array.getElem?_eq_some_iff.1 hT.blk).1
    · exact hT.m1.lt
    · exact hT.m2.lt
    · exact ends_lt hT.ends hk
  exact ⟨⟨b1, b2, v, hT.kept hk (fun k hk' => hu k (hf k hk') (hlt k hk')), hf⟩, h.sorted, h.uniq, h.quiet.andThen hk (fun i hi h => hl i hi h)⟩
/-- Block g is of cells that may be written, n or more. -/
def CellsAt (w : World) (g n : Nat) : Prop := ∃ cur T, w.heap[g]? = some (.cells cur T (0, 0)) ∧ n ≤ cur.size
theorem CellsAt.set {w : World} {g n : Nat} (h : CellsAt w g n) (o : Nat) (v : Value) : CellsAt (w.setCell ⟨g, o, none⟩ v) g n := by
  obtain ⟨cur, T, hb, hn⟩ := h
  exact ⟨_, T, heap_setCell_same w g o cur T v hb, by simpa using hn⟩
theorem CellsAt.at {w : World} {g n : Nat} (h : CellsAt w g n) (o : Nat) (ho : o < n) : (∃ v, w.cell? ⟨g, o, none⟩ = some v) ∧ w.frozen? ⟨g, o, none⟩ = false := by
  obtain ⟨cur, T, hb, hn⟩ := h
  refine ⟨⟨cur[o]'(by omega), ?_⟩, (cell_of hb o).2⟩
  rw [(cell_of hb o).1, Array.getElem?_eq_getElem]
theorem LeasesIs.cells {w : World} {B : Nat} {p : Option Addr} {n cap : Nat} {R : List Lease} (h : LeasesIs w B (.slice p n cap) R) (h0 : 0 < R.length) : ∃ g, p = some ⟨g, 0, none⟩ ∧ B ≤ g ∧ g < w.heap.size ∧ CellsAt w g (R.length * 8) ∧ n = R.length := by
  obtain ⟨h1, h2⟩ := h
  rcases h2 with ⟨hv, hh⟩ | ⟨g, cap', cur, hv, hg, hb, hn, hm, hc, ht⟩
  · omega
  · obtain ⟨rfl, rfl, rfl⟩ : p = some ⟨g, 0, none⟩ ∧ n = R.length ∧ cap = cap' := by simpa using hv
    refine ⟨g, rfl, hg, (Array.getElem?_eq_some_iff.1 hb).1, ⟨cur, _, hb, ?_⟩, rfl⟩
    have := congrArg List.length ht
    rw [List.length_take, flat_length _ 8 lcells, Array.length_toList] at this
    omega
end Go.Proofs.Ytmegbllhidkmoaa.Tb

/- What TableViews asks, in plain lists. -/
namespace Go.Proofs.Ytmegbllhidkmoaa.Tb
open Go.RowKit Go.Maps
set_option linter.unusedVariables false
/-! Each thing meets itself. -/
theorem or_ge {x y : Int} (h0 : 0 ≤ x) (h1 : x ≤ 18446744073709551615) : x ≤ Go.bits .or .u64 x y := by
  have h2 : IntKind.u64.bits = 64 := rfl
  have h3 : Go.bits .or .u64 x y = IntKind.u64.wrap (((BitVec.ofInt 64 x) ||| (BitVec.ofInt 64 y)).toNat : Int) := rfl
  have h4 : (BitVec.ofInt 64 x).toNat ≤ ((BitVec.ofInt 64 x) ||| (BitVec.ofInt 64 y)).toNat := by
    rw [BitVec.toNat_or]; exact Nat.left_le_or
  have h5 : ((BitVec.ofInt 64 x) ||| (BitVec.ofInt 64 y)).toNat < 18446744073709551616 := ((BitVec.ofInt 64 x) ||| (BitVec.ofInt 64 y)).isLt
  have h6 : ((BitVec.ofInt 64 x).toNat : Int) = x := by
    rw [BitVec.toNat_ofInt]
    omega
  rw [h3, IntKind.wrap_u64]
  omega
theorem cmpI_le {x y : Int} (h : x ≤ y) : cmpI x y ≤ 0 := by
  unfold cmpI
  by_cases h1 : x < y
  · rw [if_pos h1]; decide
  · rw [if_neg h1, if_neg (by omega)]; decide
theorem cmpA_le {h l h' l' : Int} (h1 : h ≤ h') (h2 : l ≤ l') : cmpA h l h' l' ≤ 0 := by
  unfold cmpA
  have e1 := cmpI_le h1
  have e2 := cmpI_le h2
  simp only [orI]
  split
  · split
    · exact Int.le_refl _
    · exact e2
  · exact e1
theorem has_in {k : Nat} {h l n : Int} {s : Int × Int × Int × Int} (hs : addr_Span.f (k + 3) h l n = some s) (hd : addr_Sound.f (k + 3) h l n = some true) {x y : Int} (h1 : cmpA s.1 s.2.1 x y ≤ 0) (h2 : cmpA x y s.2.2.1 s.2.2.2 ≤ 0) : addr_Has.f (k + 3) h l n x y = some true := by
  unfold addr_Has.f
  rw [hs, hd, Option.bind_some, Option.bind_some, if_pos rfl, cmp_f, Option.bind_some, if_pos h1, cmp_f, Option.bind_some, decide_eq_true h2]
theorem covers_self {h l n : Int} (hh : 0 ≤ h ∧ h ≤ 18446744073709551615) (hl : 0 ≤ l ∧ l ≤ 18446744073709551615) (hd : addr_Sound.f 19 h l n = some true) : addr_Covers.f 19 h l n h l n = some true := by
  obtain ⟨b, hb, hn⟩ := sound_total 18 h l n
  obtain rfl : b = true := by rw [hd] at hb; exact (Option.some.inj hb).symm
  obtain ⟨r, hr⟩ := down_total 18446744073709551615 18446744073709551615 n (by have := hn rfl; omega)
  have hs : addr_Span.f 19 h l n = some (h, l, Go.bits .or .u64 h r.1, Go.bits .or .u64 l r.2) := by
    unfold addr_Span.f
    rw [hd, Option.bind_some, if_pos rfl, hr]; rfl
  have g1 := or_ge (y := r.1) hh.1 hh.2
  have g2 := or_ge (y := r.2) hl.1 hl.2
  have a1 : addr_Has.f 19 h l n h l = some true := has_in (k := 16) hs hd (cmpA_le (Int.le_refl _) (Int.le_refl _)) (cmpA_le g1 g2)
  have a2 : addr_Has.f 19 h l n (Go.bits .or .u64 h r.1) (Go.bits .or .u64 l r.2) = some true := has_in (k := 16) hs hd (cmpA_le g1 g2) (cmpA_le (Int.le_refl _) (Int.le_refl _))
  unfold addr_Covers.f
  rw [hs, hd, Option.bind_some, Option.bind_some, if_pos rfl, a1, Option.bind_some, if_pos rfl, a2]; rfl
theorem sound_128 (h l : Int) : addr_Sound.f 19 h l 128 = some true := by
  have hz : wrap64 (128 - 128) = 0 := by unfold wrap64; omega
  have hc : addr_Clip.f 19 h l 128 = some (h, l, 128, true) := by
    unfold addr_Clip.f
    rw [if_neg (by omega), show decide ((128 : Int) > 128) = false from rfl]
    have hd : addr_Down.f h l (wrap64 (128 - 128)) = some (h, l) := by unfold addr_Down.f; rw [hz, if_pos (by omega)]
    have hu : addr_Up.f h l (wrap64 (128 - 128)) = some (h, l) := by unfold addr_Up.f; rw [hz, if_pos (by omega)]
    show (if false = true then some (0, 0, 0, false) else ((addr_Down.f h l (wrap64 (128 - 128))).bind fun bt108 => ((addr_Up.f bt108.1 bt108.2 (wrap64 (128 - 128))).bind fun bt110 => (some (bt110.1, bt110.2, 128, true))))) = _
    rw [if_neg (by simp), hd, Option.bind_some, hu, Option.bind_some]
  unfold addr_Sound.f
  rw [hc, Option.bind_some]
  simp
theorem u64_in {n : Int} (h : (Lit.int .u64 n).wf = true) : 0 ≤ n ∧ n ≤ 18446744073709551615 := by
  have h1 : IntKind.u64.min ≤ n ∧ n ≤ IntKind.u64.max := by simpa [Lit.wf] using h
  have e1 : IntKind.u64.min = 0 := rfl
  have e2 : IntKind.u64.max = 18446744073709551615 := rfl
  omega
theorem meets_self {k : Key} (h : k.ok) (hr : rightB k = true) : meetsB k k = true := by
  unfold meetsB
  rw [hr]
  by_cases h1 : k.kind = 1 ∨ k.kind = 1
  · rw [if_pos h1, decide_eq_true rfl]; rfl
  · rw [if_neg h1]
    have hd : addr_Sound.f 19 k.hi k.lo k.bits = some true := by
      unfold rightB at hr
      rw [if_neg (by simpa using h1)] at hr
      by_cases h2 : k.kind = 2 ∨ k.kind = 3
      · rw [if_pos h2] at hr
        have h3 : k.bits = 128 := by simpa using hr
        rw [h3]; exact sound_128 _ _
      · rw [if_neg h2] at hr
        by_cases h4 : k.kind = 4
        · rw [if_pos h4] at hr
          simp only [Bool.and_eq_true] at hr
          have h5 := hr.1.1
          unfold soundP at h5
          cases he : addr_Sound.f 19 k.hi k.lo k.bits with
          | none => rw [he] at h5; cases h5
          | some b => rw [he] at h5; exact congrArg some h5
        · rw [if_neg h4] at hr; cases hr
    have hc : coversP k k = true := by
      unfold coversP
      rw [covers_self (u64_in h.2.1) (u64_in h.2.2.1) hd]; rfl
    rw [hc]; rfl
theorem right_of_sound {l : Lease} (h : soundL l = true) : rightB l.key = true := by
  unfold soundL at h
  simp only [Bool.and_eq_true] at h
  exact h.1.1.1
/-! One of a kind. -/
theorem filter_one {x : Lease} {p : Lease → Bool} : ∀ {L : List Lease}, L.Nodup → x ∈ L → (∀ y ∈ L, p y = decide (y = x)) → L.filter p = [x]
  | [], _, h, _ => by cases h
  | a :: t, hn, h, hp => by
    obtain ⟨hn1, hn2⟩ := List.nodup_cons.1 hn
    have ha := hp a List.mem_cons_self
    by_cases he : a = x
    · subst he
      rw [decide_eq_true rfl] at ha
      rw [List.filter_cons_of_pos ha, List.filter_eq_nil_iff.2 fun y hy hpy => ?_]
      rw [hp y (List.mem_cons_of_mem _ hy), decide_eq_true_eq] at hpy
      subst hpy
      exact hn1 hy
    · rw [decide_eq_false he] at ha
      rw [List.filter_cons_of_neg (by rw [ha]; decide)]
      rcases List.mem_cons.1 h with h | h
      · exact absurd h.symm he
      · exact filter_one hn2 h fun y hy => hp y (List.mem_cons_of_mem _ hy)
theorem Sorted.each {L : List Lease} (h : Sorted L) : L.Nodup := List.Pairwise.imp (fun {a b} hab e => by
  subst e
  unfold klt at hab
  rw [(cmpK_zero _ _).2 rfl] at hab
  exact absurd hab (by omega)) h
theorem Sorted.keys {L : List Lease} (h : Sorted L) {a b : Lease} (ha : a ∈ L) (hb : b ∈ L) (hk : a.key = b.key) : a = b := by
  obtain ⟨i, hi, rfl⟩ := List.getElem_of_mem ha
  obtain ⟨j, hj, rfl⟩ := List.getElem_of_mem hb
  rcases Nat.lt_trichotomy i j with h1 | h1 | h1
  · have h2 := List.pairwise_iff_getElem.1 h i j hi hj h1
    unfold klt at h2
    rw [hk, (cmpK_zero _ _).2 rfl] at h2
    exact absurd h2 (by omega)
  · subst h1; rfl
  · have h2 := List.pairwise_iff_getElem.1 h j i hj hi h1
    unfold klt at h2
    rw [hk, (cmpK_zero _ _).2 rfl] at h2
    exact absurd h2 (by omega)
theorem findL_mem {L : List Lease} (h : Sorted L) {x : Lease} (hx : x ∈ L) : findL L x.key = some x := by
  cases hf : findL L x.key with
  | none => exact absurd rfl (findL_none hf x hx)
  | some y =>
    obtain ⟨h1, h2⟩ := findL_some hf
    rw [h.keys h1 hx h2]
theorem findO_mem {L : List Lease} (h : Uniq L) {x : Lease} (hx : x ∈ L) (hb : x.bound = true) : findO L x.owner = some x.key := by
  cases hf : findO L x.owner with
  | none =>
    have := look_none hf (x.owner, x.key) (List.mem_map.2 ⟨x, List.mem_filter.2 ⟨hx, hb⟩, rfl⟩)
    exact absurd rfl this
  | some k =>
    obtain ⟨l, h1, h2, h3, h4⟩ := findO_some hf
    have := h l h1 x hx h2 hb h3
    rw [← h4, this]
theorem meets_one {L : List Lease} (h : Good L) (hs : Sorted L) (hok : ∀ l ∈ L, l.ok) {x : Lease} (hx : x ∈ L) : (L.filter fun l => meetsB x.key l.key) = [x] := by
  refine filter_one hs.each hx fun y hy => ?_
  by_cases he : y = x
  · subst he
    rw [decide_eq_true rfl, meets_self (hok y hy).1 (right_of_sound (h.sound y hy))]
  · rw [decide_eq_false he]
    exact h.apart x hx y hy fun hk => he (hs.keys hx hy hk).symm
def mineOf (L : List Lease) (x : Lease) : List Lease := L.filter fun l => l.bound && decide (l.client = x.client)
def timesIn (x : Lease) (M : List Lease) : Nat := (M.filter fun y => decide (y = x)).length
theorem times_mine {L : List Lease} (hs : Sorted L) {x : Lease} (hx : x ∈ L) : timesIn x (mineOf L x) = if x.bound then 1 else 0 := by
  unfold timesIn
  have hn : (mineOf L x).Nodup := List.Pairwise.filter _ hs.each
  by_cases hb : x.bound = true
  · rw [if_pos hb, filter_one hn (List.mem_filter.2 ⟨hx, by rw [hb, decide_eq_true rfl]; rfl⟩) fun y _ => rfl]; rfl
  · rw [if_neg hb, List.filter_eq_nil_iff.2 fun y hy hd => ?_]; · rfl
    rw [decide_eq_true_eq] at hd
    subst hd
    have := (List.mem_filter.1 hy).2
    simp [hb] at this
theorem times_next {x : Lease} {M : List Lease} {k : Nat} (h : k < M.length) : timesIn x (M.take (k + 1)) = timesIn x (M.take k) + (if M[k]'h = x then 1 else 0) := by
  unfold timesIn
  rw [List.take_succ_eq_append_getElem h, List.filter_append, List.length_append]
  by_cases he : M[k]'h = x
  · rw [if_pos he, List.filter_cons_of_pos (by rw [decide_eq_true he])]; rfl
  · rw [if_neg he, List.filter_cons_of_neg (by rw [decide_eq_false he]; decide)]; rfl
theorem times_le (x : Lease) (M : List Lease) : timesIn x M ≤ M.length := List.length_filter_le _ _
/-! How many have come to their end; the least end. -/
def dueN (q : Int) (L : List Lease) : Nat := (L.filter fun l => decide (l.till ≤ q)).length
theorem due_le (q : Int) (L : List Lease) : dueN q L ≤ L.length := List.length_filter_le _ _
theorem due_next {q : Int} {L : List Lease} {j : Nat} (h : j < L.length) : dueN q (L.take (j + 1)) = dueN q (L.take j) + (if (L[j]'h).till ≤ q then 1 else 0) := by
  unfold dueN
  rw [List.take_succ_eq_append_getElem h, List.filter_append, List.length_append]
  by_cases he : (L[j]'h).till ≤ q
  · rw [if_pos he, List.filter_cons_of_pos (by rw [decide_eq_true he])]; rfl
  · rw [if_neg he, List.filter_cons_of_neg (by rw [decide_eq_false he]; decide)]; rfl
def leastL : List Lease → Int
  | [] => 0
  | x :: t => t.foldl (fun m y => if y.till < m then y.till else m) x.till
theorem least_next {L : List Lease} {j : Nat} (h : j < L.length) : leastL (L.take (j + 1)) = if j = 0 ∨ (L[j]'h).till < leastL (L.take j) then (L[j]'h).till else leastL (L.take j) := by
  rw [List.take_succ_eq_append_getElem h]
  cases L with
  | nil => simp at h
  | cons x t =>
    cases j with
    | zero => simp [leastL]
    | succ j =>
      simp only [List.take_succ_cons, List.cons_append, leastL, List.foldl_append, List.foldl_cons, List.foldl_nil, Nat.add_one_ne_zero, false_or]
theorem least_fold : ∀ (t : List Lease) (m : Int), (t.foldl (fun m y => if y.till < m then y.till else m) m = m ∨ ∃ y ∈ t, t.foldl (fun m y => if y.till < m then y.till else m) m = y.till) ∧ t.foldl (fun m y => if y.till < m then y.till else m) m ≤ m ∧ ∀ y ∈ t, t.foldl (fun m y => if y.till < m then y.till else m) m ≤ y.till
  | [], m => ⟨.inl rfl, Int.le_refl _, fun y hy => by cases hy⟩
  | x :: t, m => by
    simp only [List.foldl_cons]
    by_cases h : x.till < m
    · simp only [if_pos h]
      obtain ⟨h1, h2, h3⟩ := least_fold t x.till
      refine ⟨.inr ?_, by omega, fun y hy => ?_⟩
      · rcases h1 with h1 | ⟨y, hy, h1⟩
        · exact ⟨x, List.mem_cons_self, h1⟩
        · exact ⟨y, List.mem_cons_of_mem _ hy, h1⟩
      · rcases List.mem_cons.1 hy with rfl | hy
        · exact h2
        · exact h3 y hy
    · simp only [if_neg h]
      obtain ⟨h1, h2, h3⟩ := least_fold t m
      refine ⟨?_, h2, fun y hy => ?_⟩
      · rcases h1 with h1 | ⟨y, hy, h1⟩
        · exact .inl h1
        · exact .inr ⟨y, List.mem_cons_of_mem _ hy, h1⟩
      · rcases List.mem_cons.1 hy with rfl | hy
        · omega
        · exact h3 y hy
theorem least_eq {L : List Lease} {x : Lease} (hx : x ∈ L) (h : ∀ y ∈ L, x.till ≤ y.till) : leastL L = x.till := by
  cases L with
  | nil => cases hx
  | cons a t =>
    obtain ⟨h1, h2, h3⟩ := least_fold t a.till
    have h4 : x.till ≤ leastL (a :: t) := by
      show x.till ≤ t.foldl (fun m y => if y.till < m then y.till else m) a.till
      rcases h1 with h1 | ⟨y, hy, h1⟩
      · rw [h1]; exact h a List.mem_cons_self
      · rw [h1]; exact h y (List.mem_cons_of_mem _ hy)
    have h5 : leastL (a :: t) ≤ x.till := by
      unfold leastL
      rcases List.mem_cons.1 hx with rfl | hx
      · exact h2
      · exact h3 x hx
    omega
theorem next_least : ∀ (n : Nat) (L : List Lease) (E : List End), Sorted L → HeapE E → E.length ≤ n → (∀ x ∈ L, x.fin ∈ E) → nextR n L E = (leastL L, decide (0 < L.length)) := by
  have hnil : ∀ L : List Lease, (∀ x ∈ L, x.fin ∈ ([] : List End)) → ((0 : Int), false) = (leastL L, decide (0 < L.length)) := fun L h => by
    cases L with
    | nil => rfl
    | cons x t => cases h x List.mem_cons_self
  intro n
  induction n with
  | zero =>
    intro L E hs hh hl h
    obtain rfl : E = [] := List.length_eq_zero_iff.1 (by omega)
    exact hnil L h
  | succ n ih =>
    intro L E hs hh hl h
    cases E with
    | nil => exact hnil L h
    | cons e E =>
      simp only [nextR]
      by_cases hit : nextHit L e = true
      · rw [if_pos hit]
        unfold nextHit at hit
        cases hf : findL L e.key with
        | none => rw [hf] at hit; cases hit
        | some x =>
          rw [hf] at hit
          obtain ⟨h1, h2⟩ := findL_some hf
          have h3 : x.till = e.till := by simpa using hit
          rw [least_eq h1 (fun y hy => by rw [h3]; exact heap_least e E hh y.fin (h y hy)), h3, decide_eq_true (List.length_pos_of_mem h1)]
      · rw [if_neg hit]
        obtain ⟨h1, h2⟩ := popped_spec e E hh
        refine ih L _ hs h1 (by rw [popped_len]; simp at hl ⊢; omega) fun x hx => ?_
        rw [h2.mem_iff]
        rcases List.mem_cons.1 (h x hx) with he | he
        · exfalso
          apply hit
          unfold nextHit
          rw [← he, show x.fin.key = x.key from rfl, findL_mem hs hx]
          simp [Lease.fin]
        · exact he
/-! The ends of a table that is filled. -/
structure Ended (S : List Lease × List End) : Prop where
  heap : HeapE S.2
  all : ∀ x ∈ S.1, x.fin ∈ S.2
theorem ended_nil : Ended ([], []) := ⟨fun i h0 h => by simp at h, fun x h => by cases h⟩
theorem ended_change {L : List Lease} {E : List End} (h : Ended (L, E)) (c : Change) : Ended (changeL L c, changeEnds E c) := by
  unfold changeL changeEnds
  by_cases hg : c.gone = true
  · simp only [if_pos hg]
    exact ⟨h.heap, fun x hx => h.all x (mem_without.1 hx).1⟩
  · simp only [if_neg hg]
    refine ⟨push_heap h.heap _, fun x hx => (push_perm E c.lease.fin).mem_iff.2 ?_⟩
    rcases mem_putL.1 hx with rfl | hx
    · simp
    · exact List.mem_append.2 (.inl (h.all x hx.1))
theorem ended_apply : ∀ (cs : List Change) {L : List Lease} {E : List End}, Ended (L, E) → Ended (applyL L cs, applyEnds E cs)
  | [], L, E, h => h
  | c :: cs, L, E, h => ended_apply cs (ended_change h c)
theorem ended_step {S : List Lease × List End} (h : Ended S) (cs : List Change) : Ended (stepS S cs) := by
  unfold stepS
  split
  · split
    · exact ended_apply cs h
    · exact h
  · exact h
theorem ended_fold : ∀ (css : List (List Change)) {S : List Lease × List End}, Ended S → Ended (css.foldl stepS S)
  | [], S, h => h
  | cs :: css, S, h => ended_fold css (ended_step h cs)
theorem ended_filled (css : List (List Change)) : Ended (filledS css) := ended_fold _ ended_nil
theorem filled_next (css : List (List Change)) (hs : Sorted (filledS css).1) : nextR (filledS css).2.length (filledS css).1 (filledS css).2 = (leastL (filledS css).1, decide (0 < (filledS css).1.length)) :=
  next_least _ _ _ hs (ended_filled css).heap (Nat.le_refl _) (ended_filled css).all
end Go.Proofs.Ytmegbllhidkmoaa.Tb
