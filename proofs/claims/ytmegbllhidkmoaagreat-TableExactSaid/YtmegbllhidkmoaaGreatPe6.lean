/- A region that draws its order: what only reads is walked first, in one order; the rest in every order. -/
import Derived.Test.YtmegbllhidkmoaaGreatPe3
import Derived.Deep.RegionHeld
import Derived.Test.YtmegbllhidkmoaaGreatPe4
import Derived.Test.YtmegbllhidkmoaaGreatPe5
namespace Go.Proofs.YtmegbllhidkmoaaGreat.Tb
open Go.RowKit
set_option linter.unusedVariables false
/-- An operation that yields a value or halts. -/
def stillB (o : Oper) : Bool := match o.op with
  | .move _ | .assign _ | .pick _ _ _ | .load _ _ | .binOp _ _ _ _ _ | .unOp _ _ _ | .fieldAddr _ _ _ => true
  | _ => false
theorem sem_value {s : Sem Value} {P : Program} {w w' : World} {n : Next} (h : (do pure (Next.value (← s)) : Sem Next).run P w = .ok n w') : ∃ v, n = .value v := by
  simp only [Sem.run_bind] at h
  cases hs : s.run P w with
  | ok u w'' => rw [hs] at h; simp at h; exact ⟨u, h.1.symm⟩
  | halt x w'' => rw [hs] at h; simp at h
theorem still_value {o : Oper} (hs : stillB o = true) {ρ : Operand → Value} {P : Program} {w w' : World} {n : Next} (h : (execOp ρ o).run P w = .ok n w') : ∃ v, n = .value v := by
  unfold stillB at hs
  unfold execOp at h
  split at hs
  · rename_i hop; rw [hop] at h; exact ⟨_, by simpa using (Result.ok.inj h).1.symm⟩
  · rename_i hop; rw [hop] at h; exact ⟨_, by simpa using (Result.ok.inj h).1.symm⟩
  · rename_i c x y hop
    rw [hop] at h
    simp only [Sem.run_bind] at h
    cases hb : (asBool (ρ c)).run P w with
    | ok u w'' => rw [hb] at h; simp at h; exact ⟨_, h.1.symm⟩
    | halt x w'' => rw [hb] at h; simp at h
  · rename_i hop; rw [hop] at h; exact sem_value h
  · rename_i hop; rw [hop] at h; exact sem_value h
  · rename_i hop; rw [hop] at h; exact sem_value h
  · rename_i hop; rw [hop] at h; exact sem_value h
  · cases hs
theorem still_run {o : Oper} (hs : stillB o = true) {P : Program} {C : World → Prop} {a : Act} {w : World} {v : Value} (h : o.quietAt P a C w v) : (execOp a.eval o).run P w = .ok (.value v) w := by
  unfold Oper.quietAt at h
  cases hr : (execOp a.eval o).run P w with
  | ok n w' =>
    obtain ⟨u, rfl⟩ := still_value hs hr
    rw [hr] at h
    obtain ⟨h1, h2⟩ := h
    rw [h1, h2]
  | halt x w' => rw [hr] at h; exact h.elim
def preB (md : Region.Mode) (ops : Array Oper) : List Nat → Array Bool → Bool
  | [], _ => true
  | i :: is, listed => (Region.ready md ops listed).contains i && Region.free md ops listed i && ((ops[i]?).map stillB).getD false && preB md ops is (listed.setIfInBounds i true)
theorem wpAnyH_pre {P : Program} {md : Region.Mode} {ops : Array Oper} {Q : Exit → Act → World → Prop} {C : World → Prop} (hs : Region.noSelect ops = true) (hQ : ∀ (o : Oper) v c a w, Q (.panic c) (a.put o.dst v) w → Q (.panic c) a w) (n : Nat) :
    ∀ (is : List Nat) (listed : Array Bool) (a : Act) (w : World), preB md ops is listed = true → C w →
      wpQuiet P ops C (fun a' => ∀ w', C w' → wpAnyH P md ops Q C n (is.foldl (fun b i => b.setIfInBounds i true) listed) a' w') (is.filterMap fun i => ops[i]?) a → wpAnyH P md ops Q C (is.length + n) listed a w
  | [], listed, a, w, _, hC, h => by
    rw [List.length_nil, Nat.zero_add]
    exact h w hC
  | i :: is, listed, a, w, hB, hC, h => by
    simp only [preB, Bool.and_eq_true] at hB
    obtain ⟨⟨⟨hr, hf⟩, hst⟩, hB'⟩ := hB
    cases hi : ops[i]? with
    | none => rw [hi] at hst; cases hst
    | some o =>
      rw [hi] at hst
      have hst : stillB o = true := hst
      rw [List.filterMap_cons, hi] at h
      have hl : (i :: is).length + n = (is.length + n) + 1 := by rw [List.length_cons]; omega
      rw [hl]
      have h' : if Region.wanted o (yielded ops a.tmps) then o.quiet P a C (wpQuiet P ops C _ (is.filterMap fun i => ops[i]?)) else wpQuiet P ops C _ (is.filterMap fun i => ops[i]?) (a.put o.dst undef) := h
      by_cases hw : Region.wanted o (yielded ops a.tmps) = true
      · rw [if_pos hw] at h'
        obtain ⟨v, hv, hk⟩ := h'
        exact wpAnyH_take hi hs hf hr (hQ o v) (.inl ⟨hw, fun w' hw' => still_run hst (hv w' hw')⟩) hC (wpAnyH_pre hs hQ n is _ _ w hB' hC hk)
      · rw [if_neg hw] at h'
        exact wpAnyH_take hi hs hf hr (hQ o undef) (.inr ⟨by simpa using hw, rfl⟩) hC (wpAnyH_pre hs hQ n is _ _ w hB' hC h')
theorem wp_region_then {P : Program} {id : Nat} {Q : Exit → Act → World → Prop} {a : Act} {w : World} {ops : List Oper} (is : List Nat) (pick : List Oper → List Oper) (n : Nat) (hm : P.follows .mixedOrders = true) (hs : Region.noSelect ops.toArray = true)
    (hQ : ∀ (o : Oper) v c a w, Q (.panic c) (a.put o.dst v) w → Q (.panic c) a w) (hB : preB .any ops.toArray is (Array.replicate ops.toArray.size false) = true) (hn : ops.toArray.size = is.length + n)
    (hp : (is.filterMap fun i => ops.toArray[i]?) = pick ops)
    (h : wpQuiet P ops.toArray (fun w' => ∃ q : QW w, w' = q.wd) (fun a' => ∀ w', (∃ q : QW w, w' = q.wd) → wpAnyH P .any ops.toArray Q (fun w' => ∃ q : QW w, w' = q.wd) n (is.foldl (fun b i => b.setIfInBounds i true) (Array.replicate ops.toArray.size false)) a' w') (pick ops) a) :
    (Code.region id ops.toArray true).wp P Q a w := by
  refine wp_region_held (S := fun w' => ∃ q : QW w, w' = q.wd) hm ?_
  rw [hn]
  exact wpAnyH_pre hs hQ n is _ _ _ (by rw [← hn]; exact hB) ⟨⟨w.drew, (Kept.refl _ w).drew⟩, rfl⟩ (by rw [← hn, hp]; exact h)
end Go.Proofs.YtmegbllhidkmoaaGreat.Tb

/- What TableViews asks of a table that is held. -/
namespace Go.Proofs.YtmegbllhidkmoaaGreat.Tb
open Go.RowKit Go.Maps Go.Shelf Go.Proofs.YtmegbllhidkmoaaGreatW.PrintWords Go.Proofs.YtmegbllhidkmoaaGreatW.PrintLast Go.Proofs.YtmegbllhidkmoaaGreatW.PrintMore
set_option linter.unusedVariables false
theorem Held.oks {w wr : World} {bt N : Nat} {S : List Lease × List End} (h : Held w wr bt N S) : ∀ l ∈ S.1, l.ok := by
  obtain ⟨b1, b2, v, hT, _⟩ := h.tab
  exact hT.oks
theorem held_find (w wr : World) (bt N : Nat) (S : List Lease × List End) (h : Held w wr bt N S) (x : Lease) (hx : x ∈ S.1) :
    Calls Tryz.prog 17 #[.pointer (some ⟨bt, 0, none⟩), .int .i64 x.key.kind, .agg #[.int .u64 x.key.hi, .int .u64 x.key.lo, .int .i64 x.key.bits]] wr fun e w2 => e = .returned (.tuple #[x.val, .bool true]) ∧ Quiet wr w2 := by
  obtain ⟨b1, b2, v, hT, hf⟩ := h.tab
  have := tab_find wr bt b1 b2 N v S.1 S.2 hT x.key (hT.oks x hx).1
  rw [findL_mem h.sorted hx] at this
  exact this
theorem held_of (w wr : World) (bt N : Nat) (S : List Lease × List End) (h : Held w wr bt N S) (x : Lease) (hx : x ∈ S.1) (hb : x.bound = true) :
    Calls Tryz.prog 16 #[.pointer (some ⟨bt, 0, none⟩), .int .i64 x.key.kind, .string x.client, .int .u32 x.iaid] wr fun e w2 => e = .returned (.tuple #[x.val, .bool true]) ∧ Quiet wr w2 := by
  obtain ⟨b1, b2, v, hT, hf⟩ := h.tab
  have := tab_of wr bt b1 b2 N v S.1 S.2 hT x.owner (Lease.owner_ok (hT.oks x hx))
  rw [findO_mem h.uniq hx hb, Option.getD_some, findL_mem h.sorted hx] at this
  exact this
theorem held_of_any (w wr : World) (bt N : Nat) (S : List Lease × List End) (h : Held w wr bt N S) (x : Lease) (hx : x ∈ S.1) (y : Lease) (f : Bool) (hy : (findL S.1 ((findO S.1 x.owner).getD zeroKey)).getD zeroLease = y) (hf' : (findO S.1 x.owner).isSome = f) :
    Calls Tryz.prog 16 #[.pointer (some ⟨bt, 0, none⟩), .int .i64 x.key.kind, .string x.client, .int .u32 x.iaid] wr fun e w2 => e = .returned (.tuple #[y.val, .bool f]) ∧ Quiet wr w2 := by
  obtain ⟨b1, b2, v, hT, hf⟩ := h.tab
  have := tab_of wr bt b1 b2 N v S.1 S.2 hT x.owner (Lease.owner_ok (hT.oks x hx))
  rw [hy, hf'] at this
  exact this
theorem held_client (w wr : World) (bt N : Nat) (S : List Lease × List End) (h : Held w wr bt N S) (hN : N ≤ 1000000000) (x : Lease) :
    Calls Tryz.prog 19 #[.pointer (some ⟨bt, 0, none⟩), .string x.client] wr fun e w2 => ∃ v', e = .returned v' ∧ LeasesIs w2 wr.heap.size v' (mineOf S.1 x) ∧ Quiet wr w2 := by
  obtain ⟨b1, b2, v, hT, hf⟩ := h.tab
  exact tab_client wr bt b1 b2 N v S.1 S.2 hT hN h.sorted x.client
theorem held_meets (w wr : World) (bt N : Nat) (S : List Lease × List End) (h : Held w wr bt N S) (hG : Good S.1) (hN : N ≤ 1000000000) (x : Lease) (hx : x ∈ S.1) :
    Calls Tryz.prog 28 #[.pointer (some ⟨bt, 0, none⟩), .int .i64 x.key.kind, .agg #[.int .u64 x.key.hi, .int .u64 x.key.lo, .int .i64 x.key.bits]] wr fun e w2 => ∃ v', e = .returned v' ∧ LeasesIs w2 wr.heap.size v' [x] ∧ Quiet wr w2 := by
  have hok := h.oks
  obtain ⟨b1, b2, v, hT, hf⟩ := h.tab
  have := tab_meets wr bt b1 b2 N v S.1 S.2 hT hN h.sorted x.key
  rw [meets_one hG h.sorted hok hx] at this
  exact this
theorem held_due (w wr : World) (bt N : Nat) (S : List Lease × List End) (h : Held w wr bt N S) (hN : N ≤ 1000000000) (q : Int) :
    Calls Tryz.prog 18 #[.pointer (some ⟨bt, 0, none⟩), .int .i64 q] wr fun e w2 => ∃ v' R, e = .returned v' ∧ Aside1 (R.length = dueN q S.1) ∧ Late R ∧ LeasesIs w2 wr.heap.size v' R ∧ Quiet wr w2 := by
  obtain ⟨b1, b2, v, hT, hf⟩ := h.tab
  refine (tab_due wr bt b1 b2 N v S.1 S.2 hT hN h.sorted q).mono ?_
  rintro e w2 ⟨v', R, rfl, hp, hl, hi, hq⟩
  exact ⟨v', R, rfl, ⟨hp.length_eq⟩, hl, hi, hq⟩
theorem late_le {R : List Lease} (h : Late R) {i j : Nat} (hi : i < R.length) (hj : j < R.length) (hij : i < j) : (R[i]'hi).till ≤ (R[j]'hj).till := by
  have h1 := List.pairwise_iff_getElem.1 h i j hi hj hij
  rcases h1 with h1 | ⟨h1, _⟩
  · rw [cmpT, cmpI_neg] at h1; omega
  · rw [cmpT, cmpI_neg] at h1; omega
/-- A lease in a block of its own. -/
def BoxAt (w : World) (b : Nat) (x : Lease) : Prop := ∃ T, w.heap[b]? = some (.cells x.cells.toArray T (0, 0))
theorem BoxAt.cell {w : World} {b : Nat} {x : Lease} (h : BoxAt w b x) (i : Nat) : w.cell? ⟨b, i, none⟩ = x.cells[i]? := by
  obtain ⟨T, hb⟩ := h
  have := (cell_of hb i).1
  rw [List.getElem?_toArray] at this
  exact this
theorem BoxAt.keep {U : Nat → Prop} {w w' : World} {b : Nat} {x : Lease} (h : BoxAt w b x) (hk : Kept U w w') (hu : ¬ U b) : BoxAt w' b x := by
  obtain ⟨T, hb⟩ := h
  exact ⟨T, (hk.block b (Array.getElem?_eq_some_iff.1 hb).1 hu).trans hb⟩
/-- same, of what Meets tells and of a row that has just been laid. -/
theorem same_row (X : World) (B : Nat) (a : Value) (x : Lease) (h : LeasesIs (X.alloc (.cells x.cells.toArray 30)) B a [x]) :
    Calls Tryz.prog 10 #[a, .slice (some ⟨X.heap.size, 0, none⟩) 1 1] (X.alloc (.cells x.cells.toArray 30)) fun e w' => e = .returned (.bool true) ∧ Quiet (X.alloc (.cells x.cells.toArray 30)) w' := by
  have hr : LeasesIs (X.alloc (.cells x.cells.toArray 30)) 0 (.slice (some ⟨X.heap.size, 0, none⟩) 1 1) [x] := leases_row [x] (by simpa using heap_alloc_new X _) (show 1 ≤ maxLen by decide)
  refine (same_run _ B 0 _ _ [x] [x] h hr).mono ?_
  rintro e w' ⟨rfl, hq⟩
  exact ⟨by rw [decide_eq_true rfl], hq⟩
/-- The same, where the row was laid before Meets was asked. -/
theorem same_row2 (X W : World) (B b : Nat) (a : Value) (x : Lease) (hb : W.heap[b]? = some (.cells x.cells.toArray 30 (0, 0))) (h : LeasesIs W B a [x]) :
    Calls Tryz.prog 10 #[a, .slice (some ⟨b, 0, none⟩) 1 1] W fun e w' => e = .returned (.bool true) ∧ Quiet W w' := by
  have hr : LeasesIs W 0 (.slice (some ⟨b, 0, none⟩) 1 1) [x] := leases_row [x] (by simpa using hb) (show 1 ≤ maxLen by decide)
  refine (same_run _ B 0 _ _ [x] [x] h hr).mono ?_
  rintro e w' ⟨rfl, hq⟩
  exact ⟨by rw [decide_eq_true rfl], hq⟩
end Go.Proofs.YtmegbllhidkmoaaGreat.Tb

/- The laws' awake. -/
namespace Go.Proofs.YtmegbllhidkmoaaGreat.Tb
open Go.RowKit Go.Maps Go.Shelf Go.Proofs.YtmegbllhidkmoaaGreatW.PrintWords Go.Proofs.YtmegbllhidkmoaaGreatW.PrintLast Go.Proofs.YtmegbllhidkmoaaGreatW.PrintMore
set_option linter.unusedVariables false
attribute [local go_sem high] eqA30
theorem fldL_1 (a b c d e f g h : Value) (w : World) : (Instr.field 30 (.agg #[a, b, c, d, e, f, g, h]) 1).run Tryz.prog w = .ok (.agg #[b, c, d]) w := by kernel_rfl
attribute [local go_sem] fldL_1
theorem host_lit (w : World) (n : Int) (c : ByteArray) (t : Int) : Calls Tryz.prog 14 #[.int .u64 n, .string c, .int .i64 t] w fun e w' => e = .returned (.agg #[.int .i64 1, .int .u64 0, .int .u64 n, .int .i64 128, .int .i64 1, .string c, .int .u32 0, .int .i64 t]) ∧ Quiet w w' := host_run w n c t
theorem la_ok : la.ok := ⟨⟨rfl, rfl, rfl, rfl⟩, rfl, by decide, rfl, rfl⟩
theorem lb_ok : lb.ok := ⟨⟨rfl, rfl, rfl, rfl⟩, rfl, by decide, rfl, rfl⟩
theorem lc_ok : lc.ok := ⟨⟨rfl, rfl, rfl, rfl⟩, rfl, by decide, rfl, rfl⟩
theorem aw_ok1 : ∀ c ∈ [(⟨false, la⟩ : Change), ⟨false, lb⟩], c.lease.ok := by
  intro c hc
  rcases List.mem_cons.1 hc with rfl | hc
  · exact la_ok
  · rcases List.mem_cons.1 hc with rfl | hc
    · exact lb_ok
    · cases hc
theorem aw_ok2 : ∀ c ∈ [(⟨false, lc⟩ : Change)], c.lease.ok := by
  intro c hc
  rcases List.mem_cons.1 hc with rfl | hc
  · exact lc_ok
  · cases hc
theorem aw_s1 : applyS ([], []) [⟨false, la⟩, ⟨false, lb⟩] = (awL, awE) := by unfold applyS; rw [if_pos aw_e1, aw_l1, aw_n1]
theorem aw_s2 : applyS (awL, awE) [⟨false, lc⟩] = (awL, awE) := by unfold applyS; rw [if_neg (by rw [aw_e2]; decide)]
theorem aw_ap1 (w wr : World) (bt : Nat) (h : Held w wr bt 0 ([], [])) (vc : Value) (hc : ChangesAt wr vc [⟨false, la⟩, ⟨false, lb⟩]) :
    Calls Tryz.prog 7 #[.pointer (some ⟨bt, 0, none⟩), vc] wr fun e w2 => e = .returned (.int .i64 0) ∧ Held w w2 bt 2 (awL, awE) := by
  refine (held_apply w wr bt 0 _ h vc _ hc (by decide)).mono ?_
  rintro e w2 ⟨rfl, h2, _⟩
  rw [aw_s1] at h2
  exact ⟨by rw [aw_e1], h2⟩
theorem aw_ap2 (w wr : World) (bt : Nat) (h : Held w wr bt 2 (awL, awE)) (vc : Value) (hc : ChangesAt wr vc [⟨false, lc⟩]) :
    Calls Tryz.prog 7 #[.pointer (some ⟨bt, 0, none⟩), vc] wr fun e w2 => e = .returned (.int .i64 90) ∧ Held w w2 bt 3 (awL, awE) := by
  refine (held_apply w wr bt 2 _ h vc _ hc (by decide)).mono ?_
  rintro e w2 ⟨rfl, h2, _⟩
  rw [aw_s2] at h2
  exact ⟨by rw [aw_e2], h2⟩
theorem aw_nx (w wr : World) (bt : Nat) (h : Held w wr bt 3 (awL, awE)) :
    Calls Tryz.prog 15 #[.pointer (some ⟨bt, 0, none⟩)] wr fun e w2 => e = .returned (.tuple #[.int .i64 9, .bool true]) ∧ Held w w2 bt 3 (awL, awE) := by
  obtain ⟨b1, b2, v, hT, hf⟩ := h.tab
  refine (tab_next wr bt b1 b2 3 v awL awE hT (by decide) ?_).mono ?_
  · intro e he
    rcases List.mem_cons.1 he with rfl | he
    · exact lb_ok.1
    · rcases List.mem_cons.1 he with rfl | he
      · exact la_ok.1
      · cases he
  · rintro e w2 ⟨rfl, v', r1, r2, r3⟩
    have e1 : nextR awE.length awL awE = (9, true) := aw_next
    have e2 : nextE awE.length awL awE = awE := aw_nextE
    rw [e2] at r1
    rw [e1]
    have hbt := hf bt (.inl rfl)
    exact ⟨rfl, ⟨⟨b1, b2, v', r1, fun k hk => hf k (hk.imp id (fun h => h.imp id (fun h => h.imp id (fun h => by rw [← r2]; exact h))))⟩, h.sorted, h.uniq, h.quiet.andThen r3 (fun i hi e => by
      rcases e with e | e
      · omega
      · have := hf i (.inr (.inr (.inr e))); omega)⟩⟩
theorem aw_of (w wr : World) (bt : Nat) (h : Held w wr bt 3 (awL, awE)) :
    Calls Tryz.prog 16 #[.pointer (some ⟨bt, 0, none⟩), .int .i64 1, .string ⟨#[97]⟩, .int .u32 0] wr fun e w2 => e = .returned (.tuple #[.agg #[.int .i64 1, .int .u64 0, .int .u64 5, .int .i64 128, .int .i64 1, .string ⟨#[97]⟩, .int .u32 0, .int .i64 10], .bool true]) ∧ Quiet wr w2 := by
  obtain ⟨b1, b2, v, hT, hf⟩ := h.tab
  refine (tab_of wr bt b1 b2 3 v awL awE hT ⟨1, ⟨#[97]⟩, 0⟩ ⟨rfl, by decide, rfl⟩).mono ?_
  rintro e w2 ⟨rfl, hq⟩
  rw [aw_ofk, aw_ofs, aw_ofl]
  exact ⟨rfl, hq⟩
theorem aw_fi (w wr : World) (bt : Nat) (h : Held w wr bt 3 (awL, awE)) :
    Calls Tryz.prog 17 #[.pointer (some ⟨bt, 0, none⟩), .int .i64 1, .agg #[.int .u64 0, .int .u64 6, .int .i64 128]] wr fun e w2 => e = .returned (.tuple #[.agg #[.int .i64 1, .int .u64 0, .int .u64 6, .int .i64 128, .int .i64 1, .string ⟨#[98]⟩, .int .u32 0, .int .i64 9], .bool true]) ∧ Quiet wr w2 := by
  obtain ⟨b1, b2, v, hT, hf⟩ := h.tab
  refine (tab_find wr bt b1 b2 3 v awL awE hT lb.key lb_ok.1).mono ?_
  rintro e w2 ⟨rfl, hq⟩
  rw [aw_find, aw_finds]
  exact ⟨rfl, hq⟩
theorem aw_du (w wr : World) (bt : Nat) (h : Held w wr bt 3 (awL, awE)) :
    Calls Tryz.prog 18 #[.pointer (some ⟨bt, 0, none⟩), .int .i64 10] wr fun e w2 => ∃ v', e = .returned v' ∧ LeasesIs w2 wr.heap.size v' [lb, la] ∧ Quiet wr w2 := by
  obtain ⟨b1, b2, v, hT, hf⟩ := h.tab
  refine (tab_due_small wr bt b1 b2 3 v awL awE hT (by decide) h.sorted 10 awL aw_due (by decide) (by decide)).mono ?_
  rintro e w2 ⟨v', rfl, hl, hq⟩
  rw [aw_sorted] at hl
  exact ⟨v', rfl, hl, hq⟩
theorem aw_al (w wr : World) (bt : Nat) (h : Held w wr bt 3 (awL, awE)) :
    Calls Tryz.prog 11 #[.pointer (some ⟨bt, 0, none⟩)] wr fun e w2 => ∃ v', e = .returned v' ∧ LeasesIs w2 wr.heap.size v' [la, lb] ∧ Quiet wr w2 := by
  obtain ⟨b1, b2, v, hT, hf⟩ := h.tab
  exact tab_all wr bt b1 b2 3 v awL awE hT (by decide) h.sorted
theorem aw_cl (w wr : World) (bt : Nat) (h : Held w wr bt 3 (awL, awE)) :
    Calls Tryz.prog 19 #[.pointer (some ⟨bt, 0, none⟩), .string ⟨#[97]⟩] wr fun e w2 => ∃ v', e = .returned v' ∧ LeasesIs w2 wr.heap.size v' [la] ∧ Quiet wr w2 := by
  obtain ⟨b1, b2, v, hT, hf⟩ := h.tab
  have := tab_client wr bt b1 b2 3 v awL awE hT (by decide) h.sorted ⟨#[97]⟩
  rw [aw_client] at this
  exact this
theorem held_size (w wr : World) (bt N : Nat) (S : List Lease × List End) (h : Held w wr bt N S) :
    Calls Tryz.prog 20 #[.pointer (some ⟨bt, 0, none⟩)] wr fun e w2 => e = .returned (.int .i64 (S.1.length : Int)) ∧ Quiet wr w2 := by
  obtain ⟨b1, b2, v, hT, hf⟩ := h.tab
  exact tab_size wr bt b1 b2 N v S.1 S.2 hT
theorem held_copy (w wr : World) (bt N : Nat) (S : List Lease × List End) (h : Held w wr bt N S) (hN : N ≤ 1000000000) :
    Calls Tryz.prog 13 #[.pointer (some ⟨bt, 0, none⟩)] wr fun e w2 => ∃ bc, e = .returned (.pointer (some ⟨bc, 0, none⟩)) ∧ Held wr w2 bc N S ∧ Quiet wr w2 := by
  obtain ⟨b1, b2, v, hT, hf⟩ := h.tab
  refine (tab_copy wr bt b1 b2 N v S.1 S.2 hT hN).mono ?_
  rintro e w2 ⟨bc, c1, c2, v', rfl, r1, r2, r3⟩
  exact ⟨bc, rfl, ⟨⟨c1, c2, v', r1, r2⟩, h.sorted, h.uniq, r3⟩, r3⟩
theorem aw_same1 (X : World) (B : Nat) (a : Value) (h : LeasesIs (X.alloc (.cells #[.int .i64 1, .int .u64 0, .int .u64 6, .int .i64 128, .int .i64 1, .string ⟨#[98]⟩, .int .u32 0, .int .i64 9, .int .i64 1, .int .u64 0, .int .u64 5, .int .i64 128, .int .i64 1, .string ⟨#[97]⟩, .int .u32 0, .int .i64 10] 30)) B a [lb, la]) : Calls Tryz.prog 10 #[a, .slice (some ⟨X.heap.size, 0, none⟩) 2 2] (X.alloc (.cells #[.int .i64 1, .int .u64 0, .int .u64 6, .int .i64 128, .int .i64 1, .string ⟨#[98]⟩, .int .u32 0, .int .i64 9, .int .i64 1, .int .u64 0, .int .u64 5, .int .i64 128, .int .i64 1, .string ⟨#[97]⟩, .int .u32 0, .int .i64 10] 30)) fun e w' => e = .returned (.bool true) ∧ Quiet (X.alloc (.cells #[.int .i64 1, .int .u64 0, .int .u64 6, .int .i64 128, .int .i64 1, .string ⟨#[98]⟩, .int .u32 0, .int .i64 9, .int .i64 1, .int .u64 0, .int .u64 5, .int .i64 128, .int .i64 1, .string ⟨#[97]⟩, .int .u32 0, .int .i64 10] 30)) w' := by
  have hr : LeasesIs (X.alloc (.cells #[.int .i64 1, .int .u64 0, .int .u64 6, .int .i64 128, .int .i64 1, .string ⟨#[98]⟩, .int .u32 0, .int .i64 9, .int .i64 1, .int .u64 0, .int .u64 5, .int .i64 128, .int .i64 1, .string ⟨#[97]⟩, .int .u32 0, .int .i64 10] 30)) 0 (.slice (some ⟨X.heap.size, 0, none⟩) 2 2) [lb, la] := leases_row [lb, la] (heap_alloc_new X _) (by decide)
  refine (same_run _ B 0 _ _ [lb, la] [lb, la] h hr).mono ?_
  rintro e w' ⟨rfl, hq⟩
  exact ⟨by rw [decide_eq_true rfl], hq⟩
theorem aw_same2 (X : World) (B : Nat) (a : Value) (h : LeasesIs (X.alloc (.cells #[.int .i64 1, .int .u64 0, .int .u64 5, .int .i64 128, .int .i64 1, .string ⟨#[97]⟩, .int .u32 0, .int .i64 10, .int .i64 1, .int .u64 0, .int .u64 6, .int .i64 128, .int .i64 1, .string ⟨#[98]⟩, .int .u32 0, .int .i64 9] 30)) B a [la, lb]) : Calls Tryz.prog 10 #[a, .slice (some ⟨X.heap.size, 0, none⟩) 2 2] (X.alloc (.cells #[.int .i64 1, .int .u64 0, .int .u64 5, .int .i64 128, .int .i64 1, .string ⟨#[97]⟩, .int .u32 0, .int .i64 10, .int .i64 1, .int .u64 0, .int .u64 6, .int .i64 128, .int .i64 1, .string ⟨#[98]⟩, .int .u32 0, .int .i64 9] 30)) fun e w' => e = .returned (.bool true) ∧ Quiet (X.alloc (.cells #[.int .i64 1, .int .u64 0, .int .u64 5, .int .i64 128, .int .i64 1, .string ⟨#[97]⟩, .int .u32 0, .int .i64 10, .int .i64 1, .int .u64 0, .int .u64 6, .int .i64 128, .int .i64 1, .string ⟨#[98]⟩, .int .u32 0, .int .i64 9] 30)) w' := by
  have hr : LeasesIs (X.alloc (.cells #[.int .i64 1, .int .u64 0, .int .u64 5, .int .i64 128, .int .i64 1, .string ⟨#[97]⟩, .int .u32 0, .int .i64 10, .int .i64 1, .int .u64 0, .int .u64 6, .int .i64 128, .int .i64 1, .string ⟨#[98]⟩, .int .u32 0, .int .i64 9] 30)) 0 (.slice (some ⟨X.heap.size, 0, none⟩) 2 2) [la, lb] := leases_row [la, lb] (heap_alloc_new X _) (by decide)
  refine (same_run _ B 0 _ _ [la, lb] [la, lb] h hr).mono ?_
  rintro e w' ⟨rfl, hq⟩
  exact ⟨by rw [decide_eq_true rfl], hq⟩
theorem aw_same3 (X : World) (B : Nat) (a : Value) (h : LeasesIs (X.alloc (.cells #[.int .i64 1, .int .u64 0, .int .u64 5, .int .i64 128, .int .i64 1, .string ⟨#[97]⟩, .int .u32 0, .int .i64 10] 30)) B a [la]) : Calls Tryz.prog 10 #[a, .slice (some ⟨X.heap.size, 0, none⟩) 1 1] (X.alloc (.cells #[.int .i64 1, .int .u64 0, .int .u64 5, .int .i64 128, .int .i64 1, .string ⟨#[97]⟩, .int .u32 0, .int .i64 10] 30)) fun e w' => e = .returned (.bool true) ∧ Quiet (X.alloc (.cells #[.int .i64 1, .int .u64 0, .int .u64 5, .int .i64 128, .int .i64 1, .string ⟨#[97]⟩, .int .u32 0, .int .i64 10] 30)) w' := by
  have hr : LeasesIs (X.alloc (.cells #[.int .i64 1, .int .u64 0, .int .u64 5, .int .i64 128, .int .i64 1, .string ⟨#[97]⟩, .int .u32 0, .int .i64 10] 30)) 0 (.slice (some ⟨X.heap.size, 0, none⟩) 1 1) [la] := leases_row [la] (heap_alloc_new X _) (by decide)
  refine (same_run _ B 0 _ _ [la] [la] h hr).mono ?_
  rintro e w' ⟨rfl, hq⟩
  exact ⟨by rw [decide_eq_true rfl], hq⟩
theorem aw_sz (w wr : World) (bt : Nat) (h : Held w wr bt 3 (awL, awE)) : Calls Tryz.prog 20 #[.pointer (some ⟨bt, 0, none⟩)] wr fun e w2 => e = .returned (.int .i64 2) ∧ Quiet wr w2 := held_size w wr bt 3 (awL, awE) h
theorem aw_cp (w wr : World) (bt : Nat) (h : Held w wr bt 3 (awL, awE)) : Calls Tryz.prog 13 #[.pointer (some ⟨bt, 0, none⟩)] wr fun e w2 => ∃ bc, e = .returned (.pointer (some ⟨bc, 0, none⟩)) ∧ Held wr w2 bc 3 (awL, awE) ∧ Quiet wr w2 := held_copy w wr bt 3 (awL, awE) h (by decide)
set_option maxHeartbeats 6400000 in
set_option maxRecDepth 100000 in
theorem awake_run (w : World) : Calls Tryz.prog 4 #[] w fun e w' => e = .returned (.bool true) ∧ Quiet w w' := by
  have hnew := fun W => new_table W
  go_enter Tryz.func4, Tryz.ntmps4
  go_upto_region 4 with (go_at_call 5; refine (hnew _).mono ?_; rintro e w1 ⟨bt, b1, b2, rfl, hT1, hf1, hq1⟩)
  have HH1 : Aside1 (Held w w1 bt 0 ([], [])) := ⟨⟨b1, b2, _, hT1, hf1⟩, List.Pairwise.nil, (fun a ha => by cases ha), hq1⟩
  clear hT1 hf1 hq1
  go_upto_region 6 with (first
    | (go_at_call 14; refine (host_lit _ _ _ _).mono ?_; rintro e wh ⟨rfl, hqh⟩)
    | (go_at_call 7; refine (aw_ap1 w _ bt (HH1.out.keep ?_) _ (changes_row _ (heap_alloc_new _ _) aw_ok1 (by decide))).mono ?_; (repeat (first | exact Kept.refl _ _ | assumption | apply Kept.drew | apply Kept.drewN | apply Kept.alloc | refine Kept.setCell ?_ (fun hlt => absurd hlt (Nat.lt_irrefl _)) _ | refine Kept.andThen ?_ (by assumption) (fun _ _ h => h))); rintro e w2 ⟨rfl, hH2⟩; have HH2 := Aside1.mk hH2; clear hH2 HH1)
    | (go_at_call 7; refine (aw_ap2 w _ bt (HH2.out.keep ?_) _ (changes_row _ (heap_alloc_new _ _) aw_ok2 (by decide))).mono ?_; (repeat (first | exact Kept.refl _ _ | assumption | apply Kept.drew | apply Kept.drewN | apply Kept.alloc | refine Kept.setCell ?_ (fun hlt => absurd hlt (Nat.lt_irrefl _)) _ | refine Kept.andThen ?_ (by assumption) (fun _ _ h => h))); rintro e w3 ⟨rfl, hH3⟩; have HH3 := Aside1.mk hH3; clear hH3 HH2))
  go_upto_region 9 with (first
    | (go_at_call 14; refine (host_lit _ _ _ _).mono ?_; rintro e wh ⟨rfl, hqh⟩)
    | (go_at_call 15; refine (aw_nx w _ bt HH3.out).mono ?_; rintro e w4 ⟨rfl, hH4⟩; have HH4 := Aside1.mk hH4; clear hH4 HH3)
    | (go_at_call 16; refine (aw_of w _ bt HH4.out).mono ?_; rintro e w5 ⟨rfl, hq5⟩)
    | (go_at_call 17; refine (aw_fi w _ bt (HH4.out.keep ?_)).mono ?_; (repeat (first | exact Kept.refl _ _ | assumption | apply Kept.drew | apply Kept.drewN | apply Kept.alloc | refine Kept.setCell ?_ (fun hlt => absurd hlt (Nat.lt_irrefl _)) _ | refine Kept.andThen ?_ (by assumption) (fun _ _ h => h))); rintro e w6 ⟨rfl, hq6⟩))
  have hqA : Quiet w5 (w5.alloc (.cells #[.int .i64 1, .int .u64 0, .int .u64 5, .int .i64 128, .int .i64 1, .string ⟨#[97]⟩, .int .u32 0, .int .i64 10] 30)) := (Kept.refl _ w5).alloc _
  have hq46 : Quiet w4 w6 := ((hq5.andThen hqA (fun _ _ h => h)).andThen hqh (fun _ _ h => h)).andThen hq6 (fun _ _ h => h)
  have HH9 := Aside1.mk (HH4.out.keep (hq46.alloc (.cells #[.int .i64 1, .int .u64 0, .int .u64 6, .int .i64 128, .int .i64 1, .string ⟨#[98]⟩, .int .u32 0, .int .i64 9] 30)))
  have l5 : w5.heap.size < (w5.alloc (.cells #[.int .i64 1, .int .u64 0, .int .u64 5, .int .i64 128, .int .i64 1, .string ⟨#[97]⟩, .int .u32 0, .int .i64 10] 30)).heap.size := by rw [World.size_alloc]; exact Nat.lt_succ_self _
  have l56 : w5.heap.size < w6.heap.size := Nat.lt_of_lt_of_le l5 (Nat.le_trans hqh.size hq6.size)
  have HB6 := Aside1.mk ((Below.heap_alloc w6 (.cells #[.int .i64 1, .int .u64 0, .int .u64 6, .int .i64 128, .int .i64 1, .string ⟨#[98]⟩, .int .u32 0, .int .i64 9] 30) w5.heap.size l56).trans ((hq6.block w5.heap.size (Nat.lt_of_lt_of_le l5 hqh.size) (fun h => h)).trans ((hqh.block w5.heap.size l5 (fun h => h)).trans (heap_alloc_new w5 (.cells #[.int .i64 1, .int .u64 0, .int .u64 5, .int .i64 128, .int .i64 1, .string ⟨#[97]⟩, .int .u32 0, .int .i64 10] 30)))))
  have HB8 := Aside1.mk (heap_alloc_new w6 (.cells #[.int .i64 1, .int .u64 0, .int .u64 6, .int .i64 128, .int .i64 1, .string ⟨#[98]⟩, .int .u32 0, .int .i64 9] 30))
  clear hqA hq46 l5 l56 HH4 hq5 hq6 hqh
  generalize w5.heap.size = x6 at *
  generalize w6.heap.size = x8 at *
  generalize w6.alloc (.cells #[.int .i64 1, .int .u64 0, .int .u64 6, .int .i64 128, .int .i64 1, .string ⟨#[98]⟩, .int .u32 0, .int .i64 9] 30) = W9 at *
  have HS : Aside1 (∀ w', Quiet W9 w' → (w'.cell? ⟨x6, 0, none⟩ = some (.int .i64 1) ∧ w'.cell? ⟨x6, 1, none⟩ = some (.int .u64 0) ∧ w'.cell? ⟨x6, 2, none⟩ = some (.int .u64 5) ∧ w'.cell? ⟨x6, 3, none⟩ = some (.int .i64 128) ∧ w'.cell? ⟨x6, 4, none⟩ = some (.int .i64 1) ∧ w'.cell? ⟨x6, 5, none⟩ = some (.string ⟨#[97]⟩) ∧ w'.cell? ⟨x6, 6, none⟩ = some (.int .u32 0) ∧ w'.cell? ⟨x6, 7, none⟩ = some (.int .i64 10) ∧ w'.cell? ⟨x8, 0, none⟩ = some (.int .i64 1) ∧ w'.cell? ⟨x8, 1, none⟩ = some (.int .u64 0) ∧ w'.cell? ⟨x8, 2, none⟩ = some (.int .u64 6) ∧ w'.cell? ⟨x8, 3, none⟩ = some (.int .i64 128) ∧ w'.cell? ⟨x8, 4, none⟩ = some (.int .i64 1) ∧ w'.cell? ⟨x8, 5, none⟩ = some (.string ⟨#[98]⟩) ∧ w'.cell? ⟨x8, 6, none⟩ = some (.int .u32 0) ∧ w'.cell? ⟨x8, 7, none⟩ = some (.int .i64 9))) := ⟨fun w' hq => ⟨hq.cell (cell_of HB6.out 0).1 (fun h => h), hq.cell (cell_of HB6.out 1).1 (fun h => h), hq.cell (cell_of HB6.out 2).1 (fun h => h), hq.cell (cell_of HB6.out 3).1 (fun h => h), hq.cell (cell_of HB6.out 4).1 (fun h => h), hq.cell (cell_of HB6.out 5).1 (fun h => h), hq.cell (cell_of HB6.out 6).1 (fun h => h), hq.cell (cell_of HB6.out 7).1 (fun h => h), hq.cell (cell_of HB8.out 0).1 (fun h => h), hq.cell (cell_of HB8.out 1).1 (fun h => h), hq.cell (cell_of HB8.out 2).1 (fun h => h), hq.cell (cell_of HB8.out 3).1 (fun h => h), hq.cell (cell_of HB8.out 4).1 (fun h => h), hq.cell (cell_of HB8.out 5).1 (fun h => h), hq.cell (cell_of HB8.out 6).1 (fun h => h), hq.cell (cell_of HB8.out 7).1 (fun h => h)⟩⟩
  go_region_held3 (fun w' => w'.cell? ⟨x6, 0, none⟩ = some (.int .i64 1) ∧ w'.cell? ⟨x6, 1, none⟩ = some (.int .u64 0) ∧ w'.cell? ⟨x6, 2, none⟩ = some (.int .u64 5) ∧ w'.cell? ⟨x6, 3, none⟩ = some (.int .i64 128) ∧ w'.cell? ⟨x6, 4, none⟩ = some (.int .i64 1) ∧ w'.cell? ⟨x6, 5, none⟩ = some (.string ⟨#[97]⟩) ∧ w'.cell? ⟨x6, 6, none⟩ = some (.int .u32 0) ∧ w'.cell? ⟨x6, 7, none⟩ = some (.int .i64 10) ∧ w'.cell? ⟨x8, 0, none⟩ = some (.int .i64 1) ∧ w'.cell? ⟨x8, 1, none⟩ = some (.int .u64 0) ∧ w'.cell? ⟨x8, 2, none⟩ = some (.int .u64 6) ∧ w'.cell? ⟨x8, 3, none⟩ = some (.int .i64 128) ∧ w'.cell? ⟨x8, 4, none⟩ = some (.int .i64 1) ∧ w'.cell? ⟨x8, 5, none⟩ = some (.string ⟨#[98]⟩) ∧ w'.cell? ⟨x8, 6, none⟩ = some (.int .u32 0) ∧ w'.cell? ⟨x8, 7, none⟩ = some (.int .i64 9)) ((refine HS.out _ ?_; (repeat (first | exact Kept.refl _ _ | assumption | apply Kept.drew | apply Kept.drewN | apply Kept.alloc | refine Kept.setCell ?_ (fun hlt => absurd hlt (Nat.lt_irrefl _)) _ | refine Kept.andThen ?_ (by assumption) (fun _ _ h => h)))))
    (first
      | (go_at_call 14; refine (host_lit _ _ _ _).mono ?_; rintro e wh ⟨rfl, hqh⟩)
      | (go_at_call 18; refine (aw_du w _ bt (HH9.out.keep ?_)).mono ?_; (repeat (first | exact Kept.refl _ _ | assumption | apply Kept.drew | apply Kept.drewN | apply Kept.alloc | refine Kept.setCell ?_ (fun hlt => absurd hlt (Nat.lt_irrefl _)) _ | refine Kept.andThen ?_ (by assumption) (fun _ _ h => h))); rintro e wd ⟨vd, rfl, hld, hqd⟩; obtain ⟨pd, cd, hvd⟩ := leases_shape hld; have hvd2 : vd = .slice pd 2 cd := hvd; clear hvd; subst hvd2; have HLd := Aside1.mk hld; clear hld)
      | (go_at_call 11; refine (aw_al w _ bt (HH9.out.keep ?_)).mono ?_; (repeat (first | exact Kept.refl _ _ | assumption | apply Kept.drew | apply Kept.drewN | apply Kept.alloc | refine Kept.setCell ?_ (fun hlt => absurd hlt (Nat.lt_irrefl _)) _ | refine Kept.andThen ?_ (by assumption) (fun _ _ h => h))); rintro e wa ⟨va, rfl, hla, hqa⟩; obtain ⟨pa, ca, hva⟩ := leases_shape hla; have hva2 : va = .slice pa 2 ca := hva; clear hva; subst hva2; have HLa := Aside1.mk hla; clear hla)
      | (go_at_call 19; refine (aw_cl w _ bt (HH9.out.keep ?_)).mono ?_; (repeat (first | exact Kept.refl _ _ | assumption | apply Kept.drew | apply Kept.drewN | apply Kept.alloc | refine Kept.setCell ?_ (fun hlt => absurd hlt (Nat.lt_irrefl _)) _ | refine Kept.andThen ?_ (by assumption) (fun _ _ h => h))); rintro e wl ⟨vl, rfl, hll, hql⟩; obtain ⟨pl, cl, hvl⟩ := leases_shape hll; have hvl2 : vl = .slice pl 1 cl := hvl; clear hvl; subst hvl2; have HLl := Aside1.mk hll; clear hll)
      | (go_at_call 13; refine (aw_cp w _ bt (HH9.out.keep ?_)).mono ?_; (repeat (first | exact Kept.refl _ _ | assumption | apply Kept.drew | apply Kept.drewN | apply Kept.alloc | refine Kept.setCell ?_ (fun hlt => absurd hlt (Nat.lt_irrefl _)) _ | refine Kept.andThen ?_ (by assumption) (fun _ _ h => h))); rintro e wc ⟨bc, rfl, hHc, hqc⟩; have HHc := Aside1.mk hHc; clear hHc)
      | (go_at_call 20; with_reducible refine (aw_sz w _ bt (HH9.out.keep ?_)).mono ?_; (repeat (first | exact Kept.refl _ _ | assumption | apply Kept.drew | apply Kept.drewN | apply Kept.alloc | refine Kept.setCell ?_ (fun hlt => absurd hlt (Nat.lt_irrefl _)) _ | refine Kept.andThen ?_ (by assumption) (fun _ _ h => h))); rintro e wsz ⟨rfl, hqsz⟩)
      | (go_at_call 20; with_reducible refine (aw_sz _ _ bc (HHc.out.keep ?_)).mono ?_; (repeat (first | exact Kept.refl _ _ | assumption | apply Kept.drew | apply Kept.drewN | apply Kept.alloc | refine Kept.setCell ?_ (fun hlt => absurd hlt (Nat.lt_irrefl _)) _ | refine Kept.andThen ?_ (by assumption) (fun _ _ h => h))); rintro e wsz ⟨rfl, hqsz⟩)
      | (go_at_call 10; with_reducible refine (aw_same1 _ _ (.slice pd 2 cd) (HLd.out.old ?_ (fun _ _ h => h))).mono ?_; (repeat (first | exact Kept.refl _ _ | assumption | apply Kept.drew | apply Kept.drewN | apply Kept.alloc | refine Kept.setCell ?_ (fun hlt => absurd hlt (Nat.lt_irrefl _)) _ | refine Kept.andThen ?_ (by assumption) (fun _ _ h => h))); rintro e ws1 ⟨rfl, hqs1⟩)
      | (go_at_call 10; with_reducible refine (aw_same2 _ _ (.slice pa 2 ca) (HLa.out.old ?_ (fun _ _ h => h))).mono ?_; (repeat (first | exact Kept.refl _ _ | assumption | apply Kept.drew | apply Kept.drewN | apply Kept.alloc | refine Kept.setCell ?_ (fun hlt => absurd hlt (Nat.lt_irrefl _)) _ | refine Kept.andThen ?_ (by assumption) (fun _ _ h => h))); rintro e ws2 ⟨rfl, hqs2⟩)
      | (go_at_call 10; with_reducible refine (aw_same3 _ _ (.slice pl 1 cl) (HLl.out.old ?_ (fun _ _ h => h))).mono ?_; (repeat (first | exact Kept.refl _ _ | assumption | apply Kept.drew | apply Kept.drewN | apply Kept.alloc | refine Kept.setCell ?_ (fun hlt => absurd hlt (Nat.lt_irrefl _)) _ | refine Kept.andThen ?_ (by assumption) (fun _ _ h => h))); rintro e ws3 ⟨rfl, hqs3⟩))
  all_goals go_wp2_with fail
  all_goals
    go_ret
    have hq9 := HH9.out.quiet
    exact ⟨rfl, by (repeat (first | exact Kept.refl _ _ | assumption | apply Kept.drew | apply Kept.drewN | apply Kept.alloc | refine Kept.setCell ?_ (fun hlt => absurd hlt (Nat.lt_irrefl _)) _ | refine Kept.andThen ?_ (by assumption) (fun _ _ h => h)))⟩
end Go.Proofs.YtmegbllhidkmoaaGreat.Tb

/- The two tables side by side, and the law's told. -/
namespace Go.Proofs.YtmegbllhidkmoaaGreat.Tb
open Go.RowKit Go.Maps Go.Shelf
set_option linter.unusedVariables false
attribute [local go_sem] fldA_0 fldA_1 fldP_0 fldP_1
attribute [local go_sem high] eqA30
/-- The program's table of S and the reference's of L, neither in the other's blocks. -/
structure Both (w wr : World) (bt bu N : Nat) (S : List Lease × List End) (L : List Lease) : Prop where
  tabs : ∃ b1 b2 v u, TabAt wr bt b1 b2 v N S.1 S.2 ∧ RTab wr bu w.heap.size u L ∧ ∀ k, Foot bt b1 b2 v k → w.heap.size ≤ k ∧ k ≠ bu ∧ u.ownBlock ≠ some k
  base : w.heap.size ≤ bu
  sorted : Sorted S.1
  uniq : Uniq S.1
  good : Good S.1
  ended : Ended S
  eok : EndsOk S.2
  quiet : Quiet w wr
theorem Both.keep {w wr w2 : World} {bt bu N : Nat} {S : List Lease × List End} {L : List Lease} (h : Both w wr bt bu N S L) (hq : Quiet wr w2) : Both w w2 bt bu N S L := by
  obtain ⟨b1, b2, v, u, h1, h2, h3⟩ := h.tabs
  exact ⟨⟨b1, b2, v, u, h1.kept hq (fun _ _ h => h), h2.quiet hq, h3⟩, h.base, h.sorted, h.uniq, h.good, h.ended, h.eok, h.quiet.andThen hq (fun _ _ h => h)⟩
theorem Both.held {w wr : World} {bt bu N : Nat} {S : List Lease × List End} {L : List Lease} (h : Both w wr bt bu N S L) : Held w wr bt N S := by
  obtain ⟨b1, b2, v, u, h1, h2, h3⟩ := h.tabs
  exact ⟨⟨b1, b2, v, h1, fun k hk => (h3 k hk).1⟩, h.sorted, h.uniq, h.quiet⟩
theorem Both.mono {w wr : World} {bt bu N N' : Nat} {S : List Lease × List End} {L : List Lease} (h : Both w wr bt bu N S L) (hN : N ≤ N') : Both w wr bt bu N' S L := by
  obtain ⟨b1, b2, v, u, h1, h2, h3⟩ := h.tabs
  exact ⟨⟨b1, b2, v, u, h1.mono hN, h2, h3⟩, h.base, h.sorted, h.uniq, h.good, h.ended, h.eok, h.quiet⟩
theorem both_apply (w wr : World) (bt bu N : Nat) (S : List Lease × List End) (h : Both w wr bt bu N S S.1) (vc : Value) (cs : List Change) (hc : ChangesAt wr vc cs) (hN : N + cs.length < 1000000000) :
    Calls Tryz.prog 7 #[.pointer (some ⟨bt, 0, none⟩), vc] wr fun e w2 => e = .returned (.int .i64 (applyE S.1 cs)) ∧ Both w w2 bt bu (N + cs.length) (applyS S cs) S.1 ∧ Kept (fun k => k = bt) wr w2 := by
  obtain ⟨b1, b2, v, u, h1, h2, h3⟩ := h.tabs
  have hcok : ∀ c ∈ cs, c.lease.ok := by obtain ⟨_, _, _, _, _, _, hok⟩ := hc; exact hok
  refine (tab_apply wr bt b1 b2 N v S.1 S.2 h1 h.uniq h.sorted vc cs hc hN).mono ?_
  rintro e w2 ⟨rfl, hk, hbad, hgood⟩
  refine ⟨rfl, ?_, hk⟩
  have hbt := h3 bt (.inl rfl)
  have h2' := h2.kept hk (fun e => hbt.2.1 e.symm) (fun k hk e => hbt.2.2 (by rw [← e]; exact hk))
  have hbl := (Array.getElem?_eq_some_iff.1 h2.blk).1
  unfold applyS
  by_cases he : applyE S.1 cs = 0
  · rw [if_pos he]
    obtain ⟨c1, c2, v', r1, r2, r3, r4⟩ := hgood he
    have hs := h.quiet.size
    refine ⟨⟨c1, c2, v', u, r1, h2', fun k hk => ?_⟩, h.base, r2, r3, good_apply cs h.good he, ended_apply cs h.ended, endsOk_apply cs h.eok hcok, h.quiet.andThen hk (fun i hi e => by have := hbt.1; omega)⟩
    rcases r4 k hk with rfl | h4
    · exact hbt
    · exact ⟨by omega, by omega, fun e => by have := (h2.row.lt e).2; omega⟩
  · rw [if_neg he]
    exact (h.keep (hbad he)).mono (by omega)
theorem both_rapply (w wr : World) (bt bu N : Nat) (S T : List Lease × List End) (h : Both w wr bt bu N S T.1) (hu : Uniq T.1) (vc : Value) (cs : List Change) (hc : ChangesAt wr vc cs) (hS : S = applyS T cs) :
    Calls Tryz.prog 8 #[.pointer (some ⟨bu, 0, none⟩), vc] wr fun e w2 => e = .returned (.int .i64 (applyE T.1 cs)) ∧ Both w w2 bt bu N S S.1 ∧ Kept (fun k => k = bu) wr w2 := by
  obtain ⟨b1, b2, v, u, h1, h2, h3⟩ := h.tabs
  obtain ⟨e1, e2⟩ := rapply_same cs hu h2.len
  refine (rapply_run wr bu w.heap.size u T.1 h2 h.quiet.size vc cs hc).mono ?_
  rintro e w2 ⟨rfl, hk, hbad, hgood⟩
  rw [e1] at hbad hgood ⊢
  refine ⟨rfl, ?_, hk⟩
  have hlt := foot_lt h1
  by_cases he : applyE T.1 cs = 0
  · obtain ⟨u', r1, r2⟩ := hgood he
    have hSL : S.1 = applyL T.1 cs := by rw [hS]; unfold applyS; rw [if_pos he]
    rw [hSL]
    have h1' := h1.kept hk (fun k hk e => (h3 k hk).2.1 e)
    refine ⟨⟨b1, b2, v, u', h1', r1, fun k hk => ⟨(h3 k hk).1, (h3 k hk).2.1, fun e => ?_⟩⟩, h.base, h.sorted, h.uniq, h.good, h.ended, h.eok, h.quiet.andThen hk (fun i hi e => by have := h.base; omega)⟩
    rcases r2 k e with h4 | h4
    · exact (h3 k hk).2.2 h4
    · have := hlt k hk; omega
  · have hSL : S.1 = T.1 := by rw [hS]; unfold applyS; rw [if_neg he]
    rw [hSL]
    exact h.keep (hbad he).2
theorem both_next (w w0 wr : World) (bt bu N : Nat) (S : List Lease × List End) (h : Both w w0 bt bu N S S.1) (hk : Kept (fun k => w0.heap.size ≤ k) w0 wr) (hN : N ≤ 1000000000) :
    Calls Tryz.prog 15 #[.pointer (some ⟨bt, 0, none⟩)] wr fun e w2 => e = .returned (.tuple #[.int .i64 (leastL S.1), .bool (decide (0 < S.1.length))]) ∧ Both w w2 bt bu N (S.1, nextE S.2.length S.1 S.2) S.1 ∧ Kept (fun k => w.heap.size ≤ k ∧ k < w0.heap.size) wr w2 := by
  obtain ⟨b1, b2, v, u, h1, h2, h3⟩ := h.tabs
  have hlt := foot_lt h1
  have hsz := h.quiet.size
  have hnl := next_least S.2.length S.1 S.2 h.sorted h.ended.heap (Nat.le_refl _) h.ended.all
  have h1' := h1.kept hk (fun k hk' e => by have := hlt k hk'; omega)
  have hbu := (Array.getElem?_eq_some_iff.1 h2.blk).1
  have h2' := h2.kept hk (fun e => by omega) (fun k hk' e => by have := (h2.row.lt hk').2; omega)
  refine (tab_next wr bt b1 b2 N v S.1 S.2 h1' hN h.eok).mono ?_
  rintro e w2 ⟨rfl, v', r1, r2, r3⟩
  rw [hnl]
  have hf' : ∀ k, (k = bt ∨ v.ownBlock = some k) → Foot bt b1 b2 v k := fun k hk => hk.elim .inl (fun h => .inr (.inr (.inr h)))
  have hK : Kept (fun k => w.heap.size ≤ k ∧ k < w0.heap.size) wr w2 := r3.mono (fun k hk' => ⟨(h3 k (hf' k hk')).1, hlt k (hf' k hk')⟩)
  refine ⟨rfl, ⟨⟨b1, b2, v', u, r1, h2'.kept r3 (fun e => (h3 bu (hf' bu e)).2.1 rfl) (fun k hk' e => (h3 k (hf' k e)).2.2 hk'), fun k hk => h3 k ?_⟩, h.base, h.sorted, h.uniq, h.good, ended_next _ _ _ h.sorted h.ended (Nat.le_refl _), nextE_ok _ _ _ h.eok, (h.quiet.andThen hk (fun i hi h => by omega)).andThen hK (fun i hi h => by omega)⟩, hK⟩
  rcases hk with h | h | h | h
  · exact .inl h
  · exact .inr (.inl h)
  · exact .inr (.inr (.inl h))
  · exact .inr (.inr (.inr (by rw [← r2]; exact h)))
/-- What told asks, before Next and behind it. -/
theorem both_find (w wr : World) (bt bu N : Nat) (S : List Lease × List End) (L : List Lease) (h : Both w wr bt bu N S L) (k : Key) (hk : k.ok) :
    Calls Tryz.prog 17 #[.pointer (some ⟨bt, 0, none⟩), .int .i64 k.kind, .agg #[.int .u64 k.hi, .int .u64 k.lo, .int .i64 k.bits]] wr fun e w' => e = .returned (.tuple #[((findL S.1 k).getD zeroLease).val, .bool (findL S.1 k).isSome]) ∧ Quiet wr w' := by
  obtain ⟨b1, b2, v, u, h1, h2, h3⟩ := h.tabs
  exact tab_find wr bt b1 b2 N v S.1 S.2 h1 k hk
theorem both_rfind (w wr : World) (bt bu N : Nat) (S : List Lease × List End) (L : List Lease) (h : Both w wr bt bu N S L) (k : Key) :
    Calls Tryz.prog 23 #[.pointer (some ⟨bu, 0, none⟩), .int .i64 k.kind, .agg #[.int .u64 k.hi, .int .u64 k.lo, .int .i64 k.bits]] wr fun e w' => e = .returned (.tuple #[((findL L k).getD zeroLease).val, .bool (findL L k).isSome]) ∧ Quiet wr w' := by
  obtain ⟨b1, b2, v, u, h1, h2, h3⟩ := h.tabs
  exact rfind_run wr bu w.heap.size u L h2 k
theorem both_of (w wr : World) (bt bu N : Nat) (S : List Lease × List End) (L : List Lease) (h : Both w wr bt bu N S L) (o : Owner) (ho : o.ok) :
    Calls Tryz.prog 16 #[.pointer (some ⟨bt, 0, none⟩), .int .i64 o.kind, .string o.client, .int .u32 o.iaid] wr fun e w' => e = .returned (.tuple #[((S.1.find? (ofP o)).getD zeroLease).val, .bool (S.1.find? (ofP o)).isSome]) ∧ Quiet wr w' := by
  obtain ⟨b1, b2, v, u, h1, h2, h3⟩ := h.tabs
  have := tab_of wr bt b1 b2 N v S.1 S.2 h1 o ho
  rw [(of_same h.sorted h.uniq h.good o).1, (of_same h.sorted h.uniq h.good o).2] at this
  exact this
theorem both_rof (w wr : World) (bt bu N : Nat) (S : List Lease × List End) (L : List Lease) (h : Both w wr bt bu N S L) (o : Owner) :
    Calls Tryz.prog 24 #[.pointer (some ⟨bu, 0, none⟩), .int .i64 o.kind, .string o.client, .int .u32 o.iaid] wr fun e w' => e = .returned (.tuple #[((L.find? (ofP o)).getD zeroLease).val, .bool (L.find? (ofP o)).isSome]) ∧ Quiet wr w' := by
  obtain ⟨b1, b2, v, u, h1, h2, h3⟩ := h.tabs
  exact rof_run wr bu w.heap.size u L h2 o
theorem both_rnext (w wr : World) (bt bu N : Nat) (S : List Lease × List End) (L : List Lease) (h : Both w wr bt bu N S L) :
    Calls Tryz.prog 25 #[.pointer (some ⟨bu, 0, none⟩)] wr fun e w' => e = .returned (.tuple #[.int .i64 (leastL L), .bool (decide (0 < L.length))]) ∧ Quiet wr w' := by
  obtain ⟨b1, b2, v, u, h1, h2, h3⟩ := h.tabs
  exact rnext_run wr bu w.heap.size u L h2
theorem both_rsize (w wr : World) (bt bu N : Nat) (S : List Lease × List End) (L : List Lease) (h : Both w wr bt bu N S L) :
    Calls Tryz.prog 26 #[.pointer (some ⟨bu, 0, none⟩)] wr fun e w' => e = .returned (.int .i64 (L.length : Int)) ∧ Quiet wr w' := by
  obtain ⟨b1, b2, v, u, h1, h2, h3⟩ := h.tabs
  exact rsize_run wr bu w.heap.size u L h2
theorem both_client (w wr : World) (bt bu N : Nat) (S : List Lease × List End) (L : List Lease) (h : Both w wr bt bu N S L) (hN : N ≤ 1000000000) (q : ByteArray) :
    Calls Tryz.prog 19 #[.pointer (some ⟨bt, 0, none⟩), .string q] wr fun e w' => ∃ v', e = .returned v' ∧ LeasesIs w' wr.heap.size v' (S.1.filter fun l => l.bound && decide (l.client = q)) ∧ Quiet wr w' := by
  obtain ⟨b1, b2, v, u, h1, h2, h3⟩ := h.tabs
  exact tab_client wr bt b1 b2 N v S.1 S.2 h1 hN h.sorted q
theorem both_rclient (w wr : World) (bt bu N : Nat) (S : List Lease × List End) (L : List Lease) (h : Both w wr bt bu N S L) (q : ByteArray) :
    Calls Tryz.prog 27 #[.pointer (some ⟨bu, 0, none⟩), .string q] wr fun e w' => ∃ v', e = .returned v' ∧ LeasesIs w' wr.heap.size v' (L.filter fun l => l.bound && decide (l.client = q)) ∧ Quiet wr w' := by
  obtain ⟨b1, b2, v, u, h1, h2, h3⟩ := h.tabs
  exact rclient_run wr bu w.heap.size u L h2 q
theorem both_meets (w wr : World) (bt bu N : Nat) (S : List Lease × List End) (L : List Lease) (h : Both w wr bt bu N S L) (hN : N ≤ 1000000000) (k : Key) :
    Calls Tryz.prog 28 #[.pointer (some ⟨bt, 0, none⟩), .int .i64 k.kind, .agg #[.int .u64 k.hi, .int .u64 k.lo, .int .i64 k.bits]] wr fun e w' => ∃ v', e = .returned v' ∧ LeasesIs w' wr.heap.size v' (S.1.filter fun l => meetsB k l.key) ∧ Quiet wr w' := by
  obtain ⟨b1, b2, v, u, h1, h2, h3⟩ := h.tabs
  exact tab_meets wr bt b1 b2 N v S.1 S.2 h1 hN h.sorted k
theorem both_rmeets (w wr : World) (bt bu N : Nat) (S : List Lease × List End) (L : List Lease) (h : Both w wr bt bu N S L) (k : Key) (hk : k.ok) :
    Calls Tryz.prog 29 #[.pointer (some ⟨bu, 0, none⟩), .int .i64 k.kind, .agg #[.int .u64 k.hi, .int .u64 k.lo, .int .i64 k.bits]] wr fun e w' => ∃ v', e = .returned v' ∧ LeasesIs w' wr.heap.size v' (L.filter fun l => meetsB k l.key) ∧ Quiet wr w' := by
  obtain ⟨b1, b2, v, u, h1, h2, h3⟩ := h.tabs
  exact rmeet_run wr bu w.heap.size u L h2 k hk
theorem both_due (w wr : World) (bt bu N : Nat) (S : List Lease × List End) (L : List Lease) (h : Both w wr bt bu N S L) (hN : N ≤ 1000000000) (q : Int) :
    Calls Tryz.prog 18 #[.pointer (some ⟨bt, 0, none⟩), .int .i64 q] wr fun e w' => ∃ v', e = .returned v' ∧ LeasesIs w' wr.heap.size v' (dueR q S.1.length S.1) ∧ Quiet wr w' := by
  obtain ⟨b1, b2, v, u, h1, h2, h3⟩ := h.tabs
  refine (tab_due wr bt b1 b2 N v S.1 S.2 h1 hN h.sorted q).mono ?_
  rintro e w' ⟨v', R, rfl, hp, hl, hi, hq⟩
  rw [due_same h.sorted hp hl] at hi
  exact ⟨v', rfl, hi, hq⟩
theorem both_rdue (w wr : World) (bt bu N : Nat) (S : List Lease × List End) (L : List Lease) (h : Both w wr bt bu N S L) (q : Int) :
    Calls Tryz.prog 30 #[.pointer (some ⟨bu, 0, none⟩), .int .i64 q] wr fun e w' => ∃ v', e = .returned v' ∧ LeasesIs w' wr.heap.size v' (dueR q L.length L) ∧ Quiet wr w' := by
  obtain ⟨b1, b2, v, u, h1, h2, h3⟩ := h.tabs
  exact rdue_run wr bu w.heap.size u L h2 q
theorem both_all (w wr : World) (bt bu N : Nat) (S : List Lease × List End) (L : List Lease) (h : Both w wr bt bu N S L) (hN : N ≤ 1000000000) :
    Calls Tryz.prog 11 #[.pointer (some ⟨bt, 0, none⟩)] wr fun e w' => ∃ v', e = .returned v' ∧ LeasesIs w' wr.heap.size v' S.1 ∧ Quiet wr w' := by
  obtain ⟨b1, b2, v, u, h1, h2, h3⟩ := h.tabs
  exact tab_all wr bt b1 b2 N v S.1 S.2 h1 hN h.sorted
theorem both_rall (w wr : World) (bt bu N : Nat) (S : List Lease × List End) (L : List Lease) (h : Both w wr bt bu N S L) :
    Calls Tryz.prog 12 #[.pointer (some ⟨bu, 0, none⟩)] wr fun e w' => ∃ v', e = .returned v' ∧ LeasesIs w' wr.heap.size v' L ∧ Quiet wr w' := by
  obtain ⟨b1, b2, v, u, h1, h2, h3⟩ := h.tabs
  exact rall_run wr bu w.heap.size u L h2
theorem same_yes (w : World) (B B' : Nat) (a b : Value) (R : List Lease) (ha : LeasesIs w B a R) (hb : LeasesIs w B' b R) : Calls Tryz.prog 10 #[a, b] w fun e w' => e = .returned (.bool true) ∧ Quiet w w' := by
  refine (same_run w B B' a b R R ha hb).mono ?_
  rintro e w' ⟨rfl, hq⟩
  exact ⟨by rw [decide_eq_true rfl], hq⟩
end Go.Proofs.YtmegbllhidkmoaaGreat.Tb

/- The law's told: what a table tells is what the reference's does. -/
namespace Go.Proofs.YtmegbllhidkmoaaGreat.Tb
open Go.RowKit Go.Maps Go.Shelf
set_option linter.unusedVariables false
attribute [local go_sem] fldA_0 fldA_1 fldP_0 fldP_1
attribute [local go_sem high] eqA30
theorem set8k {w a : World} {b : Nat} {x0 x1 x2 x3 x4 x5 x6 x7 : Value} (h : Kept (fun k => k = b) a w) : Kept (fun k => k = b) a ((((((((w.setCell ⟨b, 0, none⟩ x0).setCell ⟨b, 1, none⟩ x1).setCell ⟨b, 2, none⟩ x2).setCell ⟨b, 3, none⟩ x3).setCell ⟨b, 4, none⟩ x4).setCell ⟨b, 5, none⟩ x5).setCell ⟨b, 6, none⟩ x6).setCell ⟨b, 7, none⟩ x7) :=
  (((((((h.setCell (p := ⟨b, 0, none⟩) (fun _ => rfl) _).setCell (p := ⟨b, 1, none⟩) (fun _ => rfl) _).setCell (p := ⟨b, 2, none⟩) (fun _ => rfl) _).setCell (p := ⟨b, 3, none⟩) (fun _ => rfl) _).setCell (p := ⟨b, 4, none⟩) (fun _ => rfl) _).setCell (p := ⟨b, 5, none⟩) (fun _ => rfl) _).setCell (p := ⟨b, 6, none⟩) (fun _ => rfl) _).setCell (p := ⟨b, 7, none⟩) (fun _ => rfl) _
set_option maxHeartbeats 6400000 in
set_option maxRecDepth 100000 in
theorem told_run (w wr : World) (bt bu N : Nat) (S : List Lease × List End) (h : Both w wr bt bu N S S.1) (hN : N ≤ 1000000000) (x : Lease) (hx : x.ok) :
    Calls Tryz.prog 9 #[.pointer (some ⟨bt, 0, none⟩), .pointer (some ⟨bu, 0, none⟩), x.val] wr fun e w2 => e = .returned (.bool true) ∧ Both w w2 bt bu N (S.1, nextE S.2.length S.1 S.2) S.1 ∧ Kept (fun k => w.heap.size ≤ k ∧ k < wr.heap.size) wr w2 := by
  have HF1 := Aside1.mk (fun W (hq : Quiet wr W) => both_find w W bt bu N S S.1 (h.keep hq) x.key hx.1)
  have HF2 := Aside1.mk (fun W (hq : Quiet wr W) => both_rfind w W bt bu N S S.1 (h.keep hq) x.key)
  have HO1 := Aside1.mk (fun W (hq : Quiet wr W) => both_of w W bt bu N S S.1 (h.keep hq) x.owner (Lease.owner_ok hx))
  have HO2 := Aside1.mk (fun W (hq : Quiet wr W) => both_rof w W bt bu N S S.1 (h.keep hq) x.owner)
  have HNX := Aside1.mk (fun W (hk : Kept (fun k => wr.heap.size ≤ k) wr W) => both_next w wr W bt bu N S h hk hN)
  have HB := Aside1.mk (fun W (hB : Both w W bt bu N (S.1, nextE S.2.length S.1 S.2) S.1) =>
    And.intro (both_rnext w W bt bu N _ _ hB) (And.intro (held_size w W bt N _ hB.held) (And.intro (both_rsize w W bt bu N _ _ hB) (And.intro (both_client w W bt bu N _ _ hB hN x.client) (And.intro (both_rclient w W bt bu N _ _ hB x.client)
      (And.intro (both_meets w W bt bu N _ _ hB hN x.key) (And.intro (both_rmeets w W bt bu N _ _ hB x.key hx.1) (And.intro (both_due w W bt bu N _ _ hB hN x.till) (both_rdue w W bt bu N _ _ hB x.till)))))))))
  obtain ⟨⟨⟨fk, fh, fl, fb⟩, fs, fc, fi, ft⟩, HX⟩ : ∃ y, Aside1 ((findL S.1 x.key).getD zeroLease = y) := ⟨_, ⟨rfl⟩⟩
  obtain ⟨⟨⟨ok, oh, ol, ob⟩, os, oc, oi, ot⟩, HY⟩ : ∃ y, Aside1 ((S.1.find? (ofP x.owner)).getD zeroLease = y) := ⟨_, ⟨rfl⟩⟩
  rw [HX.out] at HF1 HF2
  rw [HY.out] at HO1 HO2
  generalize (findL S.1 x.key).isSome = f1 at HF1 HF2
  generalize (S.1.find? (ofP x.owner)).isSome = f2 at HO1 HO2
  generalize leastL S.1 = m at HNX HB
  generalize hnb : decide (0 < S.1.length) = nb at HNX HB
  clear hnb
  obtain ⟨⟨xk, xh, xl, xb⟩, xs, xc, xi, xt⟩ := x
  simp only [Lease.val, Lease.owner] at *
  clear h hx HX HY
  go_enter Tryz.func9, Tryz.ntmps9
  go_wp2_with (first
    | (go_at_call 17; refine (HF1.out _ ?_).mono ?_; ((repeat (first | exact Kept.refl _ _ | assumption | apply Kept.drew | apply Kept.drewN | apply Kept.alloc | refine Kept.setCell ?_ (fun hlt => absurd hlt (Nat.lt_irrefl _)) _ | refine Kept.andThen ?_ (by assumption) (fun _ _ h => h)))); rintro e w1 ⟨rfl, hq1⟩; have hX1 := blk (new0 wr _) hq1; obtain ⟨p0, p1, p2, p3, p4, p5, p6, p7⟩ := at8 hX1; have l1 := (Array.getElem?_eq_some_iff.1 hX1).1)
    | (go_at_call 23; refine (HF2.out _ ?_).mono ?_; ((repeat (first | exact Kept.refl _ _ | assumption | apply Kept.drew | apply Kept.drewN | apply Kept.alloc | refine Kept.setCell ?_ (fun hlt => absurd hlt (Nat.lt_irrefl _)) _ | refine Kept.andThen ?_ (by assumption) (fun _ _ h => h)))); rintro e w2 ⟨rfl, hq2⟩; have hA2 := blk (new0 w1 _) hq2; obtain ⟨r0, r1, r2, r3, r4, r5, r6, r7⟩ := at8 hA2; have l2 := (Array.getElem?_eq_some_iff.1 hA2).1; have hX2 := blk hX1 (((Kept.refl _ w1).alloc _).andThen hq2 (fun _ _ h => h)); obtain ⟨q0, q1, q2, q3, q4, q5, q6, q7⟩ := at8 hX2; have l3 := (Array.getElem?_eq_some_iff.1 hX2).1))
  have hq20 : Quiet wr (w2.alloc (.cells #[.int .i64 fk, .int .u64 fh, .int .u64 fl, .int .i64 fb, .int .i64 fs, .string fc, .int .u32 fi, .int .i64 ft] 30)) := by (repeat (first | exact Kept.refl _ _ | assumption | apply Kept.drew | apply Kept.drewN | apply Kept.alloc | refine Kept.setCell ?_ (fun hlt => absurd hlt (Nat.lt_irrefl _)) _ | refine Kept.andThen ?_ (by assumption) (fun _ _ h => h)))
  refine (HO1.out _ hq20).mono ?_
  rintro e w3 ⟨rfl, hq3⟩
  have hB3 := blk (new0 w2 _) hq3
  have ha3 := ((Kept.refl (fun _ => False) w2).alloc (.cells #[.int .i64 fk, .int .u64 fh, .int .u64 fl, .int .i64 fb, .int .i64 fs, .string fc, .int .u32 fi, .int .i64 ft] 30)).andThen hq3 (fun _ _ h => h)
  have hA3 := blk hA2 ha3
  have hX3 := blk hX2 ha3
  have hQ3 := hq20.andThen hq3 (fun _ _ h => h)
  have hs1 := hq1.size
  have hs2 := hq2.size
  have hs3 := hq3.size
  simp only [World.size_alloc] at hs1 hs2 hs3
  obtain ⟨a0, a1, a2, a3, a4, a5, a6, a7⟩ := at8 hA3
  have fA := fun i => (cell_of hA3 i).2
  have f0 := fA 0
  have f1' := fA 1
  have f2' := fA 2
  have f3 := fA 3
  have f4 := fA 4
  have f5 := fA 5
  have f6 := fA 6
  have f7 := fA 7
  have HXA := Aside1.mk hX3
  have HBA := Aside1.mk hB3
  have HAA := Aside1.mk hA3
  have HQA := Aside1.mk hQ3
  clear fA hq20 hX1 hX2 hX3 hA2 hA3 hB3 ha3 hQ3 hq1 hq2 hq3 p0 p1 p2 p3 p4 p5 p6 p7 q0 q1 q2 q3 q4 q5 q6 q7 r0 r1 r2 r3 r4 r5 r6 r7
  go_upto_region 6 with fail
  have hA4 := set_eight (x0 := .int .i64 ok) (x1 := .int .u64 oh) (x2 := .int .u64 ol) (x3 := .int .i64 ob) (x4 := .int .i64 os) (x5 := .string oc) (x6 := .int .u32 oi) (x7 := .int .i64 ot) HAA.out
  have hk4 : Kept (fun k => k = w1.heap.size) w3 ((((((((w3.setCell ⟨w1.heap.size, 0, none⟩ (.int .i64 ok)).setCell ⟨w1.heap.size, 1, none⟩ (.int .u64 oh)).setCell ⟨w1.heap.size, 2, none⟩ (.int .u64 ol)).setCell ⟨w1.heap.size, 3, none⟩ (.int .i64 ob)).setCell ⟨w1.heap.size, 4, none⟩ (.int .i64 os)).setCell ⟨w1.heap.size, 5, none⟩ (.string oc)).setCell ⟨w1.heap.size, 6, none⟩ (.int .u32 oi)).setCell ⟨w1.heap.size, 7, none⟩ (.int .i64 ot)) := set8k (Kept.refl _ _)
  have hX4 := (hk4.block _ (Array.getElem?_eq_some_iff.1 HXA.out).1 (by omega)).trans HXA.out
  have hB4 := (hk4.block _ (Array.getElem?_eq_some_iff.1 HBA.out).1 (by omega)).trans HBA.out
  have hQ4 := HQA.out.andThen hk4 (fun i hi e => by omega)
  have hz4 := hk4.size
  clear hk4 a0 a1 a2 a3 a4 a5 a6 a7 f0 f1' f2' f3 f4 f5 f6 f7 HXA HBA HAA HQA
  generalize (((((((w3.setCell ⟨w1.heap.size, 0, none⟩ (.int .i64 ok)).setCell ⟨w1.heap.size, 1, none⟩ (.int .u64 oh)).setCell ⟨w1.heap.size, 2, none⟩ (.int .u64 ol)).setCell ⟨w1.heap.size, 3, none⟩ (.int .i64 ob)).setCell ⟨w1.heap.size, 4, none⟩ (.int .i64 os)).setCell ⟨w1.heap.size, 5, none⟩ (.string oc)).setCell ⟨w1.heap.size, 6, none⟩ (.int .u32 oi)).setCell ⟨w1.heap.size, 7, none⟩ (.int .i64 ot) = W4 at *
  obtain ⟨x0, x1, x2, x3, x4, x5, x6, x7⟩ := at8 hX4
  go_wp2_with fail
  refine (HO2.out _ hQ4).mono ?_
  rintro e w5 ⟨rfl, hq5⟩
  have hA5 := blk hA4 hq5
  have hX5 := blk hX4 hq5
  have hB5 := blk hB4 hq5
  obtain ⟨b0, b1, b2, b3, b4, b5, b6, b7⟩ := at8 hB5
  have fA := fun i => (cell_of hB5 i).2
  have f0 := fA 0
  have f1' := fA 1
  have f2' := fA 2
  have f3 := fA 3
  have f4 := fA 4
  have f5 := fA 5
  have f6 := fA 6
  have f7 := fA 7
  have HXA := Aside1.mk hX5
  have HBA := Aside1.mk hB5
  have HAA := Aside1.mk hA5
  have HQA := Aside1.mk (hQ4.andThen hq5 (fun _ _ h => h))
  have hz5 := hq5.size
  clear fA hX4 hA4 hB4 hX5 hA5 hB5 hQ4 hq5 x0 x1 x2 x3 x4 x5 x6 x7
  go_upto_region 7 with fail
  have hB6 := set_eight (x0 := .int .i64 ok) (x1 := .int .u64 oh) (x2 := .int .u64 ol) (x3 := .int .i64 ob) (x4 := .int .i64 os) (x5 := .string oc) (x6 := .int .u32 oi) (x7 := .int .i64 ot) HBA.out
  have hk6 : Kept (fun k => k = w2.heap.size) w5 ((((((((w5.setCell ⟨w2.heap.size, 0, none⟩ (.int .i64 ok)).setCell ⟨w2.heap.size, 1, none⟩ (.int .u64 oh)).setCell ⟨w2.heap.size, 2, none⟩ (.int .u64 ol)).setCell ⟨w2.heap.size, 3, none⟩ (.int .i64 ob)).setCell ⟨w2.heap.size, 4, none⟩ (.int .i64 os)).setCell ⟨w2.heap.size, 5, none⟩ (.string oc)).setCell ⟨w2.heap.size, 6, none⟩ (.int .u32 oi)).setCell ⟨w2.heap.size, 7, none⟩ (.int .i64 ot)) := set8k (Kept.refl _ _)
  have hX6 := (hk6.block _ (Array.getElem?_eq_some_iff.1 HXA.out).1 (by omega)).trans HXA.out
  have hA6 := (hk6.block _ (Array.getElem?_eq_some_iff.1 HAA.out).1 (by omega)).trans HAA.out
  have hQ6 := HQA.out.andThen hk6 (fun i hi e => by omega)
  clear hk6 b0 b1 b2 b3 b4 b5 b6 b7 f0 f1' f2' f3 f4 f5 f6 f7 HXA HBA HAA HQA
  generalize (((((((w5.setCell ⟨w2.heap.size, 0, none⟩ (.int .i64 ok)).setCell ⟨w2.heap.size, 1, none⟩ (.int .u64 oh)).setCell ⟨w2.heap.size, 2, none⟩ (.int .u64 ol)).setCell ⟨w2.heap.size, 3, none⟩ (.int .i64 ob)).setCell ⟨w2.heap.size, 4, none⟩ (.int .i64 os)).setCell ⟨w2.heap.size, 5, none⟩ (.string oc)).setCell ⟨w2.heap.size, 6, none⟩ (.int .u32 oi)).setCell ⟨w2.heap.size, 7, none⟩ (.int .i64 ot) = W6 at *
  obtain ⟨a0, a1, a2, a3, a4, a5, a6, a7⟩ := at8 hA6
  obtain ⟨b0, b1, b2, b3, b4, b5, b6, b7⟩ := at8 hB6
  have HX6 := Aside1.mk hX6
  have HQ6 := Aside1.mk hQ6
  clear hX6 hQ6 hA6 hB6 HF1 HF2 HO1 HO2
  go_wp2_with fail
  refine (HNX.out _ (HQ6.out.mono (fun _ h => h.elim))).mono ?_
  rintro e w7 ⟨rfl, hB7, hk7⟩
  have HX7 := Aside1.mk ((hk7.block _ (Array.getElem?_eq_some_iff.1 HX6.out).1 (fun e => by omega)).trans HX6.out)
  have HK7 := Aside1.mk ((HQ6.out.mono (S' := fun k => w.heap.size ≤ k ∧ k < wr.heap.size) (fun _ h => h.elim)).andThen hk7 (fun _ _ h => h))
  have HB7 := Aside1.mk hB7
  clear hB7 hk7 a0 a1 a2 a3 a4 a5 a6 a7 b0 b1 b2 b3 b4 b5 b6 b7 HX6 HQ6 HNX
  go_wp2_with (go_at_call 25; refine (HB.out _ HB7.out).1.mono ?_; rintro e w8 ⟨rfl, hq8⟩)
  have HX8 := Aside1.mk (blk HX7.out hq8)
  have HK8 := Aside1.mk (HK7.out.andThen hq8 (fun _ _ h => h.elim))
  have HB8 := Aside1.mk (HB7.out.keep hq8)
  have HASK := Aside1.mk (fun W (hq : Quiet w8 W) => (HB.out _ (HB8.out.keep hq)).2)
  obtain ⟨x0, x1, x2, x3, x4, x5, x6, x7⟩ := at8 HX8.out
  clear hq8 HX7 HK7 HB7 HB
  have HS : Aside1 (∀ W, Quiet w8 W → (W.cell? ⟨wr.heap.size, 0, none⟩ = some (.int .i64 xk) ∧ W.cell? ⟨wr.heap.size, 1, none⟩ = some (.int .u64 xh) ∧ W.cell? ⟨wr.heap.size, 2, none⟩ = some (.int .u64 xl) ∧ W.cell? ⟨wr.heap.size, 3, none⟩ = some (.int .i64 xb) ∧ W.cell? ⟨wr.heap.size, 5, none⟩ = some (.string xc) ∧ W.cell? ⟨wr.heap.size, 7, none⟩ = some (.int .i64 xt))) := ⟨fun W hq => ⟨hq.cell x0 (fun h => h), hq.cell x1 (fun h => h), hq.cell x2 (fun h => h), hq.cell x3 (fun h => h), hq.cell x5 (fun h => h), hq.cell x7 (fun h => h)⟩⟩
  clear x0 x1 x2 x3 x4 x5 x6 x7 HX8
  go_region_held3 (fun W => W.cell? ⟨wr.heap.size, 0, none⟩ = some (.int .i64 xk) ∧ W.cell? ⟨wr.heap.size, 1, none⟩ = some (.int .u64 xh) ∧ W.cell? ⟨wr.heap.size, 2, none⟩ = some (.int .u64 xl) ∧ W.cell? ⟨wr.heap.size, 3, none⟩ = some (.int .i64 xb) ∧ W.cell? ⟨wr.heap.size, 5, none⟩ = some (.string xc) ∧ W.cell? ⟨wr.heap.size, 7, none⟩ = some (.int .i64 xt)) ((refine HS.out _ ?_; (repeat (first | exact Kept.refl _ _ | assumption | apply Kept.drew | apply Kept.drewN | apply Kept.alloc | refine Kept.setCell ?_ (fun hlt => absurd hlt (Nat.lt_irrefl _)) _ | refine Kept.andThen ?_ (by assumption) (fun _ _ h => h)))))
    (first
      | (go_at_call 20; refine (HASK.out _ ?_).1.mono ?_; ((repeat (first | exact Kept.refl _ _ | assumption | apply Kept.drew | apply Kept.drewN | apply Kept.alloc | refine Kept.setCell ?_ (fun hlt => absurd hlt (Nat.lt_irrefl _)) _ | refine Kept.andThen ?_ (by assumption) (fun _ _ h => h)))); rintro e w9 ⟨rfl, hq9⟩)
      | (go_at_call 26; refine (HASK.out _ ?_).2.1.mono ?_; ((repeat (first | exact Kept.refl _ _ | assumption | apply Kept.drew | apply Kept.drewN | apply Kept.alloc | refine Kept.setCell ?_ (fun hlt => absurd hlt (Nat.lt_irrefl _)) _ | refine Kept.andThen ?_ (by assumption) (fun _ _ h => h)))); rintro e w10 ⟨rfl, hq10⟩)
      | (go_at_call 19; refine (HASK.out _ ?_).2.2.1.mono ?_; ((repeat (first | exact Kept.refl _ _ | assumption | apply Kept.drew | apply Kept.drewN | apply Kept.alloc | refine Kept.setCell ?_ (fun hlt => absurd hlt (Nat.lt_irrefl _)) _ | refine Kept.andThen ?_ (by assumption) (fun _ _ h => h)))); rintro e w11 ⟨v11, rfl, hl11, hq11⟩)
      | (go_at_call 27; refine (HASK.out _ ?_).2.2.2.1.mono ?_; ((repeat (first | exact Kept.refl _ _ | assumption | apply Kept.drew | apply Kept.drewN | apply Kept.alloc | refine Kept.setCell ?_ (fun hlt => absurd hlt (Nat.lt_irrefl _)) _ | refine Kept.andThen ?_ (by assumption) (fun _ _ h => h)))); rintro e w12 ⟨v12, rfl, hl12, hq12⟩)
      | (go_at_call 28; refine (HASK.out _ ?_).2.2.2.2.1.mono ?_; ((repeat (first | exact Kept.refl _ _ | assumption | apply Kept.drew | apply Kept.drewN | apply Kept.alloc | refine Kept.setCell ?_ (fun hlt => absurd hlt (Nat.lt_irrefl _)) _ | refine Kept.andThen ?_ (by assumption) (fun _ _ h => h)))); rintro e w14 ⟨v14, rfl, hl14, hq14⟩)
      | (go_at_call 29; refine (HASK.out _ ?_).2.2.2.2.2.1.mono ?_; ((repeat (first | exact Kept.refl _ _ | assumption | apply Kept.drew | apply Kept.drewN | apply Kept.alloc | refine Kept.setCell ?_ (fun hlt => absurd hlt (Nat.lt_irrefl _)) _ | refine Kept.andThen ?_ (by assumption) (fun _ _ h => h)))); rintro e w15 ⟨v15, rfl, hl15, hq15⟩)
      | (go_at_call 18; refine (HASK.out _ ?_).2.2.2.2.2.2.1.mono ?_; ((repeat (first | exact Kept.refl _ _ | assumption | apply Kept.drew | apply Kept.drewN | apply Kept.alloc | refine Kept.setCell ?_ (fun hlt => absurd hlt (Nat.lt_irrefl _)) _ | refine Kept.andThen ?_ (by assumption) (fun _ _ h => h)))); rintro e w17 ⟨v17, rfl, hl17, hq17⟩)
      | (go_at_call 30; refine (HASK.out _ ?_).2.2.2.2.2.2.2.mono ?_; ((repeat (first | exact Kept.refl _ _ | assumption | apply Kept.drew | apply Kept.drewN | apply Kept.alloc | refine Kept.setCell ?_ (fun hlt => absurd hlt (Nat.lt_irrefl _)) _ | refine Kept.andThen ?_ (by assumption) (fun _ _ h => h)))); rintro e w18 ⟨v18, rfl, hl18, hq18⟩)
      | (go_at_call 10; refine (same_yes _ _ _ _ _ _ (hl17.old hq18 (fun _ _ h => h)) hl18).mono ?_; rintro e w19 ⟨rfl, hq19⟩)
      | (go_at_call 10; refine (same_yes _ _ _ _ _ _ (hl14.old hq15 (fun _ _ h => h)) hl15).mono ?_; rintro e w16 ⟨rfl, hq16⟩)
      | (go_at_call 10; refine (same_yes _ _ _ _ _ _ (hl11.old hq12 (fun _ _ h => h)) hl12).mono ?_; rintro e w13 ⟨rfl, hq13⟩))
  all_goals
    go_wp2_with fail
    go_ret
    have hq : Quiet w8 w19 := by (repeat (first | exact Kept.refl _ _ | assumption | apply Kept.drew | apply Kept.drewN | apply Kept.alloc | refine Kept.setCell ?_ (fun hlt => absurd hlt (Nat.lt_irrefl _)) _ | refine Kept.andThen ?_ (by assumption) (fun _ _ h => h)))
    exact ⟨rfl, HB8.out.keep hq, HK8.out.andThen hq (fun _ _ h => h.elim)⟩
end Go.Proofs.YtmegbllhidkmoaaGreat.Tb

/- The law TableExact. -/
namespace Go.Proofs.YtmegbllhidkmoaaGreat.Tb
open Go.RowKit Go.Maps Go.Shelf
set_option linter.unusedVariables false
/-- A Both whose own blocks lie from w on, carried over a world that turned blocks below base alone. -/
theorem lease_in {w : World} {v : Value} {cs : List Change} (h : ChangesAt w v cs) {k : Nat} (hk : k < cs.length) : (cs[k]'hk).lease.ok := by
  obtain ⟨_, _, _, _, _, _, hok⟩ := h
  exact hok _ (List.getElem_mem hk)
def Yes (w : World) (e : Ending) (w' : World) : Prop := e = .returned (.bool true) ∧ Quiet w w'
set_option maxHeartbeats 6400000 in
set_option maxRecDepth 100000 in
theorem exact_run (w : World) (v : Value) (css : List (List Change)) (x : Lease) (hx : x.ok) (h : ListsAt w v css) :
    Calls Tryz.prog 3 #[v, x.val] w (Yes w) := by
  obtain ⟨pv, cv, hv, hn, hm, hcell⟩ := h
  subst hv
  have HXL := Aside1.mk hcell
  clear hcell
  have hlen : (css.length : Int) ≤ 9223372036854775807 := by unfold maxLen at hm; omega
  have HTO := Aside1.mk (fun (w1 wr : World) (bt bu N : Nat) (S : List Lease × List End) (h : Both w1 wr bt bu N S S.1) (hN : N ≤ 1000000000) => told_run w1 wr bt bu N S h hN x hx)
  obtain ⟨⟨xk, xh, xl, xb⟩, xs, xc, xi, xt⟩ := x
  simp only [Lease.val] at *
  clear hx
  go_enter Tryz.func3, Tryz.ntmps3
  go_wp2_with (first
    | (go_at_call 4; refine (awake_run _).mono ?_; rintro e w1 ⟨rfl, hq1⟩)
    | (go_at_call 5; refine (new_table _).mono ?_; rintro e w2 ⟨bt, b1, b2, rfl, hT2, hf2, hq2⟩)
    | (go_at_call 6; refine (rnew_run _).mono ?_; rintro e w3 ⟨rfl, hR3, hq3⟩))
  have hX1 := blk (new0 w _) hq1
  have hB : Both w1 w3 bt w2.heap.size 0 ([], []) [] := by
    have hs2 := hq2.size
    refine ⟨⟨b1, b2, _, _, hT2.kept hq3 (fun _ _ h => h), ⟨hR3.blk, ⟨rfl, .inl ⟨rfl, rfl⟩⟩, hR3.ne, hR3.oks, hR3.sorted, hR3.len⟩, fun k hk => ⟨hf2 k hk, fun e => ?_, fun e => by cases e⟩⟩, hs2, List.Pairwise.nil, (fun a ha => by cases ha), good_nil, ended_nil, (fun e he => by cases he), hq2.andThen hq3 (fun _ _ h => h)⟩
    have := foot_lt hT2 k hk
    omega
  have HB := Aside1.mk hB
  have HX1 := Aside1.mk hX1
  have HQ1 := Aside1.mk (((Kept.refl (fun _ => False) w).alloc (.cells #[.int .i64 xk, .int .u64 xh, .int .u64 xl, .int .i64 xb, .int .i64 xs, .string xc, .int .u32 xi, .int .i64 xt] 30)).andThen hq1 (fun _ _ h => h))
  clear hB hX1 hq1 hT2 hf2 hq2 hR3 hq3
  go_loopw [7] (fun v7 wr => ∃ (j : Nat) (S : List Lease × List End), v7 = .int .i64 j ∧ j ≤ css.length ∧ j ≤ 300 ∧ Aside1 (Both w1 wr bt w2.heap.size (300 * j) S S.1)) (fun v7 _ => css.length - (RowKit.intOf v7).toNat)
  case atStart => exact ⟨0, ([], []), rfl, Nat.zero_le _, Nat.zero_le _, HB⟩
  case round =>
    obtain ⟨j, S, rfl, hj, hj3, HJ⟩ := hrel
    have HQW := Aside1.mk (HQ1.out.andThen HJ.out.quiet (fun _ _ h => h))
    by_cases hlt : j < css.length ∧ j < 300
    · have hij : (j : Int) < (css.length : Int) := by omega
      have hi3 : (j : Int) < 300 := by omega
      obtain ⟨g, off, vi, hp, hc, hch⟩ := HXL.out j hlt.1
      subst hp
      have hc' := HQW.out.cell hc (fun h => h)
      have hch' := hch.quiet HQW.out
      have hchw := hch
      obtain ⟨cs, hcs⟩ : ∃ cs, css[j]'hlt.1 = cs := ⟨_, rfl⟩
      rw [hcs] at hch' hchw
      clear hc hch hcs HXL
      have HCW := Aside1.mk hchw
      have hcok : ∀ c ∈ cs, c.lease.ok := by obtain ⟨_, _, _, _, _, _, hok⟩ := hchw; exact hok
      have HCO := Aside1.mk hcok
      obtain ⟨q, qc, hvi, hqn, hqm, hrest, _⟩ := hch'
      subst hvi
      clear hrest hcok hchw
      by_cases hl : cs.length ≤ 300
      · have hl' : (cs.length : Int) ≤ 300 := by omega
        have hno : ¬ (300 : Int) < (cs.length : Int) := by omega
        have hap := both_apply w1 wr bt w2.heap.size (300 * j) S HJ.out _ cs (HCW.out.quiet HQW.out) (by omega)
        have HUS := Aside1.mk HJ.out.uniq
        generalize hE : applyE S.1 cs = er at hap
        have HER := Aside1.mk hE
        clear hE
        go_wp2_with (go_at_call 7; refine hap.mono ?_; rintro e wA ⟨rfl, hBA, hkA⟩)
        have hrap := both_rapply w1 wA bt w2.heap.size (300 * j + cs.length) (applyS S cs) S hBA HUS.out _ cs (HCW.out.quiet (HQ1.out.andThen hBA.quiet (fun _ _ h => h))) rfl
        rw [HER.out] at hrap
        clear hap hkA hBA HJ HQW HER
        go_wp2_with (go_at_call 8; refine hrap.mono ?_; rintro e wB ⟨rfl, hBB, hkB⟩; obtain ⟨y0, y1, y2, y3, y4, y5, y6, y7⟩ := at8 (blk HX1.out hBB.quiet))
        have hto := HTO.out w1 wB bt w2.heap.size (300 * j + cs.length) (applyS S cs) hBB (by omega)
        clear hrap hkB
        go_wp2_with (go_at_call 9; refine hto.mono ?_; rintro e wC ⟨rfl, hBC, hkC⟩)
        have HBC := Aside1.mk hBC
        clear hBC hkC hto hBB y0 y1 y2 y3 y4 y5 y6 y7
        generalize applyS S cs = S' at HBC
        obtain ⟨wo, hwo⟩ : ∃ wo : World, wo = wC := ⟨_, rfl⟩
        go_loopw [9] (fun v9 wz => ∃ (k : Nat) (E : List End), v9 = .int .i64 k ∧ k ≤ cs.length ∧ k ≤ 4 ∧ Aside1 (Both w1 wz bt w2.heap.size (300 * j + cs.length) (S'.1, E) S'.1)) (fun v9 _ => cs.length - (RowKit.intOf v9).toNat)
        case atStart => exact ⟨0, _, rfl, Nat.zero_le _, Nat.zero_le _, HBC⟩
        case round =>
          obtain ⟨k, E, rfl, hk, hk4, HZ⟩ := hrel
          by_cases hkt : k < cs.length ∧ k < 4
          · have hki : (k : Int) < (cs.length : Int) := by omega
            have hki4 : (k : Int) < 4 := by omega
            have hcz := HCW.out.quiet (HQ1.out.andThen HZ.out.quiet (fun _ _ h => h))
            obtain ⟨_, _, hv', _, _, hcc0, _⟩ := hcz
            simp only [Value.slice.injEq] at hv'
            obtain ⟨rfl, _, rfl⟩ := hv'
            obtain ⟨g2, off2, hp2, hcc⟩ := hcc0 k hkt.1
            subst hp2
            have hok := HCO.out _ (List.getElem_mem hkt.1)
            obtain ⟨c, hcc'⟩ : ∃ c, cs[k]'hkt.1 = c := ⟨_, rfl⟩
            rw [hcc'] at hcc hok
            have hto2 := told_run w1 _ bt w2.heap.size (300 * j + cs.length) (S'.1, E) HZ.out (by omega) c.lease hok
            obtain ⟨gn, ⟨⟨lk, lh, ll, lb⟩, s, cl, ia, ti⟩⟩ := c
            have a1 := hcc 1 (by omega)
            have a2 := hcc 2 (by omega)
            have a3 := hcc 3 (by omega)
            have a4 := hcc 4 (by omega)
            have a5 := hcc 5 (by omega)
            have a6 := hcc 6 (by omega)
            have a7 := hcc 7 (by omega)
            have a8 := hcc 8 (by omega)
            simp only [Change.cells, List.getElem?_cons_zero, List.getElem?_cons_succ, Lease.val] at a1 a2 a3 a4 a5 a6 a7 a8 hto2
            clear hcc hcc' hok hcc0 HTO
            go_wp2_with (go_at_call 9; refine hto2.mono ?_; rintro e wD ⟨rfl, hBD, hkD⟩)
            exact ⟨⟨k + 1, _, by rw [Int.natCast_add]; rfl, hkt.1, hkt.2, ⟨hBD⟩⟩, by simp [RowKit.intOf]; omega⟩
          · have hend : (cs.length ≤ k ∧ ¬ (k : Int) < (cs.length : Int)) ∨ ((k : Int) < (cs.length : Int) ∧ ¬ (k : Int) < 4) := by omega
            have HFIN := Aside1.mk (show Both w1 _ bt w2.heap.size (300 * (j + 1)) (S'.1, E) S'.1 from HZ.out.mono (by omega))
            rcases hend with ⟨_, hno1⟩ | ⟨hyes, hno1⟩
            all_goals
              go_wp2_with fail
              exact ⟨⟨j + 1, (S'.1, E), by rw [Int.natCast_add]; rfl, hlt.1, hlt.2, HFIN⟩, by simp [RowKit.intOf]; omega⟩
      · have hl' : (300 : Int) < (cs.length : Int) := by omega
        go_wp2_with fail
        go_ret
        exact ⟨rfl, HQW.out⟩
    · have hend : (¬ (j : Int) < (css.length : Int)) ∨ ((j : Int) < (css.length : Int) ∧ ¬ (j : Int) < 300) := by omega
      have hN : 300 * j ≤ 1000000000 := by omega
      have HA := Aside1.mk (fun W (hq : Quiet wr W) => And.intro (both_all w1 W bt w2.heap.size (300 * j) S S.1 (HJ.out.keep hq) hN) (And.intro (both_rall w1 W bt w2.heap.size (300 * j) S S.1 (HJ.out.keep hq)) (held_copy w1 W bt (300 * j) S (HJ.out.keep hq).held hN)))
      have HC := Aside1.mk (fun W W' bc (hH : Held W W' bc (300 * j) S) => held_all W W' bc (300 * j) S hH hN)
      clear HXL HTO HJ HB
      rcases hend with hno1 | ⟨hyes, hno1⟩
      all_goals
        go_wp2_with fail
        refine (HA.out _ (Kept.refl _ _)).1.mono ?_
        rintro e w4 ⟨v4, rfl, hl4, hq4⟩
        go_wp2_with fail
        refine (HA.out _ hq4).2.1.mono ?_
        rintro e w5 ⟨v5, rfl, hl5, hq5⟩
        go_wp2_with fail
        refine (same_yes _ _ _ _ _ _ (hl4.old hq5 (fun _ _ h => h)) hl5).mono ?_
        rintro e w6 ⟨rfl, hq6⟩
        have hq46 := (hq4.andThen hq5 (fun _ _ h => h)).andThen hq6 (fun _ _ h => h)
        go_wp2_with fail
        refine (HA.out _ hq46).2.2.mono ?_
        rintro e w7 ⟨bc, rfl, hH7, hq7⟩
        go_wp2_with fail
        refine (HC.out _ _ _ hH7).mono ?_
        rintro e w8 ⟨v8, rfl, hl8, hq8⟩
        have hq48 := (hq46.andThen hq7 (fun _ _ h => h)).andThen hq8 (fun _ _ h => h)
        go_wp2_with fail
        refine (HA.out _ hq48).2.1.mono ?_
        rintro e w9 ⟨v9, rfl, hl9, hq9⟩
        go_wp2_with fail
        refine (same_yes _ _ _ _ _ _ (hl8.old hq9 (fun _ _ h => h)) hl9).mono ?_
        rintro e w10 ⟨rfl, hq10⟩
        go_wp2_with fail
        go_ret
        exact ⟨rfl, HQW.out.andThen ((hq48.andThen hq9 (fun _ _ h => h)).andThen hq10 (fun _ _ h => h)) (fun _ _ h => h)⟩
end Go.Proofs.YtmegbllhidkmoaaGreat.Tb
