/- text.row. -/
import Derived.Test.YtmegbllhidkmoaaDoorGivenF
import Derived.Outline
namespace Go.Proofs.YtmegbllhidkmoaaDoor.Tx
open Go.RowKit Go.Lib Go.Proofs.YtmegbllhidkmoaaDoorW.PrintWords
set_option linter.unusedVariables false

def partVal (p : ByteArray) : Option Nat := if p.size ≤ 4 then hex16 p.data.toList else none
def rowGo : List ByteArray → List Int → Option (List Int)
  | [], acc => some acc
  | p :: ps, acc => match partVal p with
    | none => none
    | some n => rowGo ps (acc ++ [(n : Int)])
def rowParts (s : ByteArray) : List ByteArray := Lib.splitB ⟨#[58]⟩ 0 (Lib.countB s ⟨#[58]⟩) s
def text_row.f (a0 : ByteArray) : Option (List Int × Bool) :=
  if a0.size ≤ 4294967280 then
    if a0.toList = [] then some ([], true) else
    some (match rowGo (rowParts a0) [] with
      | some l => (l, true)
      | none => ([], false))
  else none
def RowEnds (parts : List ByteArray) (l : List Int) (b : Bool) : Prop := (l, b) = (match rowGo parts [] with | some l => (l, true) | none => ([], false))
theorem info26g : (Tryd.prog.info? 26).map (fun i => (i.zero, i.size, i.bytes)) = some (some (.int .u64 0), 1, 8) := by kernel_rfl

theorem hex16_plus (l : List UInt8) (n : Nat) (h : hex16 l = some n) : Lib.hasPrefix l [43] = false := by
  cases l with
  | nil => simp [hex16] at h
  | cons c l =>
    unfold hex16 at h
    rw [if_neg (by simp)] at h
    by_cases hc : c = 43
    · subst hc
      simp [parse16, hexval] at h
    · have : (43 : UInt8) ≠ c := fun h => hc h.symm
      show ((43 : UInt8) == c && _) = false
      rw [beq_eq_false_iff_ne.2 this]
      rfl

theorem rowParts_len (s : ByteArray) (h : s.size ≤ 4294967280) : (rowParts s).length ≤ 4294967281 := by
  unfold rowParts
  have h1 : 1 ≤ (⟨#[58]⟩ : ByteArray).size := by decide
  rw [Lib.splitB_all _ h1 0 _ s rfl]
  have := Lib.countB_le ⟨#[58]⟩ h1 s.size s (Nat.le_refl _)
  omega

set_option maxHeartbeats 3200000 in
set_option maxRecDepth 100000 in
theorem row_parts (s : ByteArray) (hs : s.size ≤ 4294967280) (hbig : ∀ p ∈ rowParts s, p.size ≤ 281474976710656) (hne : ¬ s.toList = []) (w : World) (hG : Aside0 (Glob w)) (hspl : strings_Split.f s ⟨#[58]⟩ = some (rowParts s)) :
    Calls Tryd.prog 37 #[.string s] w fun e w' => ∃ (v0_ : Value) (l : List Int) (b : Bool), e = .returned (.tuple #[v0_, .bool b]) ∧ RowEnds (rowParts s) l b ∧ Kd.R (Kd.int .u64) 26 w' w.heap.size (fun _ => True) v0_ l ∧ Below w.heap.size w w' := by
  have c2b0 : (s.toList == ([] : List UInt8)) = false := beq_eq_false_iff_ne.mpr hne
  have hlen := rowParts_len s hs
  generalize hparts : rowParts s = parts at *
  have HP := Aside0.mk hbig
  have HSp := Aside0.mk hspl
  clear hbig hspl hparts
  go_enter Tryd.func37, Tryd.ntmps37
  go_wp2_with fail
  refine (strings_Split.calls s ⟨#[58]⟩ parts _ hG HSp.out).mono ?_
  rintro e w1 ⟨v230, rfl, ho0, hb⟩
  obtain ⟨Ao, co, rfl⟩ := Kd.R_slice ho0
  have HO := Aside0.mk ho0
  have HB := Aside0.mk hb
  clear ho0 hb
  go_wp2_with fail
  go_loopw [4, 14] (fun v4 v14 wr => ∃ (j : Nat) (acc : List Int), v14 = .int .i64 j ∧ j ≤ parts.length ∧ Aside0 (acc.length = j ∧ rowGo parts [] = rowGo (parts.drop j) acc) ∧ Aside0 (Kd.R (Kd.int .u64) 26 wr w.heap.size (fun _ => True) v4 acc) ∧ Aside0 (Kd.R Kd.string 9 wr w.heap.size (fun _ => True) (.slice Ao parts.length co) parts) ∧ Aside0 (Below w.heap.size w wr)) (fun _ v14 _ => parts.length - (RowKit.intOf v14).toNat)
  case atStart => exact ⟨0, [], rfl, Nat.zero_le _, ⟨rfl, rfl⟩, ⟨Kd.R_nil _ _ _ _ _⟩, ⟨HO.out⟩, ⟨HB.out⟩⟩
  case round =>
    clear HO HB
    obtain ⟨j, acc, rfl, hj, HI, HA, HO, HB⟩ := hrel
    by_cases hlt : j < parts.length
    · have hi1 : (j : Int) < (parts.length : Int) := by omega
      obtain ⟨ad, e0, hx⟩ := Kd.at_string (Kd.R_reads' HO.out).2.2 (j : Int) (by omega) hi1
      subst e0
      rw [Int.toNat_natCast] at hx
      have hget : rdOf ByteArray.empty parts (j : Int) = parts[j] := by simp [rdOf, List.getD, hlt]
      rw [hget] at hx
      have hdrop : parts.drop j = parts[j] :: parts.drop (j + 1) := List.drop_eq_getElem_cons hlt
      have hbp := HP.out parts[j] (List.getElem_mem hlt)
      have HI' := HI.out.2
      rw [hdrop] at HI'
      generalize parts[j] = p at hx hbp HI'
      clear hget hdrop
      cases hp : hex16 p.data.toList with
      | none =>
        have hv : partVal p = none := by unfold partVal; split <;> first | exact hp | rfl
        have H := Lib.hid (pub16_bad p hbp hp)
        have HR := Aside0.mk HI'
        have HV := Aside0.mk hv
        have HN := Aside0.mk hbp
        clear hp hv HI' hbp
        go_wp2_with fail
        refine (H.out _ (hG.out.below (by repeat (first | (with_reducible first | exact HB.out | apply below_alloc | apply pw_below_drewN | apply below_drew1) | exact HB.out)))).mono ?_
        rintro e w2 ⟨⟨x, t, q, rfl⟩, hb2⟩
        have HB2 := Aside0.mk hb2
        clear hb2
        go_wp2_with fail
        go_ret2
        refine ⟨_, [], false, rfl, ?_, Kd.R_nil _ _ _ _ _, below_step (by repeat (first | (with_reducible first | exact HB.out | apply below_alloc | apply pw_below_drewN | apply below_drew1) | exact HB.out)) HB2.out⟩
        have e1 := HR.out
        unfold RowEnds
        rw [e1]
        simp only [rowGo, HV.out]
      | some n =>
        have H := Lib.hid (pub16_ok p hbp n hp)
        have hpl := hex16_plus _ _ hp
        have HPL : Hid (Lib.hasPrefix p.data.toList [43] = false) := Lib.hid hpl
        have HX := Aside0.mk hp
        have HN := Aside0.mk hbp
        clear hp hbp hpl
        by_cases h4 : p.size ≤ 4
        · have hv : partVal p = some n := by unfold partVal; rw [if_pos h4]; exact HX.out
          have HV := Aside0.mk hv
          have HR := Aside0.mk HI'
          clear hv HI'
          go_wp2_with fail
          refine (H.out _).mono ?_
          rintro e w2 ⟨rfl, hb2⟩
          have HB2 := Aside0.mk hb2
          clear hb2
          go_wp2_with fail
          refine (Tryd.strings_HasPrefix p ⟨#[43]⟩ _).mono ?_
          rintro e w3 ⟨rfl, rfl⟩
          rw [show (⟨#[43]⟩ : ByteArray).data.toList = [43] from rfl, HPL.out]
          have HB3 := Aside0.mk (below_step (by repeat (first | (with_reducible first | exact HB.out | apply below_alloc | apply pw_below_drewN | apply below_drew1) | exact HB.out)) HB2.out)
          have HA3 := Aside0.mk (Kd.R_below (by (with_reducible repeat (first | apply Kd.R_alloc | apply Kd.R_drewN | apply Kd.R_drew)); exact HA.out) HB2.out)
          have HO3 := Aside0.mk (Kd.R_below (by (with_reducible repeat (first | apply Kd.R_alloc | apply Kd.R_drewN | apply Kd.R_drew)); exact HO.out) HB2.out)
          have hal : acc.length ≤ 4294967281 := by have := HI.out.1; omega
          have HAL := Aside0.mk hal
          clear hal
          go_wp2_with (first | ((with_reducible refine gate_builtin (b := .append) (xs := #[.tmp 34, .tmp 36]) rfl ?_); at_builtin; refine Kd.R_append (Kd.int .u64) (w0 := w) w.heap.size rfl (.tmp 34) (.tmp 36) 58 26 (.int .u64 0) 8 rfl Tryd.underlying58 info26g rfl (by decide) (by omega) u4 acc (n : Int) [.int .u64 (n : Int)] (fun _ => True) (fun _ => False) rfl rfl ?aP (fun _ hk => hk.elim) ?aF ?aO ?aB ?aS ?aL ?_; (case aP => exact rfl); (case aB => exact (by repeat (first | (with_reducible first | exact HB3.out | apply below_alloc | apply pw_below_drewN | apply below_drew1) | exact HB3.out))); (case aF => exact (fun _ _ => trivial)); (case aO => exact (by (with_reducible repeat (first | apply Kd.R_alloc | apply Kd.R_drewN | apply Kd.R_drew)); exact HA3.out)); (case aS => exact (below_size (by repeat (first | (with_reducible first | exact HB3.out | apply below_alloc | apply pw_below_drewN | apply below_drew1) | exact HB3.out)))); (case aL => have := HAL.out; omega); intro v236 w15 ho hb hg hat; have n0_ := Aside0.mk (Kd.R_over' (by (with_reducible repeat (first | apply Kd.R_alloc | apply Kd.R_drewN | apply Kd.R_drew)); exact HO3.out) (Kd.R_typed (by (with_reducible repeat (first | apply Kd.R_alloc | apply Kd.R_drewN | apply Kd.R_drew)); exact HA3.out)) (by decide) hg); have n1_ := Aside0.mk (hb); have n2_ := Aside0.mk (ho); clear ho hb hg hat))
          go_roundw
          case rel => exact ⟨j + 1, acc ++ [(n : Int)], by go_num, by omega, ⟨by rw [List.length_append, HI.out.1]; rfl, by rw [HR.out]; simp only [rowGo, HV.out]⟩, ⟨by (with_reducible repeat (first | apply Kd.R_alloc | apply Kd.R_drewN | apply Kd.R_drew)); exact n2_.out⟩, ⟨by (with_reducible repeat (first | apply Kd.R_alloc | apply Kd.R_drewN | apply Kd.R_drew)); exact n0_.out⟩, ⟨by repeat (first | (with_reducible first | exact n1_.out | apply below_alloc | apply pw_below_drewN | apply below_drew1) | exact n1_.out)⟩⟩
          case measure => simp [RowKit.intOf]; omega
        · have hv : partVal p = none := by unfold partVal; rw [if_neg h4]
          have HV := Aside0.mk hv
          have HR := Aside0.mk HI'
          clear hv HI'
          have i4 : (4 : Int) < (p.size : Int) := by omega
          go_wp2_with fail
          refine (H.out _).mono ?_
          rintro e w2 ⟨rfl, hb2⟩
          have HB2 := Aside0.mk hb2
          clear hb2
          go_wp2_with fail
          go_ret2
          refine ⟨_, [], false, rfl, ?_, Kd.R_nil _ _ _ _ _, below_step (by repeat (first | (with_reducible first | exact HB.out | apply below_alloc | apply pw_below_drewN | apply below_drew1) | exact HB.out)) HB2.out⟩
          have e1 := HR.out
          unfold RowEnds
          rw [e1]
          simp only [rowGo, HV.out]
    · have hj2 : j = parts.length := by omega
      have HJ := Aside0.mk hj2
      clear hj2
      go_wp2_with fail
      go_ret2
      refine ⟨_, acc, true, rfl, ?_, (by (with_reducible repeat (first | apply Kd.R_alloc | apply Kd.R_drewN | apply Kd.R_drew)); exact HA.out), (by repeat (first | (with_reducible first | exact HB.out | apply below_alloc | apply pw_below_drewN | apply below_drew1) | exact HB.out))⟩
      have e1 := HI.out.2
      rw [HJ.out, List.drop_length] at e1
      unfold RowEnds
      rw [e1]
      simp only [rowGo]

theorem split_sizes (sep : ByteArray) : ∀ (k : Nat) (s p : ByteArray), p ∈ Lib.splitB sep 0 k s → p.size ≤ s.size
  | 0, s, p, h => by
    simp [Lib.splitB] at h
    subst h
    exact Nat.le_refl _
  | k + 1, s, p, h => by
    unfold Lib.splitB at h
    split at h
    · simp at h; subst h; exact Nat.le_refl _
    · rcases List.mem_cons.1 h with rfl | h
      · rw [ByteArray.size_extract]; omega
      · have := split_sizes sep k _ p h
        rw [ByteArray.size_extract] at this
        omega

set_option maxRecDepth 100000 in
theorem text_row.calls (a0 : ByteArray) (r1 : List Int) (r2 : Bool) (w : World) (hG : Aside0 (Glob w)) (h : text_row.f a0 = some (r1, r2)) :
    Calls Tryd.prog 37 #[.string a0] w fun e w' => ∃ v0_ : Value, e = .returned (.tuple #[v0_, .bool r2]) ∧ Kd.R (Kd.int .u64) 26 w' w.heap.size (fun _ => True) v0_ r1 ∧ Below w.heap.size w w' := by
  unfold text_row.f at h
  by_cases hc : a0.size ≤ 4294967280
  · rw [if_pos hc] at h
    by_cases he : a0.toList = []
    · rw [if_pos he] at h
      simp only [Option.some.injEq, Prod.mk.injEq] at h
      obtain ⟨rfl, rfl⟩ := h
      have c2b0 : (a0.toList == ([] : List UInt8)) = true := beq_iff_eq.mpr he
      clear he hc
      go_enter Tryd.func37, Tryd.ntmps37
      go_wp2_with fail
      go_ret2
      exact ⟨_, rfl, Kd.R_nil _ _ _ _ _, Below.refl _ _⟩
    · rw [if_neg he] at h
      have h1 := Option.some.inj h
      have hspl : strings_Split.f a0 ⟨#[58]⟩ = some (rowParts a0) := by
        unfold strings_Split.f rowParts
        rw [if_pos ⟨by omega, by decide⟩]
      refine (row_parts a0 hc (fun p hp => by have := split_sizes _ _ _ _ hp; omega) he w hG hspl).mono ?_
      rintro e w' ⟨v, l, b, rfl, hE, hR, hb⟩
      unfold RowEnds at hE
      rw [h1] at hE
      simp only [Prod.mk.injEq] at hE
      obtain ⟨rfl, rfl⟩ := hE
      exact ⟨v, rfl, hR, hb⟩
  · rw [if_neg hc] at h; exact absurd h (by simp)
end Go.Proofs.YtmegbllhidkmoaaDoor.Tx
