/- Walks of functions of the program. Printed by sx.py. -/
import Derived.Test.YtdlpaojkkekdlaaXb
namespace Go.Proofs.Ytdlpaojkkekdlaa
open Go.GL
set_option linter.unusedVariables false
theorem xc_bv101_0_1 (x0 : Option Addr) (x0n x0c : Nat) (x1 : Int) : BuildV Try.prog 101 [(0, .slice x0 x0n x0c), (1, .int .i64 x1)] (.agg #[.slice x0 x0n x0c, .int .i64 x1]) := fun w => by kernel_rfl
theorem xc_tf101_0 : fieldOff Try.prog 101 0 0 = true := by kernel_rfl
theorem xc_tf101_1 : fieldOff Try.prog 101 1 1 = true := by kernel_rfl
theorem xc_tf92_0 : fieldOff Try.prog 92 0 0 = true := by kernel_rfl
theorem xc_tf92_2 : fieldOff Try.prog 92 2 2 = true := by kernel_rfl
theorem xc_tl23 : tySlice Try.prog 23 5 = true := by kernel_rfl
theorem xc_tm90 : tyMap Try.prog 90 3 101 = true := by kernel_rfl
theorem xc_ts23 : tyScalar Try.prog 23 = true := by kernel_rfl
theorem xc_ts3 : tyScalar Try.prog 3 = true := by kernel_rfl
theorem xc_ts4 : tyScalar Try.prog 4 = true := by kernel_rfl
theorem xc_ts90 : tyScalar Try.prog 90 = true := by kernel_rfl
theorem xc_tz101 : tySize Try.prog 101 2 = true := by kernel_rfl
theorem xc_tz5 : tySize Try.prog 5 1 = true := by kernel_rfl
theorem trunc_spec {n k : Int} {b : Nat} {s : Ds} {M : List HP} {F : List Fact} (hok : OkF s.fs) (hA : AllF s.fs ∈ F) (hn : I64 n) (h0 : -9223372036854775807 ≤ s.left ∧ s.left ≤ 9223372036854775807) : Ctr Try.prog 53 [.pointer (some ⟨b, 0, none⟩), I n, I k] (Box b 92 (dkC s) :: MpB s.m (fsV s.fs) :: M) F Unit (fun _ => I (truncE s n k)) (fun _ => Box b 92 (dkC (truncS s n k)) :: MpB (truncS s n k).m (fsV (truncS s n k).fs) :: M) (fun _ => AllF (truncS s n k).fs :: F) := by
  refine Ctr.body Try.func53 rfl rfl ?_
  refine TR.seq ?_
  refine TR.region ?_
  refine RL.assign rfl rfl rfl ?_
  refine RL.nil ?_
  refine NX.seq ?_
  refine TR.seq ?_
  refine TR.region ?_
  have hfe := fget_each hok n
  refine RL.move rfl rfl rfl ?_
  refine RL.nilCheck rfl rfl rfl ?_
  refine RL.fieldAddr rfl xc_tf92_0 rfl rfl ?_
  refine RL.load1 0 rfl xc_ts90 rfl rfl rfl rfl ?_
  refine RL.move rfl rfl rfl ?_
  refine RL.lookupF 1 rfl xc_tm90 rfl rfl hn rfl Try.zeroValue101 rfl ?_
  refine RL.allocA rfl (Try.zeroValue101) rfl (fun b1 => ?_)
  refine RL.storeA 0 rfl rfl rfl rfl xc_tz101 rfl rfl ?_
  refine RL.nil ?_
  refine NX.seq ?_
  refine TR.seq ?_
  refine TR.seq ?_
  refine TR.region ?_
  refine RL.move rfl rfl rfl ?_
  refine RL.call rfl rfl Try.call71 rfl (exists_spec) (fun _ => ?_)
  refine RL.not rfl rfl rfl ?_
  refine RL.move rfl rfl rfl ?_
  refine RL.part (fun h2 => ?_) (fun h2 => ?_)
  · skip
    have hb : truncBad s n k := Or.inl (by have h9 := h2; simp at h9; unfold there; omega)
    refine RL.skip rfl rfl rfl ?_
    refine RL.skip rfl rfl rfl ?_
    refine RL.pickT rfl rfl rfl rfl ?_
    refine RL.move rfl rfl rfl ?_
    refine RL.skip rfl rfl rfl ?_
    refine RL.skip rfl rfl rfl ?_
    refine RL.skip rfl rfl rfl ?_
    refine RL.skip rfl rfl rfl ?_
    refine RL.skip rfl rfl rfl ?_
    refine RL.pickT rfl rfl rfl rfl ?_
    refine RL.nil ?_
    refine NX.seq ?_
    refine TR.condT rfl ?_
    refine TR.seq ?_
    refine TR.region ?_
    refine RL.assign rfl rfl rfl ?_
    refine RL.nil ?_
    refine NX.seq ?_
    refine TR.ret ?_
    refine NX.retThen ?_
    refine NX.ret1 () rfl rfl (by unfold truncE; rw [if_pos hb]) (fun w hw => ?_)
    rw [show truncS s n k = s from by unfold truncS; rw [if_pos hb]]
    exact (hw.drop 0 rfl).allF_keep hA
  · skip
    have hth : there n := by have h9 := h2; simp at h9; exact h9
    refine RL.move rfl rfl rfl ?_
    refine RL.bin rfl rfl rfl BinV.lss rfl ?_
    refine RL.pickF rfl rfl rfl rfl ?_
    refine RL.move rfl rfl rfl ?_
    refine RL.part (fun h3 => ?_) (fun h3 => ?_)
    · skip
      have hb : truncBad s n k := Or.inr (Or.inl (of_decide_eq_true h3))
      refine RL.skip rfl rfl rfl ?_
      refine RL.skip rfl rfl rfl ?_
      refine RL.skip rfl rfl rfl ?_
      refine RL.skip rfl rfl rfl ?_
      refine RL.skip rfl rfl rfl ?_
      refine RL.pickT rfl rfl rfl rfl ?_
      refine RL.nil ?_
      refine NX.seq ?_
      refine TR.condT rfl ?_
      refine TR.seq ?_
      refine TR.region ?_
      refine RL.assign rfl rfl rfl ?_
      refine RL.nil ?_
      refine NX.seq ?_
      refine TR.ret ?_
      refine NX.retThen ?_
      refine NX.ret1 () rfl rfl (by unfold truncE; rw [if_pos hb]) (fun w hw => ?_)
      rw [show truncS s n k = s from by unfold truncS; rw [if_pos hb]]
      exact (hw.drop 0 rfl).allF_keep hA
    · skip
      have hk0 : ¬ k < 0 := of_decide_eq_false h3
      refine RL.move rfl rfl rfl ?_
      refine RL.fieldAddr rfl xc_tf101_0 rfl rfl ?_
      refine RL.load1 0 rfl xc_ts23 rfl rfl rfl rfl ?_
      refine RL.lenSlice rfl xc_tl23 rfl rfl ?_
      refine RL.bin rfl rfl rfl BinV.gtr rfl ?_
      refine RL.pickF rfl rfl rfl rfl ?_
      refine RL.nil ?_
      refine NX.seq ?_
      refine TR.cond rfl (fun h4 => ?_) (fun h4 => ?_)
      · skip
        have hb : truncBad s n k := Or.inr (Or.inr (by have h9 := of_decide_eq_true h4; omega))
        refine TR.seq ?_
        refine TR.region ?_
        refine RL.assign rfl rfl rfl ?_
        refine RL.nil ?_
        refine NX.seq ?_
        refine TR.ret ?_
        refine NX.retThen ?_
        refine NX.ret1 () rfl rfl (by unfold truncE; rw [if_pos hb]) (fun w hw => ?_)
        rw [show truncS s n k = s from by unfold truncS; rw [if_pos hb]]
        exact (hw.drop 0 rfl).allF_keep hA
      · skip
        have hkl : ¬ ((fget s.fs n).b.length : Int) < k := by have h9 := of_decide_eq_false h4; omega
        have hb : ¬ truncBad s n k := fun h => h.elim (fun h => h hth) (fun h => h.elim hk0 hkl)
        obtain ⟨kk, hkk⟩ : ∃ kk : Nat, k = kk := ⟨k.toNat, by omega⟩
        subst hkk
        refine TR.skip ?_
        refine NX.seq ?_
        refine TR.seq ?_
        refine TR.seq ?_
        refine TR.region ?_
        refine RL.move rfl rfl rfl ?_
        refine RL.nilCheck rfl rfl rfl ?_
        refine RL.fieldAddr rfl xc_tf92_2 rfl rfl ?_
        refine RL.load1 1 rfl xc_ts4 rfl rfl rfl rfl ?_
        refine RL.move rfl rfl rfl ?_
        refine RL.part (fun h5 => ?_) (fun h5 => ?_)
        · skip
          have hoff : s.off = true := h5
          refine RL.skip rfl rfl rfl ?_
          refine RL.skip rfl rfl rfl ?_
          refine RL.skip rfl rfl rfl ?_
          refine RL.pickT rfl rfl rfl rfl ?_
          refine RL.nil ?_
          refine NX.seq ?_
          refine TR.condT rfl ?_
          refine TR.seq ?_
          refine TR.region ?_
          refine RL.assign rfl rfl rfl ?_
          refine RL.nil ?_
          refine NX.seq ?_
          refine TR.ret ?_
          refine NX.retThen ?_
          refine NX.ret1 () rfl rfl (by unfold truncE; rw [if_neg hb, if_pos (Or.inl hoff)]) (fun w hw => ?_)
          rw [show truncS s n kk = s from by unfold truncS; rw [if_neg hb, if_pos hoff]]
          exact (hw.drop 0 rfl).allF_keep hA
        · skip
          have hoff : ¬ s.off = true := by have h9 : s.off = false := h5; rw [h9]; simp
          refine RL.move rfl rfl rfl ?_
          refine RL.call rfl rfl Try.call72 rfl (Ctr.frame (J := [Box b 92 (dkC (s)), MpB (s).m (fsV (s).fs)]) (J' := fun _ => [Box b 92 (dkC (stepS s)), MpB (stepS s).m (fsV (stepS s).fs)]) [_] (step_spec (s := s) h0)) (fun _ => ?_)
          refine RL.not rfl rfl rfl ?_
          refine RL.pickF rfl rfl rfl rfl ?_
          refine RL.nil ?_
          refine NX.seq ?_
          refine TR.cond rfl (fun h6 => ?_) (fun h6 => ?_)
          · skip
            have hst : stepB s = false := by simpa using h6
            refine TR.seq ?_
            refine TR.region ?_
            refine RL.assign rfl rfl rfl ?_
            refine RL.nil ?_
            refine NX.seq ?_
            refine TR.ret ?_
            refine NX.retThen ?_
            refine NX.ret1 () rfl rfl (by unfold truncE; rw [if_neg hb, if_pos (Or.inr hst)]) (fun w hw => ?_)
            rw [show truncS s n kk = stepS s from by unfold truncS; rw [if_neg hb, if_neg hoff, if_pos hst]]
            have h8 := (hw.drop 0 rfl).derive (ψ := AllF (stepS s).fs) (fun K hf => by rw [stepS_fs]; exact hf _ hA)
            exact h8
          · skip
            have hst : ¬ stepB s = false := by have h9 := h6; simp at h9; rw [h9]; simp
            refine TR.skip ?_
            refine NX.seq ?_
            refine TR.seq ?_
            refine TR.weak (fun w hw => (hw.allF_get (k := n) hA).cutT kk hfe.1 (.head _)) ?_
            refine TR.sub (E' := [(0, _), (1, _), (2, _), (6, _), (7, _)]) ⟨rfl, rfl, rfl, rfl, rfl, trivial⟩ ?_
            refine TR.draw mixed ?_
            apply AR.more [(0, _), (1, _), (2, _), (3, _), (4, _), (5, _), (6, _), (7, _), (8, _), (9, _), (10, _)]
            refine AR.eff [0, 1, 2, 3, 4, 5, 6, 7, 8, 9, 10] 11 [0, 1, 2, 3, 4, 5, 6, 7, 8, 9, 10, 11] ⟨QOne.yes rfl rfl rfl (PV.move rfl), QOne.yes rfl rfl rfl (PV.move rfl), QOne.yes rfl rfl rfl (PV.fieldAddr xc_tf101_0 rfl), QOne.yes rfl rfl rfl (PV.load1 0 xc_ts23 rfl rfl rfl), QOne.yes rfl rfl rfl (PV.move rfl), QOne.yes rfl rfl rfl (PV.cast (v' := .slice (cutA (fget s.fs n).oa 0 (fget s.fs n).c 1) ((fget s.fs n).b.take kk).length (fget s.fs n).c) (by rw [List.length_take, Nat.min_eq_left (by omega)]; rfl) (PV.sliceLH (l := 0) (h := kk) xc_tl23 xc_tz5 rfl (.inl ⟨rfl, rfl⟩) (.inr ⟨_, rfl, rfl⟩) (Nat.zero_le _) (by omega))), QOne.yes rfl rfl rfl (PV.fieldAddr xc_tf101_1 rfl), QOne.yes rfl rfl rfl (PV.load1 0 xc_ts3 rfl rfl rfl), QOne.yes rfl rfl rfl (PV.move rfl), QOne.yes rfl rfl rfl (PV.cast (v' := I ((min (fget s.fs n).dur kk : Nat))) (congrArg (Value.int .i64) (by omega)) (PV.min rfl rfl)), QOne.yes rfl rfl rfl (PV.build rfl (xc_bv101_0_1 _ _ _ _)), trivial⟩ rfl rfl rfl rfl rfl rfl rfl (EV.call rfl Try.call63 (Ctr.frame (J := [Box b 92 (dkC (stepS s)), MpB (stepS s).m (fsV (stepS s).fs)]) (J' := fun _ => [Box b 92 (dkC ({ stepS s with fs := setF (stepS s).fs n (truncF s n kk) })), MpB ({ stepS s with fs := setF (stepS s).fs n (truncF s n kk) }).m (fsV ({ stepS s with fs := setF (stepS s).fs n (truncF s n kk) }).fs)]) [_] (set_spec (s := stepS s) (f := truncF s n kk) hn))) (fun _ => ?_)
            refine AR.done [0, 1, 10, 5, 9, 7, 8, 3, 4, 2, 6] rfl ?_
            refine AR.last [] [0, 1, 2, 3, 4, 5, 6, 7, 8, 9, 10, 11] trivial rfl rfl rfl ?_
            refine NX.sub (E' := [(6, _)]) ⟨rfl, trivial⟩ ?_
            refine NX.seq ?_
            refine TR.seq ?_
            refine TR.region ?_
            refine RL.assign rfl rfl rfl ?_
            refine RL.nil ?_
            refine NX.seq ?_
            refine TR.ret ?_
            refine NX.ret1 () rfl rfl (by unfold truncE; rw [if_neg hb, if_neg (fun h => h.elim hoff hst)]) (fun w hw => ?_)
            rw [show truncS s n kk = { stepS s with fs := setF (stepS s).fs n (truncF s n kk) } from by unfold truncS; rw [if_neg hb, if_neg hoff, if_neg hst]; rfl]
            have hA2 : AllF (stepS s).fs ∈ F := by rw [stepS_fs]; exact hA
            have h8 := (hw.drop 0 rfl).allF_setF (fs := (stepS s).fs) (k := n) (f := truncF s n kk) (.tail _ (.tail _ hA2)) (.head _)
            exact h8.facts (fun φ h => by rcases List.mem_cons.1 h with e1 | h; exact e1 ▸ .head _; exact .tail _ (.tail _ (.tail _ h)))

end Go.Proofs.Ytdlpaojkkekdlaa
