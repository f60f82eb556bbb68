/- Walks of functions of the program. Printed by sx.py. -/
import Derived.Test.YtdlpaojkkekdlaaXa
namespace Go.Proofs.Ytdlpaojkkekdlaa
open Go.GL
set_option linter.unusedVariables false
theorem xb_bv92_0_1 (x0 : Option Nat) (x1 : Int) : BuildV Try.prog 92 [(0, .map x0), (1, .int .i64 x1)] (.agg #[.map x0, .int .i64 x1, .bool false, .bool false, .int .i64 0]) := fun w => by kernel_rfl
theorem xb_ni23 : noInt Try.prog 23 = true := by kernel_rfl
theorem xb_ta101 : tyAgg Try.prog 101 2 = true := by kernel_rfl
theorem xb_te5 : tyElem Try.prog 5 1 1 = true := by kernel_rfl
theorem xb_tf101_0 : fieldOff Try.prog 101 0 0 = true := by kernel_rfl
theorem xb_tf92_0 : fieldOff Try.prog 92 0 0 = true := by kernel_rfl
theorem xb_tf92_1 : fieldOff Try.prog 92 1 1 = true := by kernel_rfl
theorem xb_tf92_2 : fieldOff Try.prog 92 2 2 = true := by kernel_rfl
theorem xb_tl23 : tySlice Try.prog 23 5 = true := by kernel_rfl
theorem xb_tm90 : tyMap Try.prog 90 3 101 = true := by kernel_rfl
theorem xb_ts23 : tyScalar Try.prog 23 = true := by kernel_rfl
theorem xb_ts3 : tyScalar Try.prog 3 = true := by kernel_rfl
theorem xb_ts4 : tyScalar Try.prog 4 = true := by kernel_rfl
theorem xb_ts90 : tyScalar Try.prog 90 = true := by kernel_rfl
theorem xb_tz101 : tySize Try.prog 101 2 = true := by kernel_rfl
theorem append_spec {n : Int} {x : List UInt8} {ob : Option Addr} {cb : Nat} {b : Nat} {s : Ds} {M : List HP} {F : List Fact} (hok : OkF s.fs) (hA : AllF s.fs ∈ F) (hx : ArrF ob (bytesV x) ∈ F) (hu : used s.fs ≤ s.room) (hrm : s.room ≤ 16777216) (hn0 : I64 n) (h0 : -9223372036854775807 ≤ s.left ∧ s.left ≤ 9223372036854775807) (hxl : x.length ≤ 4398046511104) : Ctr Try.prog 44 [.pointer (some ⟨b, 0, none⟩), I n, .slice ob x.length cb] (Box b 92 (dkC s) :: MpB s.m (fsV s.fs) :: M) F {z : RdX // ((fget s.fs n).b ++ x).length ≤ z.c} (fun _ => I (appE s n x)) (fun z => Box b 92 (dkC (appS s n x z.1)) :: MpB (appS s n x z.1).m (fsV (appS s n x z.1).fs) :: M) (fun z => AllF (appS s n x z.1).fs :: F) := by
  refine Ctr.body Try.func44 rfl rfl ?_
  refine TR.seq ?_
  refine TR.region ?_
  refine RL.assign rfl rfl rfl ?_
  refine RL.nil ?_
  refine NX.seq ?_
  refine TR.seq ?_
  refine TR.block ?_
  refine TR.seq ?_
  refine TR.region ?_
  refine RL.move rfl rfl rfl ?_
  refine RL.call rfl rfl Try.call71 rfl (exists_spec) (fun _ => ?_)
  refine RL.not rfl rfl rfl ?_
  refine RL.assign rfl rfl rfl ?_
  refine RL.nil ?_
  refine NX.seq ?_
  refine TR.cond rfl (fun h1 => ?_) (fun h1 => ?_)
  · skip
    have hth : ¬ there n := by have h9 := h1; simp at h9; unfold there; omega
    refine TR.seq ?_
    refine TR.region ?_
    refine RL.assign rfl rfl rfl ?_
    refine RL.nil ?_
    refine NX.seq ?_
    refine TR.ret ?_
    refine NX.retBlock ?_
    refine NX.retThen ?_
    refine NX.ret1 (⟨⟨none, ((fget s.fs n).b ++ x).length⟩, Nat.le_refl _⟩ : {z : RdX // ((fget s.fs n).b ++ x).length ≤ z.c}) rfl rfl (by unfold appE; rw [if_pos hth]) (fun w hw => ?_)
    rw [show appS s n x ⟨none, ((fget s.fs n).b ++ x).length⟩ = s from by unfold appS; rw [if_pos hth]]
    exact hw.allF_keep hA
  · skip
    have hth : there n := by have h9 := h1; simp at h9; exact h9
    have hn : I64 n := ⟨by have := hth.1; omega, by have := hth.2; omega⟩
    refine TR.seq ?_
    refine TR.region ?_
    refine RL.move rfl rfl rfl ?_
    refine RL.nilCheck rfl rfl rfl ?_
    refine RL.fieldAddr rfl xb_tf92_2 rfl rfl ?_
    refine RL.load1 0 rfl xb_ts4 rfl rfl rfl rfl ?_
    refine RL.assign rfl rfl rfl ?_
    refine RL.nil ?_
    refine NX.seq ?_
    refine TR.cond rfl (fun h2 => ?_) (fun h2 => ?_)
    · skip
      have hoff : s.off = true := h2
      refine TR.seq ?_
      refine TR.region ?_
      refine RL.assign rfl rfl rfl ?_
      refine RL.nil ?_
      refine NX.seq ?_
      refine TR.ret ?_
      refine NX.retBlock ?_
      refine NX.retThen ?_
      refine NX.ret1 (⟨⟨none, ((fget s.fs n).b ++ x).length⟩, Nat.le_refl _⟩ : {z : RdX // ((fget s.fs n).b ++ x).length ≤ z.c}) rfl rfl (by unfold appE; rw [if_neg (fun h => h hth), if_pos hoff]) (fun w hw => ?_)
      rw [show appS s n x ⟨none, ((fget s.fs n).b ++ x).length⟩ = s from by unfold appS; rw [if_neg (fun h => h hth), if_pos hoff]]
      exact hw.allF_keep hA
    · skip
      have hoff : ¬ s.off = true := by have h9 : s.off = false := h2; rw [h9]; simp
      refine TR.seq ?_
      refine TR.sub (E' := [(0, _), (1, _), (2, _), (6, _)]) ⟨rfl, rfl, rfl, rfl, trivial⟩ ?_
      refine TR.draw mixed ?_
      apply AR.more [(0, _), (1, _), (2, _), (3, _), (4, _), (5, _), (6, _)]
      refine AR.eff [0, 1, 2, 3, 4, 5, 6] 7 [0, 1, 2, 3, 4, 5, 6, 7, 8, 9, 10] ⟨QOne.yes rfl rfl rfl (PV.move rfl), QOne.yes rfl rfl rfl (PV.lenSlice xb_tl23 rfl), QOne.yes rfl rfl rfl (PV.move rfl), QOne.yes rfl rfl rfl (PV.nilCheck rfl), QOne.yes rfl rfl rfl (PV.fieldAddr xb_tf92_1 rfl), QOne.yes rfl rfl rfl (PV.load1 0 xb_ts3 rfl rfl rfl), QOne.yes rfl rfl rfl (PV.move rfl), trivial⟩ rfl rfl rfl rfl rfl rfl rfl (EV.call rfl Try.call41 (used_spec hok (by omega))) (fun _ => ?_)
      refine AR.done [6] rfl ?_
      apply AR.more [(8, _), (9, _), (10, _)]
      refine AR.last [0, 1, 2, 3, 4, 5, 8, 9, 10] [0, 1, 2, 3, 4, 5, 6, 7, 8, 9, 10] ⟨QOne.yes rfl rfl rfl (PV.move rfl), QOne.yes rfl rfl rfl (PV.lenSlice xb_tl23 rfl), QOne.yes rfl rfl rfl (PV.move rfl), QOne.yes rfl rfl rfl (PV.nilCheck rfl), QOne.yes rfl rfl rfl (PV.fieldAddr xb_tf92_1 rfl), QOne.yes rfl rfl rfl (PV.load1 0 xb_ts3 rfl rfl rfl), QOne.yes rfl rfl rfl (PV.bin rfl rfl (BinV.sub _ rfl (by omega) (by omega))), QOne.yes rfl rfl rfl (PV.bin rfl rfl BinV.gtr), QOne.yes rfl rfl rfl (PV.assign rfl), trivial⟩ rfl rfl rfl ?_
      refine NX.sub (E' := [(0, _), (1, _), (2, _), (6, _), (17, _)]) ⟨rfl, rfl, rfl, rfl, rfl, trivial⟩ ?_
      skip
      refine NX.seq ?_
      refine TR.cond rfl (fun h3 => ?_) (fun h3 => ?_)
      · skip
        have hfull : (s.room : Int) - used s.fs < x.length := of_decide_eq_true h3
        refine TR.seq ?_
        refine TR.region ?_
        refine RL.assign rfl rfl rfl ?_
        refine RL.nil ?_
        refine NX.seq ?_
        refine TR.ret ?_
        refine NX.retBlock ?_
        refine NX.retThen ?_
        refine NX.ret1 (⟨⟨none, ((fget s.fs n).b ++ x).length⟩, Nat.le_refl _⟩ : {z : RdX // ((fget s.fs n).b ++ x).length ≤ z.c}) rfl rfl (by unfold appE; rw [if_neg (fun h => h hth), if_neg hoff, if_pos hfull]) (fun w hw => ?_)
        rw [show appS s n x ⟨none, ((fget s.fs n).b ++ x).length⟩ = s from by unfold appS; rw [if_neg (fun h => h hth), if_neg hoff, if_pos hfull]]
        exact hw.allF_keep hA
      · skip
        have hfull : ¬ (s.room : Int) - used s.fs < x.length := of_decide_eq_false h3
        have hfu := fget_used s.fs n
        refine TR.skip ?_
        refine NX.off ?_
        refine NX.seq ?_
        refine TR.seq ?_
        refine TR.weak (fun w hw => hw.allF_get (k := n) (by first | exact hA | exact .tail _ hA | exact .tail _ (.tail _ hA) | exact .tail _ (.tail _ (.tail _ hA)) | exact .tail _ (.tail _ (.tail _ (.tail _ hA))) | exact .tail _ (.tail _ (.tail _ (.tail _ (.tail _ hA)))) | exact .tail _ (.tail _ (.tail _ (.tail _ (.tail _ (.tail _ hA))))))) ?_
        refine TR.region ?_
        refine RL.move rfl rfl rfl ?_
        refine RL.nilCheck rfl rfl rfl ?_
        refine RL.fieldAddr rfl xb_tf92_0 rfl rfl ?_
        refine RL.load1 0 rfl xb_ts90 rfl rfl rfl rfl ?_
        refine RL.move rfl rfl rfl ?_
        refine RL.lookupF 1 rfl xb_tm90 rfl rfl hn rfl Try.zeroValue101 rfl ?_
        refine RL.allocA rfl (Try.zeroValue101) rfl (fun b4 => ?_)
        refine RL.storeA 0 rfl rfl rfl rfl xb_tz101 rfl rfl ?_
        refine RL.nil ?_
        refine NX.seq ?_
        refine TR.seq ?_
        refine TR.region ?_
        refine RL.fieldAddr rfl xb_tf101_0 rfl rfl ?_
        refine RL.load1 0 rfl xb_ts23 rfl rfl rfl rfl ?_
        refine RL.call rfl rfl Try.call61 rfl (cloneB_spec (l := (fget s.fs n).b) (rd_fact (.head _)) (by omega)) (fun y => ?_)
        refine RL.move rfl rfl rfl ?_
        refine RL.ofGV rfl rfl (GV.append (j := 0) xb_tl23 xb_ni23 xb_te5 rfl rfl rfl (src_fact (xs := bytesV x) (by first | exact hx | exact .tail _ hx | exact .tail _ (.tail _ hx) | exact .tail _ (.tail _ (.tail _ hx)) | exact .tail _ (.tail _ (.tail _ (.tail _ hx))) | exact .tail _ (.tail _ (.tail _ (.tail _ (.tail _ hx)))) | exact .tail _ (.tail _ (.tail _ (.tail _ (.tail _ (.tail _ hx)))))) (by rw [bytesV_length, Nat.mul_one]) (bytesV_one _)) (by omega) (by omega)) (fun z => ?_)
        refine RL.open1 (fun w hw => ⟨hw.ownLen.2, hw⟩) (fun hzc => ?_)
        refine RL.weak (fun w hw => hw.keepSl) ?_
        refine RL.fieldAddr rfl xb_tf101_0 rfl rfl ?_
        refine RL.store1 0 rfl xb_ts23 rfl rfl rfl rfl rfl ?_
        refine RL.weak (M' := Box b4 101 (flC (appF s n x ⟨z.1, z.2⟩)) :: Box b 92 (dkC s) :: MpB s.m (fsV s.fs) :: M) (F' := ArrF z.1 (bytesV (appF s n x ⟨z.1, z.2⟩).b) :: F) (fun w hw => ?_) ?_
        · show St w (Box _ _ [.slice z.1 ((fget s.fs n).b ++ x).length z.2, I (fget s.fs n).dur] :: _) (ArrF z.1 (bytesV ((fget s.fs n).b ++ x)) :: F)
          rw [List.length_append, bytesV_append]
          exact hw.facts (fun φ h => by rcases List.mem_cons.1 h with e1 | h; exact e1 ▸ .head _; exact .tail _ (.tail _ h))
        refine RL.nil ?_
        refine NX.seq ?_
        refine TR.seq ?_
        refine TR.region ?_
        refine RL.move rfl rfl rfl ?_
        refine RL.move rfl rfl rfl ?_
        refine RL.loadA 0 rfl rfl rfl xb_ta101 rfl ?_
        refine RL.call rfl rfl Try.call63 rfl (Ctr.frame (J := [Box b 92 (dkC s), MpB s.m (fsV s.fs)]) (J' := fun _ => [Box b 92 (dkC ({ s with fs := setF s.fs n (appF s n x ⟨z.1, z.2⟩) })), MpB s.m (fsV ({ s with fs := setF s.fs n (appF s n x ⟨z.1, z.2⟩) }).fs)]) [_] (set_spec (f := appF s n x ⟨z.1, z.2⟩) hn)) (fun _ => ?_)
        refine RL.nil ?_
        refine NX.seq ?_
        refine TR.seq ?_
        refine TR.seq ?_
        refine TR.region ?_
        refine RL.move rfl rfl rfl ?_
        refine RL.call rfl rfl Try.call72 rfl (Ctr.frame (J := [Box b 92 (dkC ({ s with fs := setF s.fs n (appF s n x ⟨z.1, z.2⟩) })), MpB s.m (fsV ({ s with fs := setF s.fs n (appF s n x ⟨z.1, z.2⟩) }).fs)]) (J' := fun _ => [Box b 92 (dkC (stepS { s with fs := setF s.fs n (appF s n x ⟨z.1, z.2⟩) })), MpB (stepS { s with fs := setF s.fs n (appF s n x ⟨z.1, z.2⟩) }).m (fsV (stepS { s with fs := setF s.fs n (appF s n x ⟨z.1, z.2⟩) }).fs)]) [_] (step_spec (s := { s with fs := setF s.fs n (appF s n x ⟨z.1, z.2⟩) }) h0)) (fun _ => ?_)
        refine RL.not rfl rfl rfl ?_
        refine RL.nil ?_
        refine NX.seq ?_
        refine TR.cond rfl (fun h6 => ?_) (fun h6 => ?_)
        · skip
          have hst : ¬ stepB s = true := by rw [← stepB_fs s (setF s.fs n (appF s n x ⟨z.1, z.2⟩))]; simpa using h6
          refine TR.seq ?_
          refine TR.region ?_
          refine RL.assign rfl rfl rfl ?_
          refine RL.nil ?_
          refine NX.seq ?_
          refine TR.ret ?_
          refine NX.retThen ?_
          refine NX.ret1 (⟨⟨z.1, z.2⟩, by rw [List.length_append]; exact hzc⟩ : {z : RdX // ((fget s.fs n).b ++ x).length ≤ z.c}) rfl rfl (by unfold appE; rw [if_neg (fun h => h hth), if_neg hoff, if_neg hfull, if_neg hst]) (fun w hw => ?_)
          rw [show appS s n x ⟨z.1, z.2⟩ = stepS { s with fs := setF s.fs n (appF s n x ⟨z.1, z.2⟩) } from by unfold appS; rw [if_neg (fun h => h hth), if_neg hoff, if_neg hfull]]
          have h8 := (hw.drop 0 rfl).allF_setF (k := n) (f := appF s n x ⟨z.1, z.2⟩) (by first | exact hA | exact .tail _ hA | exact .tail _ (.tail _ hA) | exact .tail _ (.tail _ (.tail _ hA)) | exact .tail _ (.tail _ (.tail _ (.tail _ hA))) | exact .tail _ (.tail _ (.tail _ (.tail _ (.tail _ hA)))) | exact .tail _ (.tail _ (.tail _ (.tail _ (.tail _ (.tail _ hA)))))) (.head _)
          have h7 := h8.derive (ψ := AllF (stepS { s with fs := setF s.fs n (appF s n x ⟨z.1, z.2⟩) }).fs) (fun K hf => by rw [stepS_fs]; exact hf _ (.head _))
          exact h7.facts (fun φ h => by rcases List.mem_cons.1 h with e1 | h; exact e1 ▸ .head _; exact .tail _ (.tail _ (.tail _ h)))
        · skip
          have hst : stepB s = true := by rw [← stepB_fs s (setF s.fs n (appF s n x ⟨z.1, z.2⟩))]; simpa using h6
          refine TR.skip ?_
          refine NX.seq ?_
          refine TR.seq ?_
          refine TR.region ?_
          refine RL.assign rfl rfl rfl ?_
          refine RL.nil ?_
          refine NX.seq ?_
          refine TR.ret ?_
          refine NX.ret1 (⟨⟨z.1, z.2⟩, by rw [List.length_append]; exact hzc⟩ : {z : RdX // ((fget s.fs n).b ++ x).length ≤ z.c}) rfl rfl (by unfold appE; rw [if_neg (fun h => h hth), if_neg hoff, if_neg hfull, if_pos hst]) (fun w hw => ?_)
          rw [show appS s n x ⟨z.1, z.2⟩ = stepS { s with fs := setF s.fs n (appF s n x ⟨z.1, z.2⟩) } from by unfold appS; rw [if_neg (fun h => h hth), if_neg hoff, if_neg hfull]]
          have h8 := (hw.drop 0 rfl).allF_setF (k := n) (f := appF s n x ⟨z.1, z.2⟩) (by first | exact hA | exact .tail _ hA | exact .tail _ (.tail _ hA) | exact .tail _ (.tail _ (.tail _ hA)) | exact .tail _ (.tail _ (.tail _ (.tail _ hA))) | exact .tail _ (.tail _ (.tail _ (.tail _ (.tail _ hA)))) | exact .tail _ (.tail _ (.tail _ (.tail _ (.tail _ (.tail _ hA)))))) (.head _)
          have h7 := h8.derive (ψ := AllF (stepS { s with fs := setF s.fs n (appF s n x ⟨z.1, z.2⟩) }).fs) (fun K hf => by rw [stepS_fs]; exact hf _ (.head _))
          exact h7.facts (fun φ h => by rcases List.mem_cons.1 h with e1 | h; exact e1 ▸ .head _; exact .tail _ (.tail _ (.tail _ h)))

theorem sync_spec {b : Nat} {s : Ds} {M : List HP} {F : List Fact} (hok : OkF s.fs) (h0 : -9223372036854775807 ≤ s.left ∧ s.left ≤ 9223372036854775807) : Ctr Try.prog 54 [.pointer (some ⟨b, 0, none⟩)] (Box b 92 (dkC s) :: MpB s.m (fsV s.fs) :: M) F Unit (fun _ => I (syncE s)) (fun _ => Box b 92 (dkC (syncS s)) :: MpB (syncS s).m (fsV (syncS s).fs) :: M) (fun _ => F) := by
  refine Ctr.body Try.func54 rfl rfl ?_
  refine TR.seq ?_
  refine TR.region ?_
  refine RL.assign rfl rfl rfl ?_
  refine RL.nil ?_
  refine NX.seq ?_
  refine TR.seq ?_
  refine TR.seq ?_
  refine TR.region ?_
  refine RL.move rfl rfl rfl ?_
  refine RL.nilCheck rfl rfl rfl ?_
  refine RL.fieldAddr rfl xb_tf92_2 rfl rfl ?_
  refine RL.load1 0 rfl xb_ts4 rfl rfl rfl rfl ?_
  refine RL.move rfl rfl rfl ?_
  refine RL.part (fun h1 => ?_) (fun h1 => ?_)
  · skip
    have hoff : s.off = true := h1
    refine RL.skip rfl rfl rfl ?_
    refine RL.skip rfl rfl rfl ?_
    refine RL.skip rfl rfl rfl ?_
    refine RL.pickT rfl rfl rfl rfl ?_
    refine RL.nil ?_
    refine NX.seq ?_
    refine TR.condT rfl ?_
    refine TR.seq ?_
    refine TR.region ?_
    refine RL.assign rfl rfl rfl ?_
    refine RL.nil ?_
    refine NX.seq ?_
    refine TR.ret ?_
    refine NX.retThen ?_
    refine NX.ret1 () rfl rfl (by unfold syncE; rw [if_pos (Or.inl hoff)]) (fun w hw => ?_)
    rw [show syncS s = s from by unfold syncS; rw [if_pos hoff]]
    exact hw
  · skip
    have hoff : ¬ s.off = true := by have h9 : s.off = false := h1; rw [h9]; simp
    refine RL.move rfl rfl rfl ?_
    refine RL.call rfl rfl Try.call72 rfl (step_spec (s := s) h0) (fun _ => ?_)
    refine RL.not rfl rfl rfl ?_
    refine RL.pickF rfl rfl rfl rfl ?_
    refine RL.nil ?_
    refine NX.seq ?_
    refine TR.cond rfl (fun h2 => ?_) (fun h2 => ?_)
    · skip
      have hst : stepB s = false := by simpa using h2
      refine TR.seq ?_
      refine TR.region ?_
      refine RL.assign rfl rfl rfl ?_
      refine RL.nil ?_
      refine NX.seq ?_
      refine TR.ret ?_
      refine NX.retThen ?_
      refine NX.ret1 () rfl rfl (by unfold syncE; rw [if_pos (Or.inr hst)]) (fun w hw => ?_)
      rw [show syncS s = stepS s from by unfold syncS; rw [if_neg hoff, if_pos hst]]
      exact hw
    · skip
      have hst : ¬ stepB s = false := by have h9 := h2; simp at h9; rw [h9]; simp
      refine TR.skip ?_
      refine NX.seq ?_
      refine TR.seq ?_
      refine TR.region ?_
      refine RL.move rfl rfl rfl ?_
      refine RL.call rfl rfl Try.call64 rfl (harden_spec (s := stepS s) (by rw [stepS_fs]; exact hok)) (fun _ => ?_)
      refine RL.nil ?_
      refine NX.seq ?_
      refine TR.seq ?_
      refine TR.region ?_
      refine RL.assign rfl rfl rfl ?_
      refine RL.nil ?_
      refine NX.seq ?_
      refine TR.ret ?_
      refine NX.ret1 () rfl rfl (by unfold syncE; rw [if_neg (fun h => h.elim hoff hst)]) (fun w hw => ?_)
      rw [show syncS s = { stepS s with fs := hard (stepS s).fs } from by unfold syncS; rw [if_neg hoff, if_neg hst]]
      exact hw

theorem field0_101 (a : Option Addr) (n c : Nat) (d : Int) : ∀ w, (Instr.field 101 (.agg #[.slice a n c, I d]) 0).run Try.prog w = .ok (.slice a n c) w := fun w => by kernel_rfl

theorem read_dspec {n : Int} {b : Nat} {s : Ds} {M : List HP} {F : List Fact} (hok : OkF s.fs) (hA : AllF s.fs ∈ F) (hu : used s.fs ≤ 70368744177664) (hn0 : I64 n) : Ctr Try.prog 52 [.pointer (some ⟨b, 0, none⟩), I n] (Box b 92 (dkC s) :: MpB s.m (fsV s.fs) :: M) F (Option Addr × Nat) (fun z => .tuple #[.slice z.1 (readB s n).length z.2, I (readE s n)]) (fun z => OwnSl 5 1 z.1 (readB s n).length z.2 (bytesV (readB s n)) :: Box b 92 (dkC (s)) :: MpB (s).m (fsV (s).fs) :: M) (fun _ => F) := by
  refine Ctr.body Try.func52 rfl rfl ?_
  refine TR.seq ?_
  refine TR.region ?_
  refine RL.assign rfl rfl rfl ?_
  refine RL.assign rfl rfl rfl ?_
  refine RL.nil ?_
  refine NX.seq ?_
  refine TR.seq ?_
  refine TR.block ?_
  refine TR.seq ?_
  refine TR.region ?_
  refine RL.move rfl rfl rfl ?_
  refine RL.call rfl rfl Try.call71 rfl (exists_spec) (fun _ => ?_)
  refine RL.not rfl rfl rfl ?_
  refine RL.assign rfl rfl rfl ?_
  refine RL.nil ?_
  refine NX.seq ?_
  refine TR.cond rfl (fun h1 => ?_) (fun h1 => ?_)
  · skip
    have hth : ¬ there n := by have h9 := h1; simp at h9; unfold there; omega
    refine TR.seq ?_
    refine TR.region ?_
    refine RL.assign rfl rfl rfl ?_
    refine RL.assign rfl rfl rfl ?_
    refine RL.nil ?_
    refine NX.seq ?_
    refine TR.ret ?_
    refine NX.retBlock ?_
    refine NX.retThen ?_
    refine NX.ret2x rfl rfl rfl (fun w hw => ⟨(none, 0), ?_, ?_⟩)
    · unfold readE readB; rw [if_pos hth, if_pos hth]; rfl
    · rw [show readB s n = [] from by unfold readB; rw [if_pos hth]]; exact OwnSl.nil_new 5 1 hw
  · skip
    have hth : there n := by have h9 := h1; simp at h9; exact h9
    have hn : I64 n := ⟨by have := hth.1; omega, by have := hth.2; omega⟩
    refine TR.seq ?_
    refine TR.region ?_
    refine RL.move rfl rfl rfl ?_
    refine RL.nilCheck rfl rfl rfl ?_
    refine RL.fieldAddr rfl xb_tf92_2 rfl rfl ?_
    refine RL.load1 0 rfl xb_ts4 rfl rfl rfl rfl ?_
    refine RL.assign rfl rfl rfl ?_
    refine RL.nil ?_
    refine NX.seq ?_
    refine TR.cond rfl (fun h2 => ?_) (fun h2 => ?_)
    · skip
      have hoff : s.off = true := h2
      refine TR.seq ?_
      refine TR.region ?_
      refine RL.assign rfl rfl rfl ?_
      refine RL.assign rfl rfl rfl ?_
      refine RL.nil ?_
      refine NX.seq ?_
      refine TR.ret ?_
      refine NX.retBlock ?_
      refine NX.retThen ?_
      refine NX.ret2x rfl rfl rfl (fun w hw => ⟨(none, 0), ?_, ?_⟩)
      · unfold readE readB; rw [if_neg (show ¬ ¬ there n from fun h => h hth), if_neg (show ¬ ¬ there n from fun h => h hth), if_pos hoff, if_pos hoff]; rfl
      · rw [show readB s n = [] from by unfold readB; rw [if_neg (show ¬ ¬ there n from fun h => h hth), if_pos hoff]]; exact OwnSl.nil_new 5 1 hw
    · skip
      have hoff : ¬ s.off = true := by have h9 : s.off = false := h2; rw [h9]; simp
      refine TR.skip ?_
      refine NX.off ?_
      refine NX.seq ?_
      refine TR.seq ?_
      have hfu := fget_used s.fs n
      refine TR.weak (fun w hw => hw.allF_get (k := n) hA) ?_
      refine TR.region ?_
      refine RL.move rfl rfl rfl ?_
      refine RL.nilCheck rfl rfl rfl ?_
      refine RL.fieldAddr rfl xb_tf92_0 rfl rfl ?_
      refine RL.load1 0 rfl xb_ts90 rfl rfl rfl rfl ?_
      refine RL.move rfl rfl rfl ?_
      refine RL.lookupF 1 rfl xb_tm90 rfl rfl hn rfl Try.zeroValue101 rfl ?_
      refine RL.fieldV rfl rfl (field0_101 _ _ _ _) rfl ?_
      refine RL.call rfl rfl Try.call61 rfl (cloneB_spec (l := (fget s.fs n).b) (rd_fact (.head _)) (by omega)) (fun y => ?_)
      refine RL.assign rfl rfl rfl ?_
      refine RL.assign rfl rfl rfl ?_
      refine RL.nil ?_
      refine NX.seq ?_
      refine TR.ret ?_
      refine NX.ret2x rfl rfl rfl (fun w hw => ⟨y, ?_, ?_⟩)
      · unfold readE readB; rw [if_neg (show ¬ ¬ there n from fun h => h hth), if_neg (show ¬ ¬ there n from fun h => h hth), if_neg hoff, if_neg hoff]
      · rw [show readB s n = (fget s.fs n).b from by unfold readB; rw [if_neg (show ¬ ¬ there n from fun h => h hth), if_neg hoff]]; exact hw.facts (fun φ h => .tail _ h)

theorem new_ok {k : Nat} {M : List HP} {F : List Fact} (hk : k ≤ 16777216) : Ctr Try.prog 51 [I k] M F (Nat × Nat) (fun z => .tuple #[.pointer (some ⟨z.1, 0, none⟩), I 0]) (fun z => Box z.1 92 (dkC ⟨z.2, [], k, false, false, 0⟩) :: MpB z.2 (fsV []) :: M) (fun _ => F) := by
  refine Ctr.body Try.func51 rfl rfl ?_
  refine TR.seq ?_
  refine TR.region ?_
  refine RL.assign rfl rfl rfl ?_
  refine RL.assign rfl rfl rfl ?_
  refine RL.nil ?_
  refine NX.seq ?_
  refine TR.seq ?_
  refine TR.seq ?_
  refine TR.region ?_
  refine RL.move rfl rfl rfl ?_
  refine RL.bin rfl rfl rfl (BinV.to (d := false) BinV.lss (decide_eq_false (by omega))) rfl ?_
  refine RL.move rfl rfl rfl ?_
  refine RL.move rfl rfl rfl ?_
  refine RL.bin rfl rfl rfl (BinV.to (d := false) BinV.gtr (decide_eq_false (by omega))) rfl ?_
  refine RL.pickF rfl rfl rfl rfl ?_
  refine RL.nil ?_
  refine NX.seq ?_
  refine TR.condF rfl ?_
  refine TR.skip ?_
  refine NX.seq ?_
  refine TR.seq ?_
  refine TR.region ?_
  refine RL.ofGV rfl rfl GV.makeMap (fun m => ?_)
  refine RL.move rfl rfl rfl ?_
  refine RL.build rfl rfl (xb_bv92_0_1 _ _) rfl ?_
  refine RL.boxA rfl rfl rfl (fun b1 => ?_)
  refine RL.assign rfl rfl rfl ?_
  refine RL.assign rfl rfl rfl ?_
  refine RL.nil ?_
  refine NX.seq ?_
  refine TR.ret ?_
  exact NX.ret2 (⟨b1, m⟩ : Nat × Nat) rfl rfl rfl rfl (fun w hw => hw)

end Go.Proofs.Ytdlpaojkkekdlaa
