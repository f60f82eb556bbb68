/- Lemmas and walks for the proof of DurJ: texts one behind the other. No condition. -/
import Derived.Laws.OwnMore
import Derived.Test.YtdnjoffkanjjhaaPdrb
namespace Go.Proofs.Ytdnjoffkanjjhaa
open Go.GL
set_option linter.unusedVariables false
theorem xb_bv66_0_1 (x0 : Option Nat) (x1 : Int) : BuildV Try.prog 66 [(0, .map x0), (1, .int .i64 x1)] (.agg #[.map x0, .int .i64 x1, .bool false, .bool false, .int .i64 0]) := fun w => by kernel_rfl
theorem xb_ni27 : noInt Try.prog 27 = true := by kernel_rfl
theorem xb_ta69 : tyAgg Try.prog 69 2 = true := by kernel_rfl
theorem xb_te5 : tyElem Try.prog 5 1 1 = true := by kernel_rfl
theorem xb_tf66_0 : fieldOff Try.prog 66 0 0 = true := by kernel_rfl
theorem xb_tf66_1 : fieldOff Try.prog 66 1 1 = true := by kernel_rfl
theorem xb_tf66_2 : fieldOff Try.prog 66 2 2 = true := by kernel_rfl
theorem xb_tf69_0 : fieldOff Try.prog 69 0 0 = true := by kernel_rfl
theorem xb_tl27 : tySlice Try.prog 27 5 = true := by kernel_rfl
theorem xb_tm64 : tyMap Try.prog 64 3 69 = true := by kernel_rfl
theorem xb_ts27 : tyScalar Try.prog 27 = true := by kernel_rfl
theorem xb_ts3 : tyScalar Try.prog 3 = true := by kernel_rfl
theorem xb_ts4 : tyScalar Try.prog 4 = true := by kernel_rfl
theorem xb_ts64 : tyScalar Try.prog 64 = true := by kernel_rfl
theorem xb_tz69 : tySize Try.prog 69 2 = true := by kernel_rfl
theorem append_spec {n : Int} {x : List UInt8} {ob : Option Addr} {cb : Nat} {b : Nat} {s : Ds} {M : List HP} {F : List Fact} (hok : OkF s.fs) (hA : AllF s.fs ∈ F) (hx : ArrF ob (bytesV x) ∈ F) (hu : used s.fs ≤ s.room) (hrm : s.room ≤ 16777216) (hn0 : I64 n) (h0 : -9223372036854775807 ≤ s.left ∧ s.left ≤ 9223372036854775807) (hxl : x.length ≤ 4398046511104) : Ctr Try.prog 13 [.pointer (some ⟨b, 0, none⟩), I n, .slice ob x.length cb] (Box b 66 (dkC s) :: MpB s.m (fsV s.fs) :: M) F {z : RdX // ((fget s.fs n).b ++ x).length ≤ z.c} (fun _ => I (appE s n x)) (fun z => Box b 66 (dkC (appS s n x z.1)) :: MpB (appS s n x z.1).m (fsV (appS s n x z.1).fs) :: M) (fun z => AllF (appS s n x z.1).fs :: F) := by
  refine Ctr.body Try.func13 rfl rfl ?_
  refine TR.seq ?_
  refine TR.region ?_
  refine RL.assign rfl rfl rfl ?_
  refine RL.nil ?_
  refine NX.seq ?_
  refine TR.seq ?_
  refine TR.block ?_
  refine TR.seq ?_
  refine TR.region ?_
  refine RL.move rfl rfl rfl ?_
  refine RL.call rfl rfl Try.call32 rfl (exists_spec) (fun _ => ?_)
  refine RL.not rfl rfl rfl ?_
  refine RL.assign rfl rfl rfl ?_
  refine RL.nil ?_
  refine NX.seq ?_
  refine TR.cond rfl (fun h1 => ?_) (fun h1 => ?_)
  · skip
    have hth : ¬ there n := by have h9 := h1; simp at h9; unfold there; omega
    refine TR.seq ?_
    refine TR.region ?_
    refine RL.assign rfl rfl rfl ?_
    refine RL.nil ?_
    refine NX.seq ?_
    refine TR.ret ?_
    refine NX.retBlock ?_
    refine NX.retThen ?_
    refine NX.ret1 (⟨⟨none, ((fget s.fs n).b ++ x).length⟩, Nat.le_refl _⟩ : {z : RdX // ((fget s.fs n).b ++ x).length ≤ z.c}) rfl rfl (by unfold appE; rw [if_pos hth]) (fun w hw => ?_)
    rw [show appS s n x ⟨none, ((fget s.fs n).b ++ x).length⟩ = s from by unfold appS; rw [if_pos hth]]
    exact hw.allF_keep hA
  · skip
    have hth : there n := by have h9 := h1; simp at h9; exact h9
    have hn : I64 n := ⟨by have := hth.1; omega, by have := hth.2; omega⟩
    refine TR.seq ?_
    refine TR.region ?_
    refine RL.move rfl rfl rfl ?_
    refine RL.nilCheck rfl rfl rfl ?_
    refine RL.fieldAddr rfl xb_tf66_2 rfl rfl ?_
    refine RL.load1 0 rfl xb_ts4 rfl rfl rfl rfl ?_
    refine RL.assign rfl rfl rfl ?_
    refine RL.nil ?_
    refine NX.seq ?_
    refine TR.cond rfl (fun h2 => ?_) (fun h2 => ?_)
    · skip
      have hoff : s.off = true := h2
      refine TR.seq ?_
      refine TR.region ?_
      refine RL.assign rfl rfl rfl ?_
      refine RL.nil ?_
      refine NX.seq ?_
      refine TR.ret ?_
      refine NX.retBlock ?_
      refine NX.retThen ?_
      refine NX.ret1 (⟨⟨none, ((fget s.fs n).b ++ x).length⟩, Nat.le_refl _⟩ : {z : RdX // ((fget s.fs n).b ++ x).length ≤ z.c}) rfl rfl (by unfold appE; rw [if_neg (fun h => h hth), if_pos hoff]) (fun w hw => ?_)
      rw [show appS s n x ⟨none, ((fget s.fs n).b ++ x).length⟩ = s from by unfold appS; rw [if_neg (fun h => h hth), if_pos hoff]]
      exact hw.allF_keep hA
    · skip
      have hoff : ¬ s.off = true := by have h9 : s.off = false := h2; rw [h9]; simp
      refine TR.seq ?_
      refine TR.sub (E' := [(0, _), (1, _), (2, _), (6, _)]) ⟨rfl, rfl, rfl, rfl, trivial⟩ ?_
      refine TR.draw mixed ?_
      apply AR.more [(0, _), (1, _), (2, _), (3, _), (4, _), (5, _), (6, _)]
      refine AR.eff [0, 1, 2, 3, 4, 5, 6] 7 [0, 1, 2, 3, 4, 5, 6, 7, 8, 9, 10] ⟨QOne.yes rfl rfl rfl (PV.move rfl), QOne.yes rfl rfl rfl (PV.lenSlice xb_tl27 rfl), QOne.yes rfl rfl rfl (PV.move rfl), QOne.yes rfl rfl rfl (PV.nilCheck rfl), QOne.yes rfl rfl rfl (PV.fieldAddr xb_tf66_1 rfl), QOne.yes rfl rfl rfl (PV.load1 0 xb_ts3 rfl rfl rfl), QOne.yes rfl rfl rfl (PV.move rfl), trivial⟩ rfl rfl rfl rfl rfl rfl rfl (EV.call rfl Try.call20 (used_spec hok (by omega))) (fun _ => ?_)
      refine AR.done [6] rfl ?_
      apply AR.more [(8, _), (9, _), (10, _)]
      refine AR.last [0, 1, 2, 3, 4, 5, 8, 9, 10] [0, 1, 2, 3, 4, 5, 6, 7, 8, 9, 10] ⟨QOne.yes rfl rfl rfl (PV.move rfl), QOne.yes rfl rfl rfl (PV.lenSlice xb_tl27 rfl), QOne.yes rfl rfl rfl (PV.move rfl), QOne.yes rfl rfl rfl (PV.nilCheck rfl), QOne.yes rfl rfl rfl (PV.fieldAddr xb_tf66_1 rfl), QOne.yes rfl rfl rfl (PV.load1 0 xb_ts3 rfl rfl rfl), QOne.yes rfl rfl rfl (PV.bin rfl rfl (BinV.sub _ rfl (by omega) (by omega))), QOne.yes rfl rfl rfl (PV.bin rfl rfl BinV.gtr), QOne.yes rfl rfl rfl (PV.assign rfl), trivial⟩ rfl rfl rfl ?_
      refine NX.sub (E' := [(0, _), (1, _), (2, _), (6, _), (17, _)]) ⟨rfl, rfl, rfl, rfl, rfl, trivial⟩ ?_
      skip
      refine NX.seq ?_
      refine TR.cond rfl (fun h3 => ?_) (fun h3 => ?_)
      · skip
        have hfull : (s.room : Int) - used s.fs < x.length := of_decide_eq_true h3
        refine TR.seq ?_
        refine TR.region ?_
        refine RL.assign rfl rfl rfl ?_
        refine RL.nil ?_
        refine NX.seq ?_
        refine TR.ret ?_
        refine NX.retBlock ?_
        refine NX.retThen ?_
        refine NX.ret1 (⟨⟨none, ((fget s.fs n).b ++ x).length⟩, Nat.le_refl _⟩ : {z : RdX // ((fget s.fs n).b ++ x).length ≤ z.c}) rfl rfl (by unfold appE; rw [if_neg (fun h => h hth), if_neg hoff, if_pos hfull]) (fun w hw => ?_)
        rw [show appS s n x ⟨none, ((fget s.fs n).b ++ x).length⟩ = s from by unfold appS; rw [if_neg (fun h => h hth), if_neg hoff, if_pos hfull]]
        exact hw.allF_keep hA
      · skip
        have hfull : ¬ (s.room : Int) - used s.fs < x.length := of_decide_eq_false h3
        have hfu := fget_used s.fs n
        refine TR.skip ?_
        refine NX.off ?_
        refine NX.seq ?_
        refine TR.seq ?_
        refine TR.weak (fun w hw => hw.allF_get (k := n) (by first | exact hA | exact .tail _ hA | exact .tail _ (.tail _ hA) | exact .tail _ (.tail _ (.tail _ hA)) | exact .tail _ (.tail _ (.tail _ (.tail _ hA))) | exact .tail _ (.tail _ (.tail _ (.tail _ (.tail _ hA)))) | exact .tail _ (.tail _ (.tail _ (.tail _ (.tail _ (.tail _ hA))))))) ?_
        refine TR.region ?_
        refine RL.move rfl rfl rfl ?_
        refine RL.nilCheck rfl rfl rfl ?_
        refine RL.fieldAddr rfl xb_tf66_0 rfl rfl ?_
        refine RL.load1 0 rfl xb_ts64 rfl rfl rfl rfl ?_
        refine RL.move rfl rfl rfl ?_
        refine RL.lookupF 1 rfl xb_tm64 rfl rfl hn rfl Try.zeroValue69 rfl ?_
        refine RL.allocA rfl (Try.zeroValue69) rfl (fun b4 => ?_)
        refine RL.storeA 0 rfl rfl rfl rfl xb_tz69 rfl rfl ?_
        refine RL.nil ?_
        refine NX.seq ?_
        refine TR.seq ?_
        refine TR.region ?_
        refine RL.fieldAddr rfl xb_tf69_0 rfl rfl ?_
        refine RL.load1 0 rfl xb_ts27 rfl rfl rfl rfl ?_
        refine RL.call rfl rfl Try.call33 rfl (cloneB_spec (l := (fget s.fs n).b) (rd_fact (.head _)) (by omega)) (fun y => ?_)
        refine RL.move rfl rfl rfl ?_
        refine RL.ofGV rfl rfl (GV.append (j := 0) xb_tl27 xb_ni27 xb_te5 rfl rfl rfl (src_fact (xs := bytesV x) (by first | exact hx | exact .tail _ hx | exact .tail _ (.tail _ hx) | exact .tail _ (.tail _ (.tail _ hx)) | exact .tail _ (.tail _ (.tail _ (.tail _ hx))) | exact .tail _ (.tail _ (.tail _ (.tail _ (.tail _ hx)))) | exact .tail _ (.tail _ (.tail _ (.tail _ (.tail _ (.tail _ hx)))))) (by rw [bytesV_length, Nat.mul_one]) (bytesV_one _)) (by omega) (by omega)) (fun z => ?_)
        refine RL.open1 (fun w hw => ⟨hw.ownLen.2, hw⟩) (fun hzc => ?_)
        refine RL.weak (fun w hw => hw.keepSl) ?_
        refine RL.fieldAddr rfl xb_tf69_0 rfl rfl ?_
        refine RL.store1 0 rfl xb_ts27 rfl rfl rfl rfl rfl ?_
        refine RL.weak (M' := Box b4 69 (flC (appF s n x ⟨z.1, z.2⟩)) :: Box b 66 (dkC s) :: MpB s.m (fsV s.fs) :: M) (F' := ArrF z.1 (bytesV (appF s n x ⟨z.1, z.2⟩).b) :: F) (fun w hw => ?_) ?_
        · show St w (Box _ _ [.slice z.1 ((fget s.fs n).b ++ x).length z.2, I (fget s.fs n).dur] :: _) (ArrF z.1 (bytesV ((fget s.fs n).b ++ x)) :: F)
          rw [List.length_append, bytesV_append]
          exact hw.facts (fun φ h => by rcases List.mem_cons.1 h with e1 | h; exact e1 ▸ .head _; exact .tail _ (.tail _ h))
        refine RL.nil ?_
        refine NX.seq ?_
        refine TR.seq ?_
        refine TR.region ?_
        refine RL.move rfl rfl rfl ?_
        refine RL.move rfl rfl rfl ?_
        refine RL.loadA 0 rfl rfl rfl xb_ta69 rfl ?_
        refine RL.call rfl rfl Try.call34 rfl (Ctr.frame (J := [Box b 66 (dkC s), MpB s.m (fsV s.fs)]) (J' := fun _ => [Box b 66 (dkC ({ s with fs := setF s.fs n (appF s n x ⟨z.1, z.2⟩) })), MpB s.m (fsV ({ s with fs := setF s.fs n (appF s n x ⟨z.1, z.2⟩) }).fs)]) [_] (set_spec (f := appF s n x ⟨z.1, z.2⟩) hn)) (fun _ => ?_)
        refine RL.nil ?_
        refine NX.seq ?_
        refine TR.seq ?_
        refine TR.seq ?_
        refine TR.region ?_
        refine RL.move rfl rfl rfl ?_
        refine RL.call rfl rfl Try.call35 rfl (Ctr.frame (J := [Box b 66 (dkC ({ s with fs := setF s.fs n (appF s n x ⟨z.1, z.2⟩) })), MpB s.m (fsV ({ s with fs := setF s.fs n (appF s n x ⟨z.1, z.2⟩) }).fs)]) (J' := fun _ => [Box b 66 (dkC (stepS { s with fs := setF s.fs n (appF s n x ⟨z.1, z.2⟩) })), MpB (stepS { s with fs := setF s.fs n (appF s n x ⟨z.1, z.2⟩) }).m (fsV (stepS { s with fs := setF s.fs n (appF s n x ⟨z.1, z.2⟩) }).fs)]) [_] (step_spec (s := { s with fs := setF s.fs n (appF s n x ⟨z.1, z.2⟩) }) h0)) (fun _ => ?_)
        refine RL.not rfl rfl rfl ?_
        refine RL.nil ?_
        refine NX.seq ?_
        refine TR.cond rfl (fun h6 => ?_) (fun h6 => ?_)
        · skip
          have hst : ¬ stepB s = true := by rw [← stepB_fs s (setF s.fs n (appF s n x ⟨z.1, z.2⟩))]; simpa using h6
          refine TR.seq ?_
          refine TR.region ?_
          refine RL.assign rfl rfl rfl ?_
          refine RL.nil ?_
          refine NX.seq ?_
          refine TR.ret ?_
          refine NX.retThen ?_
          refine NX.ret1 (⟨⟨z.1, z.2⟩, by rw [List.length_append]; exact hzc⟩ : {z : RdX // ((fget s.fs n).b ++ x).length ≤ z.c}) rfl rfl (by unfold appE; rw [if_neg (fun h => h hth), if_neg hoff, if_neg hfull, if_neg hst]) (fun w hw => ?_)
          rw [show appS s n x ⟨z.1, z.2⟩ = stepS { s with fs := setF s.fs n (appF s n x ⟨z.1, z.2⟩) } from by unfold appS; rw [if_neg (fun h => h hth), if_neg hoff, if_neg hfull]]
          have h8 := (hw.drop 0 rfl).allF_setF (k := n) (f := appF s n x ⟨z.1, z.2⟩) (by first | exact hA | exact .tail _ hA | exact .tail _ (.tail _ hA) | exact .tail _ (.tail _ (.tail _ hA)) | exact .tail _ (.tail _ (.tail _ (.tail _ hA))) | exact .tail _ (.tail _ (.tail _ (.tail _ (.tail _ hA)))) | exact .tail _ (.tail _ (.tail _ (.tail _ (.tail _ (.tail _ hA)))))) (.head _)
          have h7 := h8.derive (ψ := AllF (stepS { s with fs := setF s.fs n (appF s n x ⟨z.1, z.2⟩) }).fs) (fun K hf => by rw [stepS_fs]; exact hf _ (.head _))
          exact h7.facts (fun φ h => by rcases List.mem_cons.1 h with e1 | h; exact e1 ▸ .head _; exact .tail _ (.tail _ (.tail _ h)))
        · skip
          have hst : stepB s = true := by rw [← stepB_fs s (setF s.fs n (appF s n x ⟨z.1, z.2⟩))]; simpa using h6
          refine TR.skip ?_
          refine NX.seq ?_
          refine TR.seq ?_
          refine TR.region ?_
          refine RL.assign rfl rfl rfl ?_
          refine RL.nil ?_
          refine NX.seq ?_
          refine TR.ret ?_
          refine NX.ret1 (⟨⟨z.1, z.2⟩, by rw [List.length_append]; exact hzc⟩ : {z : RdX // ((fget s.fs n).b ++ x).length ≤ z.c}) rfl rfl (by unfold appE; rw [if_neg (fun h => h hth), if_neg hoff, if_neg hfull, if_pos hst]) (fun w hw => ?_)
          rw [show appS s n x ⟨z.1, z.2⟩ = stepS { s with fs := setF s.fs n (appF s n x ⟨z.1, z.2⟩) } from by unfold appS; rw [if_neg (fun h => h hth), if_neg hoff, if_neg hfull]]
          have h8 := (hw.drop 0 rfl).allF_setF (k := n) (f := appF s n x ⟨z.1, z.2⟩) (by first | exact hA | exact .tail _ hA | exact .tail _ (.tail _ hA) | exact .tail _ (.tail _ (.tail _ hA)) | exact .tail _ (.tail _ (.tail _ (.tail _ hA))) | exact .tail _ (.tail _ (.tail _ (.tail _ (.tail _ hA)))) | exact .tail _ (.tail _ (.tail _ (.tail _ (.tail _ (.tail _ hA)))))) (.head _)
          have h7 := h8.derive (ψ := AllF (stepS { s with fs := setF s.fs n (appF s n x ⟨z.1, z.2⟩) }).fs) (fun K hf => by rw [stepS_fs]; exact hf _ (.head _))
          exact h7.facts (fun φ h => by rcases List.mem_cons.1 h with e1 | h; exact e1 ▸ .head _; exact .tail _ (.tail _ (.tail _ h)))

theorem sync_spec {b : Nat} {s : Ds} {M : List HP} {F : List Fact} (hok : OkF s.fs) (h0 : -9223372036854775807 ≤ s.left ∧ s.left ≤ 9223372036854775807) : Ctr Try.prog 14 [.pointer (some ⟨b, 0, none⟩)] (Box b 66 (dkC s) :: MpB s.m (fsV s.fs) :: M) F Unit (fun _ => I (syncE s)) (fun _ => Box b 66 (dkC (syncS s)) :: MpB (syncS s).m (fsV (syncS s).fs) :: M) (fun _ => F) := by
  refine Ctr.body Try.func14 rfl rfl ?_
  refine TR.seq ?_
  refine TR.region ?_
  refine RL.assign rfl rfl rfl ?_
  refine RL.nil ?_
  refine NX.seq ?_
  refine TR.seq ?_
  refine TR.seq ?_
  refine TR.region ?_
  refine RL.move rfl rfl rfl ?_
  refine RL.nilCheck rfl rfl rfl ?_
  refine RL.fieldAddr rfl xb_tf66_2 rfl rfl ?_
  refine RL.load1 0 rfl xb_ts4 rfl rfl rfl rfl ?_
  refine RL.move rfl rfl rfl ?_
  refine RL.part (fun h1 => ?_) (fun h1 => ?_)
  · skip
    have hoff : s.off = true := h1
    refine RL.skip rfl rfl rfl ?_
    refine RL.skip rfl rfl rfl ?_
    refine RL.skip rfl rfl rfl ?_
    refine RL.pickT rfl rfl rfl rfl ?_
    refine RL.nil ?_
    refine NX.seq ?_
    refine TR.condT rfl ?_
    refine TR.seq ?_
    refine TR.region ?_
    refine RL.assign rfl rfl rfl ?_
    refine RL.nil ?_
    refine NX.seq ?_
    refine TR.ret ?_
    refine NX.retThen ?_
    refine NX.ret1 () rfl rfl (by unfold syncE; rw [if_pos (Or.inl hoff)]) (fun w hw => ?_)
    rw [show syncS s = s from by unfold syncS; rw [if_pos hoff]]
    exact hw
  · skip
    have hoff : ¬ s.off = true := by have h9 : s.off = false := h1; rw [h9]; simp
    refine RL.move rfl rfl rfl ?_
    refine RL.call rfl rfl Try.call35 rfl (step_spec (s := s) h0) (fun _ => ?_)
    refine RL.not rfl rfl rfl ?_
    refine RL.pickF rfl rfl rfl rfl ?_
    refine RL.nil ?_
    refine NX.seq ?_
    refine TR.cond rfl (fun h2 => ?_) (fun h2 => ?_)
    · skip
      have hst : stepB s = false := by simpa using h2
      refine TR.seq ?_
      refine TR.region ?_
      refine RL.assign rfl rfl rfl ?_
      refine RL.nil ?_
      refine NX.seq ?_
      refine TR.ret ?_
      refine NX.retThen ?_
      refine NX.ret1 () rfl rfl (by unfold syncE; rw [if_pos (Or.inr hst)]) (fun w hw => ?_)
      rw [show syncS s = stepS s from by unfold syncS; rw [if_neg hoff, if_pos hst]]
      exact hw
    · skip
      have hst : ¬ stepB s = false := by have h9 := h2; simp at h9; rw [h9]; simp
      refine TR.skip ?_
      refine NX.seq ?_
      refine TR.seq ?_
      refine TR.region ?_
      refine RL.move rfl rfl rfl ?_
      refine RL.call rfl rfl Try.call36 rfl (harden_spec (s := stepS s) (by rw [stepS_fs]; exact hok)) (fun _ => ?_)
      refine RL.nil ?_
      refine NX.seq ?_
      refine TR.seq ?_
      refine TR.region ?_
      refine RL.assign rfl rfl rfl ?_
      refine RL.nil ?_
      refine NX.seq ?_
      refine TR.ret ?_
      refine NX.ret1 () rfl rfl (by unfold syncE; rw [if_neg (fun h => h.elim hoff hst)]) (fun w hw => ?_)
      rw [show syncS s = { stepS s with fs := hard (stepS s).fs } from by unfold syncS; rw [if_neg hoff, if_neg hst]]
      exact hw

theorem field0_69 (a : Option Addr) (n c : Nat) (d : Int) : ∀ w, (Instr.field 69 (.agg #[.slice a n c, I d]) 0).run Try.prog w = .ok (.slice a n c) w := fun w => by kernel_rfl

theorem read_dspec {n : Int} {b : Nat} {s : Ds} {M : List HP} {F : List Fact} (hok : OkF s.fs) (hA : AllF s.fs ∈ F) (hu : used s.fs ≤ 70368744177664) (hn0 : I64 n) : Ctr Try.prog 16 [.pointer (some ⟨b, 0, none⟩), I n] (Box b 66 (dkC s) :: MpB s.m (fsV s.fs) :: M) F (Option Addr × Nat) (fun z => .tuple #[.slice z.1 (readB s n).length z.2, I (readE s n)]) (fun z => OwnSl 5 1 z.1 (readB s n).length z.2 (bytesV (readB s n)) :: Box b 66 (dkC (s)) :: MpB (s).m (fsV (s).fs) :: M) (fun _ => F) := by
  refine Ctr.body Try.func16 rfl rfl ?_
  refine TR.seq ?_
  refine TR.region ?_
  refine RL.assign rfl rfl rfl ?_
  refine RL.assign rfl rfl rfl ?_
  refine RL.nil ?_
  refine NX.seq ?_
  refine TR.seq ?_
  refine TR.block ?_
  refine TR.seq ?_
  refine TR.region ?_
  refine RL.move rfl rfl rfl ?_
  refine RL.call rfl rfl Try.call32 rfl (exists_spec) (fun _ => ?_)
  refine RL.not rfl rfl rfl ?_
  refine RL.assign rfl rfl rfl ?_
  refine RL.nil ?_
  refine NX.seq ?_
  refine TR.cond rfl (fun h1 => ?_) (fun h1 => ?_)
  · skip
    have hth : ¬ there n := by have h9 := h1; simp at h9; unfold there; omega
    refine TR.seq ?_
    refine TR.region ?_
    refine RL.assign rfl rfl rfl ?_
    refine RL.assign rfl rfl rfl ?_
    refine RL.nil ?_
    refine NX.seq ?_
    refine TR.ret ?_
    refine NX.retBlock ?_
    refine NX.retThen ?_
    refine NX.ret2x rfl rfl rfl (fun w hw => ⟨(none, 0), ?_, ?_⟩)
    · unfold readE readB; rw [if_pos hth, if_pos hth]; rfl
    · rw [show readB s n = [] from by unfold readB; rw [if_pos hth]]; exact OwnSl.nil_new 5 1 hw
  · skip
    have hth : there n := by have h9 := h1; simp at h9; exact h9
    have hn : I64 n := ⟨by have := hth.1; omega, by have := hth.2; omega⟩
    refine TR.seq ?_
    refine TR.region ?_
    refine RL.move rfl rfl rfl ?_
    refine RL.nilCheck rfl rfl rfl ?_
    refine RL.fieldAddr rfl xb_tf66_2 rfl rfl ?_
    refine RL.load1 0 rfl xb_ts4 rfl rfl rfl rfl ?_
    refine RL.assign rfl rfl rfl ?_
    refine RL.nil ?_
    refine NX.seq ?_
    refine TR.cond rfl (fun h2 => ?_) (fun h2 => ?_)
    · skip
      have hoff : s.off = true := h2
      refine TR.seq ?_
      refine TR.region ?_
      refine RL.assign rfl rfl rfl ?_
      refine RL.assign rfl rfl rfl ?_
      refine RL.nil ?_
      refine NX.seq ?_
      refine TR.ret ?_
      refine NX.retBlock ?_
      refine NX.retThen ?_
      refine NX.ret2x rfl rfl rfl (fun w hw => ⟨(none, 0), ?_, ?_⟩)
      · unfold readE readB; rw [if_neg (show ¬ ¬ there n from fun h => h hth), if_neg (show ¬ ¬ there n from fun h => h hth), if_pos hoff, if_pos hoff]; rfl
      · rw [show readB s n = [] from by unfold readB; rw [if_neg (show ¬ ¬ there n from fun h => h hth), if_pos hoff]]; exact OwnSl.nil_new 5 1 hw
    · skip
      have hoff : ¬ s.off = true := by have h9 : s.off = false := h2; rw [h9]; simp
      refine TR.skip ?_
      refine NX.off ?_
      refine NX.seq ?_
      refine TR.seq ?_
      have hfu := fget_used s.fs n
      refine TR.weak (fun w hw => hw.allF_get (k := n) hA) ?_
      refine TR.region ?_
      refine RL.move rfl rfl rfl ?_
      refine RL.nilCheck rfl rfl rfl ?_
      refine RL.fieldAddr rfl xb_tf66_0 rfl rfl ?_
      refine RL.load1 0 rfl xb_ts64 rfl rfl rfl rfl ?_
      refine RL.move rfl rfl rfl ?_
      refine RL.lookupF 1 rfl xb_tm64 rfl rfl hn rfl Try.zeroValue69 rfl ?_
      refine RL.fieldV rfl rfl (field0_69 _ _ _ _) rfl ?_
      refine RL.call rfl rfl Try.call33 rfl (cloneB_spec (l := (fget s.fs n).b) (rd_fact (.head _)) (by omega)) (fun y => ?_)
      refine RL.assign rfl rfl rfl ?_
      refine RL.assign rfl rfl rfl ?_
      refine RL.nil ?_
      refine NX.seq ?_
      refine TR.ret ?_
      refine NX.ret2x rfl rfl rfl (fun w hw => ⟨y, ?_, ?_⟩)
      · unfold readE readB; rw [if_neg (show ¬ ¬ there n from fun h => h hth), if_neg (show ¬ ¬ there n from fun h => h hth), if_neg hoff, if_neg hoff]
      · rw [show readB s n = (fget s.fs n).b from by unfold readB; rw [if_neg (show ¬ ¬ there n from fun h => h hth), if_neg hoff]]; exact hw.facts (fun φ h => .tail _ h)

theorem new_ok {k : Nat} {M : List HP} {F : List Fact} (hk : k ≤ 16777216) : Ctr Try.prog 10 [I k] M F (Nat × Nat) (fun z => .tuple #[.pointer (some ⟨z.1, 0, none⟩), I 0]) (fun z => Box z.1 66 (dkC ⟨z.2, [], k, false, false, 0⟩) :: MpB z.2 (fsV []) :: M) (fun _ => F) := by
  refine Ctr.body Try.func10 rfl rfl ?_
  refine TR.seq ?_
  refine TR.region ?_
  refine RL.assign rfl rfl rfl ?_
  refine RL.assign rfl rfl rfl ?_
  refine RL.nil ?_
  refine NX.seq ?_
  refine TR.seq ?_
  refine TR.seq ?_
  refine TR.region ?_
  refine RL.move rfl rfl rfl ?_
  refine RL.bin rfl rfl rfl (BinV.to (d := false) BinV.lss (decide_eq_false (by omega))) rfl ?_
  refine RL.move rfl rfl rfl ?_
  refine RL.move rfl rfl rfl ?_
  refine RL.bin rfl rfl rfl (BinV.to (d := false) BinV.gtr (decide_eq_false (by omega))) rfl ?_
  refine RL.pickF rfl rfl rfl rfl ?_
  refine RL.nil ?_
  refine NX.seq ?_
  refine TR.condF rfl ?_
  refine TR.skip ?_
  refine NX.seq ?_
  refine TR.seq ?_
  refine TR.region ?_
  refine RL.ofGV rfl rfl GV.makeMap (fun m => ?_)
  refine RL.move rfl rfl rfl ?_
  refine RL.build rfl rfl (xb_bv66_0_1 _ _) rfl ?_
  refine RL.boxA rfl rfl rfl (fun b1 => ?_)
  refine RL.assign rfl rfl rfl ?_
  refine RL.assign rfl rfl rfl ?_
  refine RL.nil ?_
  refine NX.seq ?_
  refine TR.ret ?_
  exact NX.ret2 (⟨b1, m⟩ : Nat × Nat) rfl rfl rfl rfl (fun w hw => hw)

end Go.Proofs.Ytdnjoffkanjjhaa

namespace Go.Proofs.Ytdnjoffkanjjhaa
open Go.GL
set_option linter.unusedVariables false
theorem xc_bv69_0_1 (x0 : Option Addr) (x0n x0c : Nat) (x1 : Int) : BuildV Try.prog 69 [(0, .slice x0 x0n x0c), (1, .int .i64 x1)] (.agg #[.slice x0 x0n x0c, .int .i64 x1]) := fun w => by kernel_rfl
theorem xc_tf66_0 : fieldOff Try.prog 66 0 0 = true := by kernel_rfl
theorem xc_tf66_2 : fieldOff Try.prog 66 2 2 = true := by kernel_rfl
theorem xc_tf69_0 : fieldOff Try.prog 69 0 0 = true := by kernel_rfl
theorem xc_tf69_1 : fieldOff Try.prog 69 1 1 = true := by kernel_rfl
theorem xc_tl27 : tySlice Try.prog 27 5 = true := by kernel_rfl
theorem xc_tm64 : tyMap Try.prog 64 3 69 = true := by kernel_rfl
theorem xc_ts27 : tyScalar Try.prog 27 = true := by kernel_rfl
theorem xc_ts3 : tyScalar Try.prog 3 = true := by kernel_rfl
theorem xc_ts4 : tyScalar Try.prog 4 = true := by kernel_rfl
theorem xc_ts64 : tyScalar Try.prog 64 = true := by kernel_rfl
theorem xc_tz5 : tySize Try.prog 5 1 = true := by kernel_rfl
theorem xc_tz69 : tySize Try.prog 69 2 = true := by kernel_rfl
theorem trunc_spec {n k : Int} {b : Nat} {s : Ds} {M : List HP} {F : List Fact} (hok : OkF s.fs) (hA : AllF s.fs ∈ F) (hn : I64 n) (h0 : -9223372036854775807 ≤ s.left ∧ s.left ≤ 9223372036854775807) : Ctr Try.prog 19 [.pointer (some ⟨b, 0, none⟩), I n, I k] (Box b 66 (dkC s) :: MpB s.m (fsV s.fs) :: M) F Unit (fun _ => I (truncE s n k)) (fun _ => Box b 66 (dkC (truncS s n k)) :: MpB (truncS s n k).m (fsV (truncS s n k).fs) :: M) (fun _ => AllF (truncS s n k).fs :: F) := by
  refine Ctr.body Try.func19 rfl rfl ?_
  refine TR.seq ?_
  refine TR.region ?_
  refine RL.assign rfl rfl rfl ?_
  refine RL.nil ?_
  refine NX.seq ?_
  refine TR.seq ?_
  refine TR.region ?_
  have hfe := fget_each hok n
  refine RL.move rfl rfl rfl ?_
  refine RL.nilCheck rfl rfl rfl ?_
  refine RL.fieldAddr rfl xc_tf66_0 rfl rfl ?_
  refine RL.load1 0 rfl xc_ts64 rfl rfl rfl rfl ?_
  refine RL.move rfl rfl rfl ?_
  refine RL.lookupF 1 rfl xc_tm64 rfl rfl hn rfl Try.zeroValue69 rfl ?_
  refine RL.allocA rfl (Try.zeroValue69) rfl (fun b1 => ?_)
  refine RL.storeA 0 rfl rfl rfl rfl xc_tz69 rfl rfl ?_
  refine RL.nil ?_
  refine NX.seq ?_
  refine TR.seq ?_
  refine TR.seq ?_
  refine TR.region ?_
  refine RL.move rfl rfl rfl ?_
  refine RL.call rfl rfl Try.call32 rfl (exists_spec) (fun _ => ?_)
  refine RL.not rfl rfl rfl ?_
  refine RL.move rfl rfl rfl ?_
  refine RL.part (fun h2 => ?_) (fun h2 => ?_)
  · skip
    have hb : truncBad s n k := Or.inl (by have h9 := h2; simp at h9; unfold there; omega)
    refine RL.skip rfl rfl rfl ?_
    refine RL.skip rfl rfl rfl ?_
    refine RL.pickT rfl rfl rfl rfl ?_
    refine RL.move rfl rfl rfl ?_
    refine RL.skip rfl rfl rfl ?_
    refine RL.skip rfl rfl rfl ?_
    refine RL.skip rfl rfl rfl ?_
    refine RL.skip rfl rfl rfl ?_
    refine RL.skip rfl rfl rfl ?_
    refine RL.pickT rfl rfl rfl rfl ?_
    refine RL.nil ?_
    refine NX.seq ?_
    refine TR.condT rfl ?_
    refine TR.seq ?_
    refine TR.region ?_
    refine RL.assign rfl rfl rfl ?_
    refine RL.nil ?_
    refine NX.seq ?_
    refine TR.ret ?_
    refine NX.retThen ?_
    refine NX.ret1 () rfl rfl (by unfold truncE; rw [if_pos hb]) (fun w hw => ?_)
    rw [show truncS s n k = s from by unfold truncS; rw [if_pos hb]]
    exact (hw.drop 0 rfl).allF_keep hA
  · skip
    have hth : there n := by have h9 := h2; simp at h9; exact h9
    refine RL.move rfl rfl rfl ?_
    refine RL.bin rfl rfl rfl BinV.lss rfl ?_
    refine RL.pickF rfl rfl rfl rfl ?_
    refine RL.move rfl rfl rfl ?_
    refine RL.part (fun h3 => ?_) (fun h3 => ?_)
    · skip
      have hb : truncBad s n k := Or.inr (Or.inl (of_decide_eq_true h3))
      refine RL.skip rfl rfl rfl ?_
      refine RL.skip rfl rfl rfl ?_
      refine RL.skip rfl rfl rfl ?_
      refine RL.skip rfl rfl rfl ?_
      refine RL.skip rfl rfl rfl ?_
      refine RL.pickT rfl rfl rfl rfl ?_
      refine RL.nil ?_
      refine NX.seq ?_
      refine TR.condT rfl ?_
      refine TR.seq ?_
      refine TR.region ?_
      refine RL.assign rfl rfl rfl ?_
      refine RL.nil ?_
      refine NX.seq ?_
      refine TR.ret ?_
      refine NX.retThen ?_
      refine NX.ret1 () rfl rfl (by unfold truncE; rw [if_pos hb]) (fun w hw => ?_)
      rw [show truncS s n k = s from by unfold truncS; rw [if_pos hb]]
      exact (hw.drop 0 rfl).allF_keep hA
    · skip
      have hk0 : ¬ k < 0 := of_decide_eq_false h3
      refine RL.move rfl rfl rfl ?_
      refine RL.fieldAddr rfl xc_tf69_0 rfl rfl ?_
      refine RL.load1 0 rfl xc_ts27 rfl rfl rfl rfl ?_
      refine RL.lenSlice rfl xc_tl27 rfl rfl ?_
      refine RL.bin rfl rfl rfl BinV.gtr rfl ?_
      refine RL.pickF rfl rfl rfl rfl ?_
      refine RL.nil ?_
      refine NX.seq ?_
      refine TR.cond rfl (fun h4 => ?_) (fun h4 => ?_)
      · skip
        have hb : truncBad s n k := Or.inr (Or.inr (by have h9 := of_decide_eq_true h4; omega))
        refine TR.seq ?_
        refine TR.region ?_
        refine RL.assign rfl rfl rfl ?_
        refine RL.nil ?_
        refine NX.seq ?_
        refine TR.ret ?_
        refine NX.retThen ?_
        refine NX.ret1 () rfl rfl (by unfold truncE; rw [if_pos hb]) (fun w hw => ?_)
        rw [show truncS s n k = s from by unfold truncS; rw [if_pos hb]]
        exact (hw.drop 0 rfl).allF_keep hA
      · skip
        have hkl : ¬ ((fget s.fs n).b.length : Int) < k := by have h9 := of_decide_eq_false h4; omega
        have hb : ¬ truncBad s n k := fun h => h.elim (fun h => h hth) (fun h => h.elim hk0 hkl)
        obtain ⟨kk, hkk⟩ : ∃ kk : Nat, k = kk := ⟨k.toNat, by omega⟩
        subst hkk
        refine TR.skip ?_
        refine NX.seq ?_
        refine TR.seq ?_
        refine TR.seq ?_
        refine TR.region ?_
        refine RL.move rfl rfl rfl ?_
        refine RL.nilCheck rfl rfl rfl ?_
        refine RL.fieldAddr rfl xc_tf66_2 rfl rfl ?_
        refine RL.load1 1 rfl xc_ts4 rfl rfl rfl rfl ?_
        refine RL.move rfl rfl rfl ?_
        refine RL.part (fun h5 => ?_) (fun h5 => ?_)
        · skip
          have hoff : s.off = true := h5
          refine RL.skip rfl rfl rfl ?_
          refine RL.skip rfl rfl rfl ?_
          refine RL.skip rfl rfl rfl ?_
          refine RL.pickT rfl rfl rfl rfl ?_
          refine RL.nil ?_
          refine NX.seq ?_
          refine TR.condT rfl ?_
          refine TR.seq ?_
          refine TR.region ?_
          refine RL.assign rfl rfl rfl ?_
          refine RL.nil ?_
          refine NX.seq ?_
          refine TR.ret ?_
          refine NX.retThen ?_
          refine NX.ret1 () rfl rfl (by unfold truncE; rw [if_neg hb, if_pos (Or.inl hoff)]) (fun w hw => ?_)
          rw [show truncS s n kk = s from by unfold truncS; rw [if_neg hb, if_pos hoff]]
          exact (hw.drop 0 rfl).allF_keep hA
        · skip
          have hoff : ¬ s.off = true := by have h9 : s.off = false := h5; rw [h9]; simp
          refine RL.move rfl rfl rfl ?_
          refine RL.call rfl rfl Try.call35 rfl (Ctr.frame (J := [Box b 66 (dkC (s)), MpB (s).m (fsV (s).fs)]) (J' := fun _ => [Box b 66 (dkC (stepS s)), MpB (stepS s).m (fsV (stepS s).fs)]) [_] (step_spec (s := s) h0)) (fun _ => ?_)
          refine RL.not rfl rfl rfl ?_
          refine RL.pickF rfl rfl rfl rfl ?_
          refine RL.nil ?_
          refine NX.seq ?_
          refine TR.cond rfl (fun h6 => ?_) (fun h6 => ?_)
          · skip
            have hst : stepB s = false := by simpa using h6
            refine TR.seq ?_
            refine TR.region ?_
            refine RL.assign rfl rfl rfl ?_
            refine RL.nil ?_
            refine NX.seq ?_
            refine TR.ret ?_
            refine NX.retThen ?_
            refine NX.ret1 () rfl rfl (by unfold truncE; rw [if_neg hb, if_pos (Or.inr hst)]) (fun w hw => ?_)
            rw [show truncS s n kk = stepS s from by unfold truncS; rw [if_neg hb, if_neg hoff, if_pos hst]]
            have h8 := (hw.drop 0 rfl).derive (ψ := AllF (stepS s).fs) (fun K hf => by rw [stepS_fs]; exact hf _ hA)
            exact h8
          · skip
            have hst : ¬ stepB s = false := by have h9 := h6; simp at h9; rw [h9]; simp
            refine TR.skip ?_
            refine NX.seq ?_
            refine TR.seq ?_
            refine TR.weak (fun w hw => (hw.allF_get (k := n) hA).cutT kk hfe.1 (.head _)) ?_
            refine TR.sub (E' := [(0, _), (1, _), (2, _), (6, _), (7, _)]) ⟨rfl, rfl, rfl, rfl, rfl, trivial⟩ ?_
            refine TR.draw mixed ?_
            apply AR.more [(0, _), (1, _), (2, _), (3, _), (4, _), (5, _), (6, _), (7, _), (8, _), (9, _), (10, _)]
            refine AR.eff [0, 1, 2, 3, 4, 5, 6, 7, 8, 9, 10] 11 [0, 1, 2, 3, 4, 5, 6, 7, 8, 9, 10, 11] ⟨QOne.yes rfl rfl rfl (PV.move rfl), QOne.yes rfl rfl rfl (PV.move rfl), QOne.yes rfl rfl rfl (PV.fieldAddr xc_tf69_0 rfl), QOne.yes rfl rfl rfl (PV.load1 0 xc_ts27 rfl rfl rfl), QOne.yes rfl rfl rfl (PV.move rfl), QOne.yes rfl rfl rfl (PV.cast (v' := .slice (cutA (fget s.fs n).oa 0 (fget s.fs n).c 1) ((fget s.fs n).b.take kk).length (fget s.fs n).c) (by rw [List.length_take, Nat.min_eq_left (by omega)]; rfl) (PV.sliceLH (l := 0) (h := kk) xc_tl27 xc_tz5 rfl (.inl ⟨rfl, rfl⟩) (.inr ⟨_, rfl, rfl⟩) (Nat.zero_le _) (by omega))), QOne.yes rfl rfl rfl (PV.fieldAddr xc_tf69_1 rfl), QOne.yes rfl rfl rfl (PV.load1 0 xc_ts3 rfl rfl rfl), QOne.yes rfl rfl rfl (PV.move rfl), QOne.yes rfl rfl rfl (PV.cast (v' := I ((min (fget s.fs n).dur kk : Nat))) (congrArg (Value.int .i64) (by omega)) (PV.min rfl rfl)), QOne.yes rfl rfl rfl (PV.build rfl (xc_bv69_0_1 _ _ _ _)), trivial⟩ rfl rfl rfl rfl rfl rfl rfl (EV.call rfl Try.call34 (Ctr.frame (J := [Box b 66 (dkC (stepS s)), MpB (stepS s).m (fsV (stepS s).fs)]) (J' := fun _ => [Box b 66 (dkC ({ stepS s with fs := setF (stepS s).fs n (truncF s n kk) })), MpB ({ stepS s with fs := setF (stepS s).fs n (truncF s n kk) }).m (fsV ({ stepS s with fs := setF (stepS s).fs n (truncF s n kk) }).fs)]) [_] (set_spec (s := stepS s) (f := truncF s n kk) hn))) (fun _ => ?_)
            refine AR.done [0, 1, 10, 5, 9, 7, 8, 3, 4, 2, 6] rfl ?_
            refine AR.last [] [0, 1, 2, 3, 4, 5, 6, 7, 8, 9, 10, 11] trivial rfl rfl rfl ?_
            refine NX.sub (E' := [(6, _)]) ⟨rfl, trivial⟩ ?_
            refine NX.seq ?_
            refine TR.seq ?_
            refine TR.region ?_
            refine RL.assign rfl rfl rfl ?_
            refine RL.nil ?_
            refine NX.seq ?_
            refine TR.ret ?_
            refine NX.ret1 () rfl rfl (by unfold truncE; rw [if_neg hb, if_neg (fun h => h.elim hoff hst)]) (fun w hw => ?_)
            rw [show truncS s n kk = { stepS s with fs := setF (stepS s).fs n (truncF s n kk) } from by unfold truncS; rw [if_neg hb, if_neg hoff, if_neg hst]; rfl]
            have hA2 : AllF (stepS s).fs ∈ F := by rw [stepS_fs]; exact hA
            have h8 := (hw.drop 0 rfl).allF_setF (fs := (stepS s).fs) (k := n) (f := truncF s n kk) (.tail _ (.tail _ hA2)) (.head _)
            exact h8.facts (fun φ h => by rcases List.mem_cons.1 h with e1 | h; exact e1 ▸ .head _; exact .tail _ (.tail _ (.tail _ h)))

end Go.Proofs.Ytdnjoffkanjjhaa

namespace Go.GL
set_option linter.unusedVariables false
theorem CalmD.full {s : Ds} {g : Lg} {x : List UInt8} {z : RdX} (h : CalmD s) (hf : there g.f) (hd : g.dn = false) (hx : ¬ (65536 : Int) < x.length) (hr : (s.room : Int) - used s.fs < (lgFr g x).length) : lgE s g x z = 21 ∧ lgS s g x z = s ∧ lgG s g x z = g := by
  have h1 : ¬ s.off = true := by rw [h.off]; simp
  have h2 : ¬ g.dn = true := by rw [hd]; simp
  have ha : appE s g.f (lgFr g x) = 21 := by unfold appE; rw [if_neg (show ¬ ¬ there g.f from fun e => e hf), if_neg h1, if_pos hr]
  obtain ⟨e1, e2, e3⟩ := lgE_app (z := z) hx h2 (show appE s g.f (lgFr g x) ≠ 0 by rw [ha]; decide)
  refine ⟨by rw [e1, ha], ?_, ?_⟩
  · rw [e2]; unfold appS; rw [if_neg (show ¬ ¬ there g.f from fun e => e hf), if_neg h1, if_pos hr]
  · rw [e3, ha]
    obtain ⟨f, n, dn⟩ := g
    simp only at hd
    subst hd
    rfl
theorem CalmD.fits {s : Ds} {g : Lg} {x : List UInt8} {z : RdX} (h : CalmD s) (hf : there g.f) (hd : g.dn = false) (hx : ¬ (65536 : Int) < x.length) (hr : ¬ (s.room : Int) - used s.fs < (lgFr g x).length) : lgE s g x z = 0 ∧ lgS s g x z = { s with fs := hard (setF s.fs g.f (appF s g.f (lgFr g x) z)) } ∧ lgG s g x z = { g with n := g.n + 1 } := by
  have h1 : ¬ s.off = true := by rw [h.off]; simp
  have h2 : ¬ g.dn = true := by rw [hd]; simp
  have ha : appE s g.f (lgFr g x) = 0 := by unfold appE; rw [if_neg (show ¬ ¬ there g.f from fun e => e hf), if_neg h1, if_neg hr, if_pos h.step.2]
  have hs : appS s g.f (lgFr g x) z = { s with fs := setF s.fs g.f (appF s g.f (lgFr g x) z) } := by
    unfold appS
    rw [if_neg (show ¬ ¬ there g.f from fun e => e hf), if_neg h1, if_neg hr]
    exact (CalmD.step (s := { s with fs := setF s.fs g.f (appF s g.f (lgFr g x) z) }) ⟨h.off, h.armed⟩).1
  have hc : CalmD (appS s g.f (lgFr g x) z) := by rw [hs]; exact ⟨h.off, h.armed⟩
  obtain ⟨e1, e2, e3⟩ := lgE_sync (z := z) hx h2 (show ¬ appE s g.f (lgFr g x) ≠ 0 by rw [ha]; simp)
  refine ⟨by rw [e1, hc.sync.1], by rw [e2, hc.sync.2, hs], ?_⟩
  rw [e3, hc.sync.1]
  obtain ⟨f, n, dn⟩ := g
  simp only at hd
  subst hd
  rfl
theorem lgFr_pos (g : Lg) (x : List UInt8) : 0 < (lgFr g x).length := frameJ_pos _ _
/-- the files behind an Append that fits -/
theorem files_app {s : Ds} {n : Int} {fr : List UInt8} {z : RdX} (hok : OkF s.fs) (hn : there n) (hz : ((fget s.fs n).b ++ fr).length ≤ z.c) (hp : 0 < fr.length) :
    OkF (hard (setF s.fs n (appF s n fr z))) ∧ (fget (hard (setF s.fs n (appF s n fr z))) n).b = (fget s.fs n).b ++ fr ∧ used (hard (setF s.fs n (appF s n fr z))) = used s.fs + fr.length := by
  have hlen : (appF s n fr z).b.length = (fget s.fs n).b.length + fr.length := by show ((fget s.fs n).b ++ fr).length = _; rw [List.length_append]
  have e : setF s.fs n (appF s n fr z) = fset s.fs n (appF s n fr z) := by unfold setF; rw [if_neg (by omega)]
  refine ⟨OkF.hard (OkF.setF hok hn ⟨hz, ?_⟩), ?_, ?_⟩
  · have := (fget_each hok n).2
    show (fget s.fs n).dur ≤ (appF s n fr z).b.length
    omega
  · rw [fget_hard, e, fget_set]; rfl
  · rw [used_hard, e]
    have := used_set s.fs n (appF s n fr z)
    omega
theorem open_whole {s : Ds} {n : Int} {L : List (List UInt8)} (hb : (fget s.fs n).b = framesJ 0 L) (hL : FitJ 0 L) : scanJ 0 (fget s.fs n).b = L ∧ openFs s n = hard s.fs := by
  have h1 : scanJ 0 (fget s.fs n).b = L := by
    have h := scanJ_frames L 0 [] hL
    rw [List.append_nil, scanJ_nil, List.append_nil] at h
    rw [hb, h]
  refine ⟨h1, ?_⟩
  unfold openFs
  rw [h1, hb, if_neg (Nat.lt_irrefl _)]
end Go.GL

namespace Go.GL
set_option linter.unusedVariables false
def tyMk (P : Program) (t e : TypeId) : Bool := match P.underlying t, P.info? e with
  | some (.slice e'), some i => decide (e' = e) && Nat.beq i.size 1 && Nat.beq i.bytes 1 && (match i.zero with | some (.int .u8 k) => decide (k = 0) | _ => false)
  | _, _ => false
theorem made_bytes (n : Nat) : (madeCells #[Value.int .u8 0] (n * 1)).toList = bytesV (List.replicate n 0) := by
  refine List.ext_getElem (by simp [madeCells, bytesV]) fun i h1 h2 => ?_
  simp [madeCells, bytesV]
  rw [Nat.mod_one]; rfl
section
variable {P : Program} {r : Option Nat} {N : Nat} {ops : Array Oper} {rest : List Oper} {Q : Exit → Act → World → Prop} {E : Env} {ds : List Deferred} {M : List HP} {F : List Fact}
variable {d : Nat} {ty : TypeId} {pos : String} {aft : Array Edge} {gd : Option (Nat × Bool)}
theorem GV.makeBytes {t e n : Nat} {x y : Operand} (ht : tyMk P t e = true) (hx : evalO E x = some (I (n : Int))) (hy : evalO E y = some (I (n : Int))) (hn : n ≤ 16777216) : GV P E M F ⟨some d, .makeSlice t x y, ty, pos, aft, gd⟩ Nat (fun b => .slice (some ⟨b, 0, none⟩) n n) (fun b => OwnSl e 1 (some ⟨b, 0, none⟩) n n (bytesV (List.replicate n 0)) :: M) (fun _ => F) := ⟨rfl, fun ρ hρ w hw => by
  unfold tyMk at ht
  split at ht
  · rename_i e' i h1 h2
    simp only [Bool.and_eq_true, decide_eq_true_eq] at ht
    obtain ⟨⟨⟨rfl, h3⟩, h4⟩, h5⟩ := ht
    split at h5
    · rename_i k h6
      have hk := of_decide_eq_true h5
      subst hk
      have hs := Nat.eq_of_beq_eq_true h3
      have hb := Nat.eq_of_beq_eq_true h4
      obtain ⟨w', hrun, hown, hgr⟩ := run_makeSlice_full (P := P) (w := w) 0 t e' i (.int .u8 0) 1 h1 h2 h6 hs .i64 .i64 n (by omega) (by rw [hb]; omega) (by simp [maxLen]; omega) (Nat.zero_le _)
      refine ⟨w.heap.size, w', by simp [execOp, hρ _ _ hx, hρ _ _ hy, hrun], ?_⟩
      have e1 : (madeCells (Value.int .u8 0).cells (n * 1)).toList = bytesV (List.replicate n 0) := made_bytes n
      rw [e1] at hown
      exact hw.new hgr.os hgr.tape hgr.output hgr.size (fun b hb => hgr.block b hb (by simp)) (K' := [w.heap.size]) ⟨hown, rfl⟩ (by simp) (by simp)
    · cases h5
  · cases ht⟩
end
end Go.GL

namespace Go.GL
set_option linter.unusedVariables false
def iAt (l : List Int) (p : Nat) : Int := l.getD p 0
def swp (l : List Int) (j : Nat) : List Int := (l.set j (iAt l (j - 1))).set (j - 1) (iAt l j)
theorem iAt_get {l : List Int} {p : Nat} (h : p < l.length) : iAt l p = l[p] := by unfold iAt; rw [List.getD_eq_getElem?_getD, List.getElem?_eq_getElem h]; rfl
theorem swp_len (l : List Int) (j : Nat) : (swp l j).length = l.length := by unfold swp; rw [List.length_set, List.length_set]
theorem swp_at {l : List Int} {j p : Nat} (hj : j < l.length) (h0 : 0 < j) : iAt (swp l j) p = if p = j then iAt l (j - 1) else if p = j - 1 then iAt l j else iAt l p := by
  unfold swp
  show ((l.set j (iAt l (j - 1))).set (j - 1) (iAt l j)).getD p 0 = _
  rw [List.getD_eq_getElem?_getD, List.getElem?_set, List.getElem?_set, List.length_set]
  by_cases e : p = j
  · subst e
    rw [if_neg (by omega), if_pos rfl, if_pos hj, if_pos rfl]; rfl
  · by_cases e2 : p = j - 1
    · subst e2
      rw [if_pos rfl, if_pos (by omega), if_neg e, if_pos rfl]; rfl
    · rw [if_neg (fun e3 => e2 e3.symm), if_neg (fun e3 => e e3.symm), if_neg e, if_neg e2]
      unfold iAt; rw [List.getD_eq_getElem?_getD]
/-- the first i stand in order -/
def Ord (l : List Int) (i : Nat) : Prop := ∀ p q, p < q → q < i → iAt l p ≤ iAt l q
/-- the same but for the one at j, which is on its way down -/
def OrdBut (l : List Int) (i j : Nat) : Prop := (∀ p q, p < q → q ≤ i → p ≠ j → q ≠ j → iAt l p ≤ iAt l q) ∧ ∀ q, j < q → q ≤ i → iAt l j ≤ iAt l q
theorem OrdBut.start {l : List Int} {i : Nat} (h : Ord l i) : OrdBut l i i := ⟨fun p q h1 h2 _ h4 => h p q h1 (by omega), fun q h1 h2 => by omega⟩
theorem OrdBut.step {l : List Int} {i j : Nat} (h : OrdBut l i j) (hi : i < l.length) (hj : j ≤ i) (h0 : 0 < j) (hlt : iAt l j < iAt l (j - 1)) : OrdBut (swp l j) i (j - 1) := by
  have at_ := fun p => swp_at (l := l) (j := j) (p := p) (by omega) h0
  refine ⟨fun p q h1 h2 h3 h4 => ?_, fun q h1 h2 => ?_⟩
  · rw [at_ p, at_ q, if_neg h3, if_neg h4]
    by_cases e1 : p = j
    · rw [if_pos e1, if_neg (by omega)]
      exact h.1 (j - 1) q (by omega) h2 (by omega) (by omega)
    · rw [if_neg e1]
      by_cases e2 : q = j
      · rw [if_pos e2]; exact h.1 p (j - 1) (by omega) (by omega) e1 (by omega)
      · rw [if_neg e2]; exact h.1 p q h1 h2 e1 e2
  · rw [at_ (j - 1), at_ q, if_neg (by omega), if_pos rfl]
    by_cases e2 : q = j
    · rw [if_pos e2]; omega
    · rw [if_neg e2, if_neg (by omega)]; exact h.2 q (by omega) h2
theorem OrdBut.stop {l : List Int} {i j : Nat} (h : OrdBut l i j) (hj : j ≤ i) (hs : j = 0 ∨ ¬ iAt l j < iAt l (j - 1)) : Ord l (i + 1) := by
  intro p q h1 h2
  by_cases e1 : p = j
  · subst e1; exact h.2 q h1 (by omega)
  · by_cases e2 : q = j
    · subst e2
      have h3 : ¬ iAt l q < iAt l (q - 1) := hs.resolve_left (by omega)
      by_cases e3 : p = q - 1
      · subst e3; omega
      · have := h.1 p (q - 1) (by omega) (by omega) e1 (by omega); omega
    · exact h.1 p q h1 (by omega) e1 e2
theorem swp_perm {l : List Int} {j : Nat} (hj : j < l.length) (h0 : 0 < j) : (swp l j).Perm l := by
  unfold swp
  rw [iAt_get hj, iAt_get (show j - 1 < l.length by omega)]
  exact List.set_set_perm (by omega) (by omega) |>.trans (List.Perm.refl _)
theorem Ord.sorted {l : List Int} (h : Ord l l.length) : l.Pairwise (· ≤ ·) := by
  rw [List.pairwise_iff_getElem]
  intro p q hp hq hpq
  have := h p q hpq hq
  rwa [iAt_get hp, iAt_get hq] at this
theorem ints_iAt {l : List Int} {v : Int} (p : Nat) (hv : v.toNat = p) (h : p < l.length) : (ints l)[0 + v.toNat * 1]? = some (I (iAt l p)) := by
  rw [hv, Nat.zero_add, Nat.mul_one, iAt_get h, List.getElem?_map, List.getElem?_eq_getElem h]; rfl
theorem ints_set {l : List Int} {v x : Int} (p : Nat) (hv : v.toNat = p) (h : p < l.length) : (ints l).take (0 + v.toNat * 1) ++ [I x] ++ (ints l).drop (0 + v.toNat * 1 + 1) = ints (l.set p x) := by
  rw [hv, Nat.zero_add, Nat.mul_one, List.set_eq_take_append_cons_drop, if_pos h]
  simp
section
variable {P : Program} {r : Option Nat} {N : Nat} {ops : Array Oper} {rest : List Oper} {Q : Exit → Act → World → Prop} {E : Env} {ds : List Deferred} {M : List HP} {F : List Fact}
variable {d : Nat} {ty : TypeId} {pos : String} {aft : Array Edge} {gd : Option (Nat × Bool)}
theorem RL.indexSU {T : TypeId} {x y : Operand} {l : List UInt8} {n : Nat} {ik : IntKind} {u : UInt8} (hg : wantedG ops E gd = some true) (ht : tyStr P T = true) (hx : evalO E x = some (S l)) (hy : evalO E y = some (.int ik (n : Int))) (hu : l[n]? = some u) (hN : Nat.ble (d + 1) N = true) (k : RL P r N ops rest Q ((d, .int .u8 u.toNat) :: E) ds M F) : RL P r N ops (⟨some d, .index T x y, ty, pos, aft, gd⟩ :: rest) Q E ds M F :=
  RL.val rfl hg hN (fun ρ hρ w _ => by
    have hlt := (List.getElem?_eq_some_iff.1 hu).1
    have hb : (⟨l.toArray⟩ : ByteArray)[n]? = some u := by
      rw [getElem?_pos (⟨l.toArray⟩ : ByteArray) n (by rw [S_size]; exact hlt)]
      rw [List.getElem?_eq_getElem hlt] at hu
      exact hu
    simp [execOp, hρ _ _ hx, hρ _ _ hy, Instr.index, asIntOf, run_underlying (tyStr_underlying ht), hb]) k
end
end Go.GL

namespace Go.Proofs.Ytdnjoffkanjjhaa
open Go.GL
set_option linter.unusedVariables false
theorem ya_tl33 : tySlice Try.prog 33 3 = true := by kernel_rfl
theorem ya_ts3 : tyScalar Try.prog 3 = true := by kernel_rfl
theorem ya_tz3 : tySize Try.prog 3 1 = true := by kernel_rfl
theorem isnan_spec {a : Int} {M : List HP} {F : List Fact} : Ctr Try.prog 80 [I a] M F Unit (fun _ => .bool false) (fun _ => M) (fun _ => F) := by
  refine Ctr.body Try.func80 rfl rfl ?_
  refine TR.seq ?_
  refine TR.region ?_
  refine RL.assign rfl rfl rfl ?_
  refine RL.nil ?_
  refine NX.seq ?_
  refine TR.seq ?_
  refine TR.region ?_
  refine RL.move rfl rfl rfl ?_
  refine RL.move rfl rfl rfl ?_
  refine RL.bin rfl rfl rfl BinV.neq rfl ?_
  refine RL.assign rfl rfl rfl ?_
  refine RL.nil ?_
  refine NX.seq ?_
  refine TR.ret ?_
  exact NX.ret1 () rfl rfl (congrArg Value.bool (decide_eq_false (by simp))) (fun w hw => hw)

theorem less_spec {a b : Int} {M : List HP} {F : List Fact} : Ctr Try.prog 70 [I a, I b] M F Unit (fun _ => .bool (decide (a < b))) (fun _ => M) (fun _ => F) := by
  refine Ctr.body Try.func70 rfl rfl ?_
  refine TR.seq ?_
  refine TR.region ?_
  refine RL.assign rfl rfl rfl ?_
  refine RL.nil ?_
  refine NX.seq ?_
  refine TR.seq ?_
  refine TR.region ?_
  refine RL.move rfl rfl rfl ?_
  refine RL.call rfl rfl Try.call80 rfl (isnan_spec) (fun _ => ?_)
  refine RL.move rfl rfl rfl ?_
  refine RL.skip rfl rfl rfl ?_
  refine RL.skip rfl rfl rfl ?_
  refine RL.skip rfl rfl rfl ?_
  refine RL.pickF rfl rfl rfl rfl ?_
  refine RL.move rfl rfl rfl ?_
  refine RL.move rfl rfl rfl ?_
  refine RL.move rfl rfl rfl ?_
  refine RL.bin rfl rfl rfl BinV.lss rfl ?_
  refine RL.pickF rfl rfl rfl rfl ?_
  refine RL.assign rfl rfl rfl ?_
  refine RL.nil ?_
  refine NX.seq ?_
  refine TR.ret ?_
  exact NX.ret1 () rfl rfl rfl (fun w hw => hw)

structure SoX where
  l : List Int
  j : Nat

theorem isort_spec {l0 : List Int} {oa : Option Addr} {c : Nat} {M : List HP} {F : List Fact} (hl : l0.length ≤ 4611686018427387904) : Ctr Try.prog 64 [.slice oa l0.length c, I 0, I (l0.length : Nat)] (OwnSl 3 1 oa l0.length c (ints l0) :: M) F {l : List Int // l.Perm l0 ∧ Ord l l0.length} (fun _ => .tuple #[]) (fun z => OwnSl 3 1 oa l0.length c (ints z.1) :: M) (fun _ => F) := by
  refine Ctr.body Try.func64 rfl rfl ?_
  refine TR.seq ?_
  refine TR.region ?_
  refine RL.move rfl rfl rfl ?_
  refine RL.bin rfl rfl rfl (BinV.add _ rfl (by omega) (by omega)) rfl ?_
  refine RL.assign rfl rfl rfl ?_
  refine RL.nil ?_
  refine NX.seq ?_
  refine TR.block ?_
  refine TR.loopP (ι := SoX) (fun x => x.l.length = l0.length ∧ x.l.Perm l0 ∧ 1 ≤ x.j ∧ Ord x.l x.j) (fun x => [(0, .slice oa l0.length c), (1, I 0), (2, I (l0.length : Nat)), (6, I x.j)]) (fun x => OwnSl 3 1 oa l0.length c (ints x.l) :: M) (fun _ => F) (fun x => l0.length + 1 - x.j) ⟨l0, 1⟩ ⟨rfl, List.Perm.refl _, Nat.le_refl _, fun p q h1 h2 => absurd (show q < 1 from h2) (by omega)⟩ ⟨rfl, rfl, rfl, rfl, trivial⟩ (fun w hw => hw) (fun x hx => ?_)
  refine TR.seq ?_
  refine TR.seq ?_
  refine TR.region ?_
  refine RL.move rfl rfl rfl ?_
  refine RL.move rfl rfl rfl ?_
  refine RL.bin rfl rfl rfl BinV.lss rfl ?_
  refine RL.nil ?_
  refine NX.seq ?_
  refine TR.cond rfl (fun h1 => ?_) (fun h1 => ?_)
  · skip
    have hi : x.j < l0.length := by have := of_decide_eq_true h1; omega
    refine TR.openP (fun w hw => own_at (i := 0) (M := _ :: M) rfl (ints_ne (by omega)) hw) (fun g hga => ?_)
    refine TR.skip ?_
    refine NX.seq ?_
    refine TR.seq ?_
    refine TR.block ?_
    refine TR.seq ?_
    refine TR.region ?_
    refine RL.move rfl rfl rfl ?_
    refine RL.assign rfl rfl rfl ?_
    refine RL.nil ?_
    refine NX.seq ?_
    refine TR.block ?_
    refine TR.loopP (ι := SoX) (fun y => y.l.length = l0.length ∧ y.l.Perm l0 ∧ y.j ≤ x.j ∧ OrdBut y.l x.j y.j) (fun y => [(0, .slice oa l0.length c), (1, I 0), (2, I (l0.length : Nat)), (6, I x.j), (7, I y.j)]) (fun y => OwnSl 3 1 oa l0.length c (ints y.l) :: M) (fun _ => F) (fun y => y.j) ⟨x.l, x.j⟩ ⟨hx.1, hx.2.1, Nat.le_refl _, OrdBut.start hx.2.2.2⟩ ⟨rfl, rfl, rfl, rfl, rfl, trivial⟩ (fun w hw => hw) (fun y hy => ?_)
    refine TR.seq ?_
    refine TR.seq ?_
    refine TR.sub (E' := [(0, _), (1, _), (2, _), (6, _), (7, _)]) ⟨rfl, rfl, rfl, rfl, rfl, trivial⟩ ?_
    refine TR.draw mixed ?_
    cases h2 : decide ((0 : Int) < (y.j : Int))
    · skip
      have hs : y.j = 0 ∨ ¬ iAt y.l y.j < iAt y.l (y.j - 1) := Or.inl (by have := of_decide_eq_false h2; omega)
      apply AR.more [(0, _), (1, _), (2, _), (3, .bool false), (4, undef), (5, undef), (6, undef), (7, undef), (8, undef), (9, undef), (10, undef), (11, undef), (12, undef), (13, undef), (14, .bool false)]
      refine AR.last [0, 1, 2, 3, 4, 5, 6, 7, 8, 9, 10, 11, 12, 13, 14] [0, 1, 2, 3, 4, 5, 6, 7, 8, 9, 10, 11, 12, 13, 14] ⟨QOne.yes rfl rfl rfl (PV.move rfl), QOne.yes rfl rfl rfl (PV.move rfl), QOne.yes rfl rfl rfl (PV.bin rfl rfl BinV.gtr), QOne.yes rfl rfl rfl (PV.cast (congrArg Value.bool h2) (PV.move rfl)), QOne.no rfl rfl rfl, QOne.no rfl rfl rfl, QOne.no rfl rfl rfl, QOne.no rfl rfl rfl, QOne.no rfl rfl rfl, QOne.no rfl rfl rfl, QOne.no rfl rfl rfl, QOne.no rfl rfl rfl, QOne.no rfl rfl rfl, QOne.no rfl rfl rfl, QOne.yes rfl rfl rfl (PV.pickF rfl rfl), trivial⟩ rfl rfl rfl ?_
      refine NX.sub (E' := [(0, _), (1, _), (2, _), (6, _), (7, _), (16, _), (17, _), (18, _), (19, _), (20, _), (21, _), (22, _), (23, _), (24, _), (25, _), (26, _), (27, _), (28, _), (29, _), (30, _)]) ⟨rfl, rfl, rfl, rfl, rfl, rfl, rfl, rfl, rfl, rfl, rfl, rfl, rfl, rfl, rfl, rfl, rfl, rfl, rfl, rfl, trivial⟩ ?_
      refine NX.seq ?_
      refine TR.condF rfl ?_
      refine TR.exit ?_
      refine NX.exitThen ?_
      refine NX.exitThen ?_
      refine NX.exitHere ?_
      refine NX.off ?_
      refine NX.seq ?_
      refine TR.region ?_
      refine RL.move rfl rfl rfl ?_
      refine RL.bin rfl rfl rfl (BinV.add _ rfl (by omega) (by omega)) rfl ?_
      refine RL.assign rfl rfl rfl ?_
      refine RL.nil ?_
      refine NX.roundP ⟨y.l, x.j + 1⟩ ⟨hy.1, hy.2.1, by show 1 ≤ x.j + 1; omega, hy.2.2.2.stop hy.2.2.1 hs⟩ (by show l0.length + 1 - (x.j + 1) < l0.length + 1 - x.j; omega) ⟨rfl, rfl, rfl, rfl, trivial⟩ (fun w hw => hw)
    · skip
      have hj0 : 0 < y.j := by have := of_decide_eq_true h2; omega
      apply AR.more [(0, _), (1, _), (2, _), (3, .bool true), (4, _), (5, _), (6, _), (7, _), (8, _), (9, _), (10, _), (11, _), (12, _)]
      refine AR.eff [0, 1, 2, 3, 4, 5, 6, 7, 8, 9, 10, 11, 12] 13 [0, 1, 2, 3, 4, 5, 6, 7, 8, 9, 10, 11, 12, 13, 14] ⟨QOne.yes rfl rfl rfl (PV.move rfl), QOne.yes rfl rfl rfl (PV.move rfl), QOne.yes rfl rfl rfl (PV.bin rfl rfl BinV.gtr), QOne.yes rfl rfl rfl (PV.cast (congrArg Value.bool h2) (PV.move rfl)), QOne.yes rfl rfl rfl (PV.move rfl), QOne.yes rfl rfl rfl (PV.move rfl), QOne.yes rfl rfl rfl (PV.indexAddr ya_tl33 ya_tz3 (congrArg (fun a => some (Value.slice a _ _)) hga) rfl (by omega) (by omega)), QOne.yes rfl rfl rfl (PV.loadS rfl (own_one (i := 0) rfl hga ya_ts3 (ints_iAt (y.j) (by omega) (by omega)))), QOne.yes rfl rfl rfl (PV.move rfl), QOne.yes rfl rfl rfl (PV.move rfl), QOne.yes rfl rfl rfl (PV.bin rfl rfl (BinV.sub _ rfl (by omega) (by omega))), QOne.yes rfl rfl rfl (PV.indexAddr ya_tl33 ya_tz3 (congrArg (fun a => some (Value.slice a _ _)) hga) rfl (by omega) (by omega)), QOne.yes rfl rfl rfl (PV.loadS rfl (own_one (i := 0) rfl hga ya_ts3 (ints_iAt (y.j - 1) (by omega) (by omega)))), trivial⟩ rfl rfl rfl rfl rfl rfl rfl (EV.call rfl Try.call70 (less_spec)) (fun _ => ?_)
      refine AR.done [7, 12, 3, 2, 11, 6, 4, 5, 8, 10, 0, 1, 9] rfl ?_
      apply AR.more [(14, _)]
      refine AR.last [14] [0, 1, 2, 3, 4, 5, 6, 7, 8, 9, 10, 11, 12, 13, 14] ⟨QOne.yes rfl rfl rfl (PV.pickT rfl rfl), trivial⟩ rfl rfl rfl ?_
      refine NX.sub (E' := [(0, _), (1, _), (2, _), (6, _), (7, _), (16, _), (17, _), (18, _), (19, _), (20, _), (21, _), (22, _), (23, _), (24, _), (25, _), (26, _), (27, _), (28, _), (29, _), (30, _)]) ⟨rfl, rfl, rfl, rfl, rfl, rfl, rfl, rfl, rfl, rfl, rfl, rfl, rfl, rfl, rfl, rfl, rfl, rfl, rfl, rfl, trivial⟩ ?_
      refine NX.seq ?_
      refine TR.cond rfl (fun h3 => ?_) (fun h3 => ?_)
      · skip
        have hlt : iAt y.l y.j < iAt y.l (y.j - 1) := of_decide_eq_true h3
        refine TR.skip ?_
        refine NX.seq ?_
        refine TR.seq ?_
        refine TR.block ?_
        refine TR.sub (E' := [(0, _), (1, _), (2, _), (6, _), (7, _), (16, _), (17, _), (18, _), (19, _), (20, _), (21, _), (22, _), (23, _), (24, _), (25, _), (26, _), (27, _), (28, _), (29, _), (30, _)]) ⟨rfl, rfl, rfl, rfl, rfl, rfl, rfl, rfl, rfl, rfl, rfl, rfl, rfl, rfl, rfl, rfl, rfl, rfl, rfl, rfl, trivial⟩ ?_
        refine TR.draw mixed ?_
        apply AR.more [(0, _), (1, _), (2, _), (3, _), (4, _), (5, _), (6, _), (7, _), (8, _), (9, _), (10, _), (11, _), (12, _), (13, _), (14, _)]
        refine AR.eff [0, 1, 2, 3, 4, 5, 6, 7, 8, 9, 10, 11, 12, 13, 14] 15 [0, 1, 2, 3, 4, 5, 6, 7, 8, 9, 10, 11, 12, 13, 14, 15, 16, 17] ⟨QOne.yes rfl rfl rfl (PV.move rfl), QOne.yes rfl rfl rfl (PV.move rfl), QOne.yes rfl rfl rfl (PV.move rfl), QOne.yes rfl rfl rfl (PV.move rfl), QOne.yes rfl rfl rfl (PV.bin rfl rfl (BinV.sub _ rfl (by omega) (by omega))), QOne.yes rfl rfl rfl (PV.move rfl), QOne.yes rfl rfl rfl (PV.move rfl), QOne.yes rfl rfl rfl (PV.bin rfl rfl (BinV.sub _ rfl (by omega) (by omega))), QOne.yes rfl rfl rfl (PV.indexAddr ya_tl33 ya_tz3 (congrArg (fun a => some (Value.slice a _ _)) hga) rfl (by omega) (by omega)), QOne.yes rfl rfl rfl (PV.loadS rfl (own_one (i := 0) rfl hga ya_ts3 (ints_iAt (y.j - 1) (by omega) (by omega)))), QOne.yes rfl rfl rfl (PV.move rfl), QOne.yes rfl rfl rfl (PV.move rfl), QOne.yes rfl rfl rfl (PV.indexAddr ya_tl33 ya_tz3 (congrArg (fun a => some (Value.slice a _ _)) hga) rfl (by omega) (by omega)), QOne.yes rfl rfl rfl (PV.loadS rfl (own_one (i := 0) rfl hga ya_ts3 (ints_iAt (y.j) (by omega) (by omega)))), QOne.yes rfl rfl rfl (PV.indexAddr ya_tl33 ya_tz3 (congrArg (fun a => some (Value.slice a _ _)) hga) rfl (by omega) (by omega)), trivial⟩ rfl rfl rfl rfl rfl rfl rfl (EV.storeO (vs := [I (iAt y.l (y.j - 1))]) 0 rfl rfl rfl hga ya_tz3 rfl (by simp; omega) rfl) (fun _ => ?_)
        refine AR.done [14, 9, 0, 1, 5, 6, 7, 8, 13, 12, 10, 11] rfl ?_
        apply AR.more [(16, _)]
        refine AR.eff [2, 3, 4, 16] 17 [0, 1, 2, 3, 4, 5, 6, 7, 8, 9, 10, 11, 12, 13, 14, 15, 16, 17] ⟨QOne.yes rfl rfl rfl (PV.move rfl), QOne.yes rfl rfl rfl (PV.move rfl), QOne.yes rfl rfl rfl (PV.bin rfl rfl (BinV.sub _ rfl (by omega) (by omega))), QOne.yes rfl rfl rfl (PV.indexAddr ya_tl33 ya_tz3 (congrArg (fun a => some (Value.slice a _ _)) hga) rfl (by omega) (by omega)), trivial⟩ rfl rfl rfl rfl rfl rfl rfl (EV.storeO (vs := [I (iAt y.l y.j)]) 0 rfl rfl rfl hga ya_tz3 rfl (by simp; omega) rfl) (fun _ => ?_)
        refine AR.done [16, 2, 3, 4] rfl ?_
        refine AR.last [] [0, 1, 2, 3, 4, 5, 6, 7, 8, 9, 10, 11, 12, 13, 14, 15, 16, 17] trivial rfl rfl rfl ?_
        refine NX.sub (E' := [(0, _), (1, _), (2, _), (6, _), (7, _), (16, _), (17, _), (18, _), (19, _), (20, _), (21, _), (22, _), (23, _), (24, _), (25, _), (26, _), (27, _), (28, _), (29, _), (30, _), (33, _), (34, _), (35, _), (36, _), (37, _), (38, _), (39, _), (40, _), (41, _), (42, _), (43, _), (44, _), (45, _), (46, _), (47, _), (48, _)]) ⟨rfl, rfl, rfl, rfl, rfl, rfl, rfl, rfl, rfl, rfl, rfl, rfl, rfl, rfl, rfl, rfl, rfl, rfl, rfl, rfl, rfl, rfl, rfl, rfl, rfl, rfl, rfl, rfl, rfl, rfl, rfl, rfl, rfl, rfl, rfl, rfl, trivial⟩ ?_
        refine NX.off ?_
        refine NX.seq ?_
        refine TR.region ?_
        refine RL.move rfl rfl rfl ?_
        refine RL.bin rfl rfl rfl (BinV.sub _ rfl (by omega) (by omega)) rfl ?_
        refine RL.assign rfl rfl rfl ?_
        refine RL.nil ?_
        refine NX.roundP ⟨swp y.l y.j, y.j - 1⟩ ⟨(swp_len _ _).trans hy.1, (swp_perm (by omega) hj0).trans hy.2.1, by show y.j - 1 ≤ _; omega, hy.2.2.2.step (by omega) hy.2.2.1 hj0 hlt⟩ (by show y.j - 1 < y.j; omega) ⟨rfl, rfl, rfl, rfl, ?_, trivial⟩ (fun w hw => ?_)
        · show some (I ((y.j : Int) - 1)) = some (I ((y.j - 1 : Nat) : Int)); congr 2; omega
        · have h9 := hw
          have e1 := ints_set (l := y.l) (v := (y.j : Int)) (x := iAt y.l (y.j - 1)) y.j (by omega) (by omega)
          have e2 := ints_set (l := y.l.set y.j (iAt y.l (y.j - 1))) (v := (y.j : Int) - 1) (x := iAt y.l y.j) (y.j - 1) (by omega) (by rw [List.length_set]; omega)
          show St w (OwnSl 3 1 oa l0.length c (ints (swp y.l y.j)) :: M) F
          unfold swp
          rw [← e2, ← e1]
          exact hw
      · skip
        have hs : y.j = 0 ∨ ¬ iAt y.l y.j < iAt y.l (y.j - 1) := Or.inr (of_decide_eq_false h3)
        refine TR.exit ?_
        refine NX.exitThen ?_
        refine NX.exitThen ?_
        refine NX.exitHere ?_
        refine NX.off ?_
        refine NX.seq ?_
        refine TR.region ?_
        refine RL.move rfl rfl rfl ?_
        refine RL.bin rfl rfl rfl (BinV.add _ rfl (by omega) (by omega)) rfl ?_
        refine RL.assign rfl rfl rfl ?_
        refine RL.nil ?_
        refine NX.roundP ⟨y.l, x.j + 1⟩ ⟨hy.1, hy.2.1, by show 1 ≤ x.j + 1; omega, hy.2.2.2.stop hy.2.2.1 hs⟩ (by show l0.length + 1 - (x.j + 1) < l0.length + 1 - x.j; omega) ⟨rfl, rfl, rfl, rfl, trivial⟩ (fun w hw => hw)
  · skip
    have hi : ¬ x.j < l0.length := by have := of_decide_eq_false h1; omega
    refine TR.exit ?_
    refine NX.exitThen ?_
    refine NX.exitThen ?_
    refine NX.exitHere ?_
    refine NX.end0 (⟨x.l, hx.2.1, ?_⟩ : {l : List Int // l.Perm l0 ∧ Ord l l0.length}) rfl rfl (fun w hw => hw)
    exact fun p q h1 h2 => hx.2.2.2 p q h1 (by omega)

end Go.Proofs.Ytdnjoffkanjjhaa

namespace Go.Proofs.Ytdnjoffkanjjhaa
open Go.GL
set_option linter.unusedVariables false
theorem pdq_spec {l0 : List Int} {oa : Option Addr} {c : Nat} {n : Int} {M : List HP} {F : List Fact} (h12 : l0.length ≤ 12) (hl : l0.length ≤ 4611686018427387904) : Ctr Try.prog 62 [.slice oa l0.length c, I 0, I (l0.length : Nat), I n] (OwnSl 3 1 oa l0.length c (ints l0) :: M) F {l : List Int // l.Perm l0 ∧ Ord l l0.length} (fun _ => .tuple #[]) (fun z => OwnSl 3 1 oa l0.length c (ints z.1) :: M) (fun _ => F) := by
  refine Ctr.body Try.func62 rfl rfl ?_
  refine TR.seq ?_
  refine TR.region ?_
  refine RL.assign rfl rfl rfl ?_
  refine RL.nil ?_
  refine NX.seq ?_
  refine TR.seq ?_
  refine TR.region ?_
  refine RL.assign rfl rfl rfl ?_
  refine RL.nil ?_
  refine NX.seq ?_
  refine TR.block ?_
  refine TR.loopP (ι := Nat) (fun k => k ≤ 0) (fun _ => [(0, .slice oa l0.length c), (1, I 0), (2, I (l0.length : Nat))]) (fun _ => OwnSl 3 1 oa l0.length c (ints l0) :: M) (fun _ => F) (fun k => k) 0 (Nat.le_refl _) ⟨rfl, rfl, rfl, trivial⟩ (fun w hw => hw) (fun k hk => ?_)
  refine TR.block ?_
  refine TR.seq ?_
  refine TR.region ?_
  refine RL.move rfl rfl rfl ?_
  refine RL.move rfl rfl rfl ?_
  refine RL.bin rfl rfl rfl (BinV.sub _ rfl (by omega) (by omega)) rfl ?_
  refine RL.assign rfl rfl rfl ?_
  refine RL.nil ?_
  refine NX.seq ?_
  refine TR.seq ?_
  refine TR.seq ?_
  refine TR.region ?_
  refine RL.move rfl rfl rfl ?_
  refine RL.bin rfl rfl rfl (BinV.to (d := true) BinV.leq (decide_eq_true (by omega))) rfl ?_
  refine RL.nil ?_
  refine NX.seq ?_
  refine TR.condT rfl ?_
  refine TR.seq ?_
  refine TR.region ?_
  refine RL.move rfl rfl rfl ?_
  refine RL.move rfl rfl rfl ?_
  refine RL.move rfl rfl rfl ?_
  refine RL.call rfl rfl Try.call64 rfl (isort_spec hl) (fun z => ?_)
  refine RL.nil ?_
  refine NX.seq ?_
  refine TR.ret ?_
  refine NX.retThen ?_
  refine NX.retBlock ?_
  refine NX.retThen ?_
  refine NX.retBlock ?_
  exact NX.ret0 z rfl rfl (fun w hw => hw)

end Go.Proofs.Ytdnjoffkanjjhaa

namespace Go.GL
set_option linter.unusedVariables false
/-- what an iterator says that holds L0 and yields in some order: 'step': what may come next; 'fin': what has come at the end -/
def IterG (P : Program) (gf : FuncId) (cap : List Value) {α : Type} (enc : α → List Value → Prop) (step : List α → α → Prop) (fin : List α → Prop) (L0 : List HP) (F : List Fact) : Prop :=
  ∀ (l : Nat) (J : List α → List HP),
    (∀ pre x args, step pre x → enc x args → ∀ Mi G, (∀ φ, φ ∈ F → φ ∈ G) → YSpec P l args (J pre ++ Mi) G (J (pre ++ [x]) ++ Mi)) →
    ∀ Mi G, (∀ φ, φ ∈ F → φ ∈ G) → Ctr P gf (.func (.yield l) #[] #[] :: cap) (J [] ++ (L0 ++ Mi)) G {xs : List α // fin xs} (fun _ => .tuple #[]) (fun xs => J xs.1 ++ (L0 ++ Mi)) (fun _ => G)
section
variable {P : Program} {r : Option Nat} {N : Nat} {ops : Array Oper} {rest : List Oper} {Q : Exit → Act → World → Prop} {E : Env} {ds : List Deferred} {M : List HP} {F : List Fact}
/-- A LOOP OVER A FUNCTION whose body never leaves it. -/
theorem TR.rangeFuncG {α : Type} {g : Operand} {ps : List Nat} {assign body : Code} {gf : FuncId} {cap : List Value} {enc : α → List Value → Prop} {step : List α → α → Prop} {fin : List α → Prop} {L0 : List HP} {κ : Type}
    (hg : evalO E g = some (.func (.func gf) #[] cap.toArray)) (hcall : ∀ args w, (callFunc gf args).run P w = .ok (.enter gf args) w) (hps : ∀ p, p ∈ ps → Nat.ble (p + 1) N = true) (hlen : ∀ x args, enc x args → args.length = ps.length)
    (hit : IterG P gf cap enc step fin L0 F) (J : List α → List HP) (Mr : List HP) (hJ : ∀ w, St w M F → St w (J [] ++ (L0 ++ Mr)) F)
    (E1 : List α → α → List Value → κ → Env) (M1 : List α → α → List Value → κ → List HP)
    (hassign : ∀ l pre x args, step pre x → enc x args → ∀ Mi G, (∀ φ, φ ∈ F → φ ∈ G) →
      TR P (some l) N assign (Exit.then (fun a w => ∃ i, Sat N (E1 pre x args i) [] a ∧ St w (M1 pre x args i ++ Mi) G) (fun _ _ _ => False)) (envAt ps args E) [] (J pre ++ Mi) G)
    (hbody : ∀ l pre x args i, step pre x → enc x args → ∀ Mi G, (∀ φ, φ ∈ F → φ ∈ G) →
      TR P (some l) N body (RoundQ (J (pre ++ [x]) ++ Mi) G) (E1 pre x args i) [] (M1 pre x args i ++ Mi) G)
    (k : ∀ xs, fin xs → ∀ D, NX N .normal Q E ({ target := .collected D, args := #[] } :: ds) (Pts D (.deferred (some [])) :: (J xs ++ (L0 ++ Mr))) F) :
    TR P none N (.rangeFunc g ps.toArray assign body) Q E ds M F := by
  intro a w ha hw
  refine wpIn_rangeFunc fun fn _ => ?_
  obtain ⟨rec, hrec⟩ : ∃ rec : LoopState → Option Code → Loop, rec = fun st pe => { state := st, pending := pe, fn, tmps := a.tmps, params := ps.toArray, assign, body, defers := w.heap.size } := ⟨_, rfl⟩
  obtain ⟨W1, hW1⟩ : ∃ W1, W1 = (w.alloc (.deferred (some []))).alloc (.loop (rec .ready none)) := ⟨_, rfl⟩
  have h1 : St W1 (Pts (w.heap.size + 1) (.loop (rec .ready none)) :: Pts w.heap.size (.deferred (some [])) :: (J [] ++ (L0 ++ Mr))) F := by
    have := ((hJ w hw).alloc (.deferred (some []))).alloc (.loop (rec .ready none))
    rw [World.size_alloc] at this
    rw [hW1]
    exact this
  refine ⟨w.heap.size + 1, [{ target := .collected w.heap.size, args := #[] }], W1, { target := .fn (.func gf) cap.toArray, args := #[.func (.yield (w.heap.size + 1)) #[] #[]] }, W1, gf,
    (.func (.yield (w.heap.size + 1)) #[] #[] :: cap).toArray, W1, ?_, ?_, fun _ _ => trivial, ?_, fun h => by simp at h, ?_⟩
  · rw [hW1, hrec]; exact run_enterLoop_outer _ _ _ _ _
  · have e0 := ha.eval hg
    have e1 : a.eval (.const (.func (.yield (w.heap.size + 1)) #[] #[])) = .func (.yield (w.heap.size + 1)) #[] #[] := rfl
    simp only [resolve, e0, Deferred.ofValue]
    simp [e1]
  · simp [invoke, hcall]
  · have hJ' := hit (w.heap.size + 1) (fun pre => Pts (w.heap.size + 1) (.loop (rec .ready none)) :: J pre) ?_ (Pts w.heap.size (.deferred (some [])) :: Mr) F (fun _ h => h)
    · have hp : ∀ (r : HP) (L : List HP), (r :: Pts w.heap.size (.deferred (some [])) :: (L ++ (L0 ++ Mr))).Perm ((r :: L) ++ (L0 ++ (Pts w.heap.size (.deferred (some [])) :: Mr))) := fun r L => by
        refine List.Perm.cons r ((List.perm_middle.symm).trans ?_)
        exact List.Perm.append_left L List.perm_middle.symm
      obtain ⟨hF, hc⟩ := hJ' _ (h1.perm (hp _ _))
      refine ⟨hF, fun cs hr => ?_⟩
      obtain ⟨e, w', fr, ⟨xs, he, hst⟩, rest'⟩ := hc cs hr
      subst he
      refine ⟨_, w', fr, ?_, rest'⟩
      have hst' := hst.perm (hp _ _).symm
      have hl := hst'.heap (i := 0) rfl
      refine ⟨none, _, by have := run_endLoop (P := P) hl (by rw [hrec]; simp); rw [hrec] at this; exact this, ?_⟩
      exact k xs.1 xs.2 w.heap.size _ _ (ha.ends _) ((hst'.putObj (i := 0) rfl).tail) |> fun h => by rw [ha.defers]; exact h
    · intro pre x args hx he Mi G hG W hW
      have hW : St W (Pts (w.heap.size + 1) (.loop (rec .ready none)) :: (J pre ++ Mi)) G := hW
      have hl := hW.heap (i := 0) rfl
      have hy := run_yield (P := P) (args := args.toArray) hl (by rw [hrec]; simp [hlen x args he])
      rw [hrec] at hy
      refine ⟨fn, _, assign, body, hy, roundIn_of_wpIn (F := Wd none) trivial ?_⟩
      have hS : Sat N (envAt ps args E) [] ⟨(ps.zip args).foldl (fun t (p, v) => t.setIfInBounds p v) a.tmps, []⟩ := Sat.params ps args (ha.ends []) hps
      have hz : ((ps.toArray.zip args.toArray).foldl (fun tmps (t, a) => tmps.setIfInBounds t a) a.tmps) = (ps.zip args).foldl (fun t (p, v) => t.setIfInBounds p v) a.tmps := by simp
      have hper : ∀ (r : HP) (L L' : List HP), (r :: (L ++ L')).Perm (L ++ (r :: L')) := fun r L L' => List.perm_middle.symm
      refine wpIn_mono (hassign (w.heap.size + 1) pre x args hx he (Pts (w.heap.size + 1) (.loop (rec .ready none)) :: Mi) G hG _ W (by simp only; rw [hz]; exact hS) (hW.perm (hper _ _ _))) ?_
      intro e a1 w1 hq
      cases e with
      | normal =>
        obtain ⟨i, hs1, hw1⟩ := hq
        have hw1' := hw1.perm (hper _ _ _).symm
        have hl1 := hw1'.heap (i := 0) rfl
        refine ⟨_, run_beginRound hl1 (by rw [hrec]), ?_⟩
        have hw2 := (hw1'.putObj (o' := .loop { rec .ready none with state := .busy }) (i := 0) rfl)
        refine wpIn_mono (hbody (w.heap.size + 1) pre x args i hx he (Pts (w.heap.size + 1) (.loop { rec .ready none with state := .busy }) :: Mi) G hG a1 _ hs1 (hw2.perm (hper _ _ _))) ?_
        intro e a3 w3 hq3
        cases e with
        | normal =>
          have hw3 : St w3 (J (pre ++ [x]) ++ (Pts (w.heap.size + 1) (.loop { rec .ready none with state := .busy }) :: Mi)) G := hq3
          have hw3' := hw3.perm (hper _ _ _).symm
          have hl3 := hw3'.heap (i := 0) rfl
          refine ⟨_, _, run_endRound none hl3, (), rfl, ?_⟩
          have := hw3'.putObj (o' := .loop { rec .ready none with state := .ready }) (i := 0) rfl
          rw [hrec] at this ⊢
          exact this
        | _ => exact hq3.elim
      | _ => exact hq.elim
end
end Go.GL

namespace Go.GL
def HP.emp : HP := ⟨fun _ K => K = [], fun h _ => h, fun h b hb => by rw [h] at hb; cases hb⟩
def nthM : List HP → Nat → HP
  | [], _ => HP.emp
  | a :: _, 0 => a
  | _ :: l, n + 1 => nthM l n
def dropM : Nat → List HP → List HP
  | 0, l => l
  | _ + 1, [] => []
  | n + 1, _ :: l => dropM n l
/-- the parts at the places, then all from the k-th on -/
def pikM (M : List HP) (k : Nat) : List Nat → List HP
  | [] => dropM k M
  | i :: is => nthM M i :: pikM M k is
def nthF : List Fact → Nat → Fact
  | [], _ => ⟨fun _ _ => True, fun h _ => h⟩
  | a :: _, 0 => a
  | _ :: l, n + 1 => nthF l n
def dropF : Nat → List Fact → List Fact
  | 0, l => l
  | _ + 1, [] => []
  | n + 1, _ :: l => dropF n l
def pikF (F : List Fact) (k : Nat) : List Nat → List Fact
  | [] => dropF k F
  | i :: is => nthF F i :: pikF F k is
theorem dropM_eq : ∀ (M : List HP) (k : Nat), dropM k M = M.drop k
  | _, 0 => by simp [dropM]
  | [], _ + 1 => by simp [dropM]
  | _ :: l, k + 1 => by simp [dropM, dropM_eq l k]
theorem nthM_get : ∀ {M : List HP} {i : Nat} (h : i < M.length), nthM M i = M[i]
  | [], _, h => absurd h (by simp)
  | _ :: _, 0, _ => rfl
  | _ :: l, n + 1, h => by simp only [List.length_cons] at h; show nthM l n = _; rw [nthM_get (by omega)]; rfl
theorem nthM_big : ∀ {M : List HP} {i : Nat}, M.length ≤ i → nthM M i = HP.emp
  | [], _, _ => rfl
  | _ :: _, 0, h => absurd h (by simp)
  | _ :: l, n + 1, h => nthM_big (M := l) (by simp only [List.length_cons] at h; omega)
theorem nthF_mem (F : List Fact) (i : Nat) : nthF F i ∈ F ∨ ∀ w K, (nthF F i).p w K := by
  induction F generalizing i with
  | nil => exact .inr fun _ _ => trivial
  | cons a l ih =>
    cases i with
    | zero => exact .inl (.head _)
    | succ n => rcases ih n with h | h; exact .inl (.tail _ h); exact .inr h
theorem dropF_mem {φ : Fact} : ∀ {F : List Fact} {k : Nat}, φ ∈ dropF k F → φ ∈ F
  | _, 0, h => h
  | [], _ + 1, h => h
  | _ :: _, _ + 1, h => .tail _ (dropF_mem h)
theorem St.toF {w : World} {M : List HP} {F : List Fact} (k : Nat) (fs : List Nat) (h : St w M F) : St w M (pikF F k fs) := by
  obtain ⟨K, ho, hn, hf⟩ := h
  refine ⟨K, ho, hn, ?_⟩
  induction fs with
  | nil => exact fun φ hφ => hf φ (dropF_mem hφ)
  | cons i is ih =>
    intro φ hφ
    rcases List.mem_cons.1 hφ with e | e
    · subst e
      rcases nthF_mem F i with h | h
      · exact hf _ h
      · exact h w K
    · exact ih φ e
theorem St.emp {w : World} {M : List HP} {F : List Fact} (h : St w M F) : St w (HP.emp :: M) F := by
  obtain ⟨K, ho, hn, hf⟩ := h
  exact ⟨K, ⟨[], K, rfl, rfl, ho⟩, hn, hf⟩
theorem St.dropped {w : World} {F : List Fact} : ∀ {A B : List HP}, St w (A ++ B) F → St w B F
  | [], _, h => h
  | _ :: A, B, h => St.dropped (A := A) (B := B) (by simpa using h.tail)
/-- each place once, none beyond k -/
def okM (k : Nat) : List Nat → Bool
  | [] => true
  | i :: is => Nat.blt i k && !(is.any fun j => Nat.beq i j) && okM k is
theorem okM_is {k : Nat} : ∀ {is : List Nat}, okM k is = true → is.Nodup ∧ ∀ i, i ∈ is → i < k
  | [], _ => ⟨List.nodup_nil, fun _ h => absurd h (by simp)⟩
  | i :: is, h => by
    simp only [okM, Bool.and_eq_true] at h
    obtain ⟨h1, h2⟩ := okM_is h.2
    have h3 : i ∉ is := by
      intro hm
      have : is.any (fun j => Nat.beq i j) = true := List.any_eq_true.2 ⟨i, hm, Nat.beq_refl i⟩
      rw [this] at h
      exact absurd h.1.2 (by simp)
    refine ⟨List.nodup_cons.2 ⟨h3, h1⟩, fun j hj => ?_⟩
    rcases List.mem_cons.1 hj with e | e
    · subst e
      have := h.1.1
      simpa [Nat.blt_eq] using this
    · exact h2 j e
theorem range_map_get (M : List HP) (k : Nat) (hk : k ≤ M.length) : (List.range k).map (nthM M) = M.take k := by
  apply List.ext_getElem (by simp; omega)
  intro i h1 h2
  simp at h1
  simp [nthM_get (show i < M.length by omega)]
theorem pickM_eq (M : List HP) (k : Nat) : ∀ (is : List Nat), pikM M k is = is.map (nthM M) ++ M.drop k
  | [] => by simp [pikM, dropM_eq]
  | i :: is => by simp [pikM, pickM_eq M k is]
theorem nodup_subperm {is : List Nat} {k : Nat} (h1 : is.Nodup) (h2 : ∀ i, i ∈ is → i < k) : ∃ js, (is ++ js).Perm (List.range k) := by
  refine ⟨(List.range k).filter (fun j => decide (j ∉ is)), ?_⟩
  have hn : (is ++ (List.range k).filter (fun j => decide (j ∉ is))).Nodup := by
    refine List.nodup_append.2 ⟨h1, (List.nodup_range).sublist List.filter_sublist, ?_⟩
    intro a ha b hb e
    subst e
    have := (List.mem_filter.1 hb).2
    simp at this
    exact this ha
  refine (List.perm_ext_iff_of_nodup hn List.nodup_range).2 fun a => ?_
  constructor
  · intro h
    rcases List.mem_append.1 h with h | h
    · exact List.mem_range.2 (h2 a h)
    · exact (List.mem_filter.1 h).1
  · intro h
    by_cases ha : a ∈ is
    · exact List.mem_append.2 (.inl ha)
    · exact List.mem_append.2 (.inr (List.mem_filter.2 ⟨h, by simpa using ha⟩))
/-- beyond the end there is nothing -/
theorem St.pad {w : World} {M : List HP} {F : List Fact} (k : Nat) (h : St w M F) : St w ((List.range k).map (nthM M) ++ M.drop k) F := by
  by_cases hk : k ≤ M.length
  · rw [range_map_get M k hk, List.take_append_drop]; exact h
  · have e1 : (List.range k).map (nthM M) = M ++ List.replicate (k - M.length) HP.emp := by
      apply List.ext_getElem (by simp; omega)
      intro i h1 h2
      simp at h1
      by_cases hi : i < M.length
      · simp [List.getElem_append_left hi, nthM_get hi]
      · rw [List.getElem_append_right (by omega)]
        simp [nthM_big (M := M) (i := i) (by omega)]
    rw [e1, List.drop_eq_nil_of_le (by omega), List.append_nil]
    have : ∀ n, St w (List.replicate n HP.emp ++ M) F := by
      intro n
      induction n with
      | zero => simpa using h
      | succ n ih => simpa [List.replicate_succ] using ih.emp
    exact (this _).perm List.perm_append_comm
theorem St.toM {w : World} {M : List HP} {F : List Fact} (k : Nat) (is : List Nat) (ok : okM k is = true) (h : St w M F) : St w (pikM M k is) F := by
  obtain ⟨h1, h2⟩ := okM_is ok
  obtain ⟨js, hp⟩ := nodup_subperm h1 h2
  rw [pickM_eq]
  have h3 := h.pad k
  have h4 : ((List.range k).map (nthM M) ++ M.drop k).Perm (js.map (nthM M) ++ (is.map (nthM M) ++ M.drop k)) := by
    have := (hp.map (nthM M)).symm
    rw [List.map_append] at this
    refine (this.append_right _).trans ?_
    rw [← List.append_assoc]
    exact List.perm_append_comm.append_right _
  exact St.dropped (h3.perm h4)
/-- blocks and facts by their places; what is not named is let go -/
theorem St.to {w : World} {M : List HP} {F : List Fact} (k : Nat) (is : List Nat) (kf : Nat) (fs : List Nat) (ok : okM k is = true) (h : St w M F) : St w (pikM M k is) (pikF F kf fs) := (h.toM k is ok).toF kf fs
/-- all the k parts, each once: what a call takes stands ahead -/
theorem Ctr.pick {P : Program} {f : FuncId} {args : List Value} {M : List HP} {F : List Fact} {ι : Type} {val : ι → Value} {M' : ι → List HP} {F' : ι → List Fact} (k : Nat) (is : List Nat) (ok : okM k is = true)
    (h : Ctr P f args (pikM M k is) F ι val M' F') : Ctr P f args M F ι val M' F' := fun w hw => h w (hw.toM k is ok)
section
variable {P : Program} {r : Option Nat} {N : Nat} {ops : Array Oper} {rest : List Oper} {Q : Exit → Act → World → Prop} {E : Env} {ds : List Deferred} {M : List HP} {F : List Fact}
theorem RL.pick (k : Nat) (is : List Nat) (ok : okM k is = true) (h : RL P r N ops rest Q E ds (pikM M k is) F) : RL P r N ops rest Q E ds M F := RL.weak (fun _ hw => hw.toM k is ok) h
theorem TR.pick {c : Code} (k : Nat) (is : List Nat) (ok : okM k is = true) (h : TR P r N c Q E ds (pikM M k is) F) : TR P r N c Q E ds M F := TR.weak (fun _ hw => hw.toM k is ok) h
theorem RL.to (k : Nat) (is : List Nat) (kf : Nat) (fs : List Nat) (ok : okM k is = true) (h : RL P r N ops rest Q E ds (pikM M k is) (pikF F kf fs)) : RL P r N ops rest Q E ds M F := RL.weak (fun _ hw => hw.to k is kf fs ok) h
theorem TR.to {c : Code} (k : Nat) (is : List Nat) (kf : Nat) (fs : List Nat) (ok : okM k is = true) (h : TR P r N c Q E ds (pikM M k is) (pikF F kf fs)) : TR P r N c Q E ds M F := TR.weak (fun _ hw => hw.to k is kf fs ok) h
end
/-! ### Many parts as one -/
/-- all the parts of a list, as one part -/
def Al (L : List HP) : HP where
  p w K := Own w L K
  loc := Own.loc
  lt := Own.lt
theorem St.alOpen {w : World} {L M : List HP} {F : List Fact} (h : St w (Al L :: M) F) : St w (L ++ M) F := by
  obtain ⟨K, ⟨K1, K2, e, h1, h2⟩, hn, hf⟩ := h
  exact ⟨K, Own.append.2 ⟨K1, K2, e, h1, h2⟩, hn, hf⟩
theorem St.alClose {w : World} {L M : List HP} {F : List Fact} (h : St w (L ++ M) F) : St w (Al L :: M) F := by
  obtain ⟨K, ho, hn, hf⟩ := h
  obtain ⟨K1, K2, e, h1, h2⟩ := Own.append.1 ho
  exact ⟨K, ⟨K1, K2, e, h1, h2⟩, hn, hf⟩
theorem St.alSnoc {w : World} {L M : List HP} {r : HP} {F : List Fact} (h : St w (r :: Al L :: M) F) : St w (Al (L ++ [r]) :: M) F := by
  refine St.alClose ?_
  have h1 := St.alOpen (h.perm (.swap _ _ _))
  rw [List.append_assoc]
  exact h1
theorem St.alNil {w : World} {M : List HP} {F : List Fact} (h : St w M F) : St w (Al [] :: M) F := St.alClose h
theorem St.alCut {w : World} {L M : List HP} {F : List Fact} (i : Nat) (hi : i < L.length) (h : St w (Al L :: M) F) : St w (L[i] :: Al (L.take i) :: Al (L.drop (i + 1)) :: M) F := by
  have h1 := St.alOpen h
  have e : L ++ M = L.take i ++ (L[i] :: (L.drop (i + 1) ++ M)) := by
    have e2 : L = L.take i ++ (L[i] :: L.drop (i + 1)) := by rw [← List.drop_eq_getElem_cons hi, List.take_append_drop]
    exact (congrArg (· ++ M) e2).trans (by simp only [List.append_assoc, List.cons_append])
  rw [e] at h1
  have h2 : St w (L[i] :: (L.take i ++ (L.drop (i + 1) ++ M))) F := h1.perm List.perm_middle
  have h3 : St w (L.drop (i + 1) ++ (L[i] :: (L.take i ++ M))) F := h2.perm ((List.Perm.cons _ (perm_mid _ _ _)).trans List.perm_middle.symm)
  have h4 := St.alClose h3
  have h5 : St w (L.take i ++ (L[i] :: Al (L.drop (i + 1)) :: M)) F := h4.perm (by
    refine (List.Perm.swap _ _ _).trans ?_
    refine (List.Perm.cons _ (List.perm_middle.symm)).trans ?_
    exact List.perm_middle.symm)
  exact (St.alClose h5).perm (.swap _ _ _)
theorem St.alJoin {w : World} {L1 L2 M : List HP} {r : HP} {F : List Fact} (h : St w (r :: Al L1 :: Al L2 :: M) F) : St w (Al (L1 ++ r :: L2) :: M) F := by
  refine St.alClose ?_
  have h1 : St w (L1 ++ (r :: Al L2 :: M)) F := St.alOpen (h.perm (.swap _ _ _))
  have h2 : St w (Al L2 :: (L1 ++ (r :: M))) F := h1.perm ((List.Perm.append_left _ (.swap _ _ _)).trans List.perm_middle)
  have h3 : St w (L2 ++ (L1 ++ (r :: M))) F := St.alOpen h2
  rw [List.append_assoc]
  have h4 : St w (L1 ++ (L2 ++ (r :: M))) F := h3.perm (perm_mid _ _ _)
  exact h4.perm (List.Perm.append_left L1 List.perm_middle)
end Go.GL

namespace Go.GL
set_option linter.unusedVariables false
/-! ### What a disk shows -/
def vB (fs : Fs) (n : Nat) : List UInt8 := (fget fs n).b
def vD (fs : Fs) (n : Nat) : Nat := (fget fs n).dur
def filesB (B : Nat → List UInt8) : List Nat := (List.range 64).filter fun n => !(B n).isEmpty
def keepK (keep : List Int) (i room : Nat) : Nat := match keep[i]? with
  | some k => (max 0 (min k (room : Int))).toNat
  | none => 0
theorem keepK_le (keep : List Int) (i room : Nat) : keepK keep i room ≤ room := by
  unfold keepK; split <;> omega
/-- what a crash lets stand of file n, nothing inverted -/
def cutB (B : Nat → List UInt8) (D : Nat → Nat) (keep : List Int) (n : Nat) : List UInt8 := (B n).take (D n + keepK keep ((filesB B).idxOf n) ((B n).length - D n))
def looseB (B : Nat → List UInt8) (D : Nat → Nat) (keep : List Int) : List (Nat × Nat) := (filesB B).flatMap fun n => (List.range' (D n) ((cutB B D keep n).length - D n)).map fun j => (n, j)
def flipB (x : UInt8) (r : Nat) : UInt8 := UInt8.ofNat (x.toNat ^^^ 2 ^ (7 - r))
def turnB (b : List UInt8) (j r : Nat) : List UInt8 := b.set j (flipB (b.getD j 0) r)
def crashB (B : Nat → List UInt8) (D : Nat → Nat) (keep : List Int) (flip : Int) (n : Nat) : List UInt8 :=
  if flip < 0 then cutB B D keep n else
  match (looseB B D keep)[flip.toNat % (8 * (looseB B D keep).length) / 8]? with
  | some (m, j) => if n = m then turnB (cutB B D keep n) j (flip.toNat % (8 * (looseB B D keep).length) % 8) else cutB B D keep n
  | none => cutB B D keep n
theorem cutB_len (B : Nat → List UInt8) (D : Nat → Nat) (keep : List Int) (n : Nat) : (cutB B D keep n).length ≤ (B n).length := by
  unfold cutB; rw [List.length_take]; omega
theorem turnB_len (b : List UInt8) (j r : Nat) : (turnB b j r).length = b.length := by unfold turnB; rw [List.length_set]
theorem crashB_len (B : Nat → List UInt8) (D : Nat → Nat) (keep : List Int) (flip : Int) (n : Nat) : (crashB B D keep flip n).length = (cutB B D keep n).length := by
  unfold crashB
  split
  · rfl
  · split
    · split
      · rw [turnB_len]
      · rfl
    · rfl
theorem crashB_calm (B : Nat → List UInt8) (D : Nat → Nat) (keep : List Int) (flip : Int) (n : Nat) (h : flip < 0) : crashB B D keep flip n = cutB B D keep n := by unfold crashB; rw [if_pos h]
/-- what a crash leaves -/
structure CrashR (s : Ds) (keep : List Int) (flip : Int) (t : Ds) : Prop where
  m : t.m = s.m
  room : t.room = s.room
  off : t.off = false
  armed : t.armed = false
  left : t.left = s.left
  ok : OkF t.fs
  b : ∀ n, n < 64 → vB t.fs n = crashB (vB s.fs) (vD s.fs) keep flip n
  d : ∀ n, n < 64 → vD t.fs n = (vB t.fs n).length
/-! ### The rows that a crash makes -/
structure CrR where
  n : Nat
  b : List UInt8
  d : Nat
  oa : Option Addr
  c : Nat
def CrR.f (r : CrR) : Fl := ⟨r.b, r.d, r.oa, r.c⟩
def crOwn (e : Nat) (r : CrR) : HP := OwnSl e 1 r.oa r.b.length r.c (bytesV r.b)
def crPtr (r : CrR) (j : Nat) : Value := .pointer (r.oa.map fun a => a.add (j * 1))
def crLoose (rs : List CrR) : List (CrR × Nat) := rs.flatMap fun r => (List.range' r.d (r.b.length - r.d)).map fun j => (r, j)
def crPtrs (rs : List CrR) : List Value := (crLoose rs).map fun x => crPtr x.1 x.2
theorem crLoose_snoc (rs : List CrR) (r : CrR) : crLoose (rs ++ [r]) = crLoose rs ++ (List.range' r.d (r.b.length - r.d)).map fun j => (r, j) := by
  unfold crLoose; rw [List.flatMap_append]; simp
theorem crLoose_mem {rs : List CrR} {x : CrR × Nat} (h : x ∈ crLoose rs) : x.1 ∈ rs ∧ x.1.d ≤ x.2 ∧ x.2 < x.1.b.length := by
  obtain ⟨r, hr, hx⟩ := List.mem_flatMap.1 h
  obtain ⟨j, hj, rfl⟩ := List.mem_map.1 hx
  have := List.mem_range'_1.1 hj
  exact ⟨hr, this.1, by have := this.2; show j < r.b.length; omega⟩
/-- the files when the first i of them (in order) have been cut -/
structure CrSt (s : Ds) (keep : List Int) (i : Nat) (fs : Fs) (rs : List CrR) : Prop where
  ok : OkF fs
  len : rs.length = i
  n : rs.map CrR.n = (filesB (vB s.fs)).take i
  b : ∀ r, r ∈ rs → r.b = cutB (vB s.fs) (vD s.fs) keep r.n ∧ r.d = vD s.fs r.n ∧ r.d ≤ r.b.length ∧ r.b.length ≤ r.c
  done : ∀ r, r ∈ rs → fget fs r.n = (if r.b = [] then fl0 else r.f)
  rest : ∀ k : Nat, k ∉ rs.map CrR.n → fget fs k = fget s.fs k
end Go.GL
