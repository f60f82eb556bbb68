/- Walks of functions of the program. Printed by sx.py. -/
import Derived.Test.YtdlpaojkkekdlaaWn
import Derived.Test.YtdlpaojkkekdlaaWm
import Derived.Test.YtdlpaojkkekdlaaWl
import Derived.Test.YtdlpaojkkekdlaaDsk
namespace Go.Proofs.Ytdlpaojkkekdlaa
open Go.GL
set_option linter.unusedVariables false
theorem xa_bv101_0_1 (x0 : Option Addr) (x0n x0c : Nat) (x1 : Int) : BuildV Try.prog 101 [(0, .slice x0 x0n x0c), (1, .int .i64 x1)] (.agg #[.slice x0 x0n x0c, .int .i64 x1]) := fun w => by kernel_rfl
theorem xa_ta101 : tyAgg Try.prog 101 2 = true := by kernel_rfl
theorem xa_tf101_0 : fieldOff Try.prog 101 0 0 = true := by kernel_rfl
theorem xa_tf92_0 : fieldOff Try.prog 92 0 0 = true := by kernel_rfl
theorem xa_tf92_2 : fieldOff Try.prog 92 2 2 = true := by kernel_rfl
theorem xa_tf92_3 : fieldOff Try.prog 92 3 3 = true := by kernel_rfl
theorem xa_tf92_4 : fieldOff Try.prog 92 4 4 = true := by kernel_rfl
theorem xa_tl23 : tySlice Try.prog 23 5 = true := by kernel_rfl
theorem xa_tm90 : tyMap Try.prog 90 3 101 = true := by kernel_rfl
theorem xa_ts23 : tyScalar Try.prog 23 = true := by kernel_rfl
theorem xa_ts3 : tyScalar Try.prog 3 = true := by kernel_rfl
theorem xa_ts4 : tyScalar Try.prog 4 = true := by kernel_rfl
theorem xa_ts90 : tyScalar Try.prog 90 = true := by kernel_rfl
theorem xa_tz101 : tySize Try.prog 101 2 = true := by kernel_rfl
theorem exists_spec {n : Int} {M : List HP} {F : List Fact} : Ctr Try.prog 71 [I n] M F Unit (fun _ => .bool (decide (0 ≤ n ∧ n < 64))) (fun _ => M) (fun _ => F) := by
  refine Ctr.body Try.func71 rfl rfl ?_
  refine TR.seq ?_
  refine TR.region ?_
  refine RL.assign rfl rfl rfl ?_
  refine RL.nil ?_
  refine NX.seq ?_
  refine TR.seq ?_
  refine TR.region ?_
  refine RL.move rfl rfl rfl ?_
  refine RL.bin rfl rfl rfl BinV.geq rfl ?_
  refine RL.move rfl rfl rfl ?_
  refine RL.part (fun h1 => ?_) (fun h1 => ?_)
  · skip
    refine RL.move rfl rfl rfl ?_
    refine RL.bin rfl rfl rfl BinV.lss rfl ?_
    refine RL.pickT rfl rfl rfl rfl ?_
    refine RL.assign rfl rfl rfl ?_
    refine RL.nil ?_
    refine NX.seq ?_
    refine TR.ret ?_
    refine NX.ret1 () rfl rfl (congrArg Value.bool ?_) (fun w hw => hw)
    rw [decide_eq_decide]; have := of_decide_eq_true h1; omega
  · skip
    refine RL.skip rfl rfl rfl ?_
    refine RL.skip rfl rfl rfl ?_
    refine RL.pickF rfl rfl rfl rfl ?_
    refine RL.assign rfl rfl rfl ?_
    refine RL.nil ?_
    refine NX.seq ?_
    refine TR.ret ?_
    refine NX.ret1 () rfl rfl (congrArg Value.bool ?_) (fun w hw => hw)
    exact (decide_eq_false (by have := of_decide_eq_false h1; omega)).symm

theorem used_spec {b : Nat} {s : Ds} {M : List HP} {F : List Fact} (hok : OkF s.fs) (hu : used s.fs ≤ 4611686018427387904) : Ctr Try.prog 41 [.pointer (some ⟨b, 0, none⟩)] (Box b 92 (dkC s) :: MpB s.m (fsV s.fs) :: M) F Unit (fun _ => I (used s.fs)) (fun _ => Box b 92 (dkC (s)) :: MpB (s).m (fsV (s).fs) :: M) (fun _ => F) := by
  refine Ctr.body Try.func41 rfl rfl ?_
  refine TR.seq ?_
  refine TR.region ?_
  refine RL.assign rfl rfl rfl ?_
  refine RL.nil ?_
  refine NX.seq ?_
  refine TR.seq ?_
  refine TR.region ?_
  refine RL.assign rfl rfl rfl ?_
  refine RL.nil ?_
  refine NX.seq ?_
  refine TR.seq ?_
  refine TR.seq ?_
  refine TR.region ?_
  refine RL.move rfl rfl rfl ?_
  refine RL.nilCheck rfl rfl rfl ?_
  refine RL.fieldAddr rfl xa_tf92_0 rfl rfl ?_
  refine RL.load1 0 rfl xa_ts90 rfl rfl rfl rfl ?_
  refine RL.ofGV rfl rfl (GV.range 1 xa_tm90 rfl rfl) (fun q => ?_)
  refine RL.nil ?_
  refine NX.seq ?_
  refine TR.block ?_
  refine TR.loopP (ι := (List Int × Option Int)) (fun x => x.1.Nodup ∧ sumK (fun k => (fget s.fs k).b.length) x.1 ≤ used s.fs) (fun x => [(3, I ((used s.fs : Int) - (sumK (fun k => (fget s.fs k).b.length) x.1 : Nat))), (10, .pointer (some ⟨q, 0, none⟩))]) (fun x => Box b 92 (dkC s) :: RgB s.m q (fsV s.fs) x.1 x.2 :: M) (fun _ => F) (fun x => x.1.length) ⟨(fsV s.fs).map Prod.fst, none⟩ ⟨by rw [fsV_keys]; exact hok.keys, by rw [fsV_keys, used_sumK hok.keys]; exact Nat.le_refl _⟩ ⟨by show some (I 0) = some (I _); rw [fsV_keys, used_sumK hok.keys, Int.sub_self], rfl, trivial⟩ (fun w hw => hw) (fun x hx => ?_)
  refine TR.seq ?_
  refine TR.region ?_
  refine RL.ofGV rfl rfl (GV.next 1 rfl rfl) (fun nx => ?_)
  obtain ⟨_ | nx, hnx⟩ := nx
  · skip
    refine RL.extract rfl rfl rfl rfl ?_
    refine RL.nil ?_
    refine NX.seq ?_
    refine TR.seq ?_
    refine TR.condF rfl ?_
    refine TR.exit ?_
    refine NX.exitThen ?_
    refine NX.exitThen ?_
    refine NX.exitHere ?_
    refine NX.seq ?_
    refine TR.seq ?_
    refine TR.region ?_
    refine RL.move rfl rfl rfl ?_
    refine RL.assign rfl rfl rfl ?_
    refine RL.nil ?_
    refine NX.seq ?_
    refine TR.ret ?_
    have hl : x.1 = [] := hnx
    refine NX.ret1 () rfl rfl ?_ (fun w hw => hw)
    rw [hl]; show I ((used s.fs : Int) - (0 : Nat)) = _; rw [Int.natCast_zero, Int.sub_zero]
  · skip
    refine RL.extract rfl rfl rfl rfl ?_
    refine RL.nil ?_
    refine NX.seq ?_
    refine TR.seq ?_
    refine TR.condT rfl ?_
    refine TR.skip ?_
    refine NX.seq ?_
    refine TR.block ?_
    refine TR.seq ?_
    refine TR.region ?_
    obtain ⟨nk, nv⟩ := nx
    obtain ⟨f, hf, hfv⟩ := fsV_mem hnx.2
    have hfv2 : nv = flV f := hfv
    subst hfv2
    have hsum := sumK_take (g := (fun k => (fget s.fs k).b.length)) (k := nk) hx.1 hnx.1
    have hfl : (fget s.fs nk).b.length = f.b.length := by rw [fget_mem hok.keys hf]
    have hle : sumK (fun k => (fget s.fs k).b.length) x.1 ≤ used s.fs := hx.2
    refine RL.entry 1 rfl rfl rfl hnx.2 rfl ?_
    refine RL.extract rfl rfl rfl rfl ?_
    refine RL.allocA rfl (Try.zeroValue101) rfl (fun b1 => ?_)
    refine RL.storeA 0 rfl rfl rfl rfl xa_tz101 rfl rfl ?_
    refine RL.nil ?_
    refine NX.seq ?_
    refine TR.region ?_
    refine RL.move rfl rfl rfl ?_
    refine RL.fieldAddr rfl xa_tf101_0 rfl rfl ?_
    refine RL.load1 0 rfl xa_ts23 rfl rfl rfl rfl ?_
    refine RL.lenSlice rfl xa_tl23 rfl rfl ?_
    refine RL.bin rfl rfl rfl (BinV.add _ rfl (by omega) (by omega)) rfl ?_
    refine RL.assign rfl rfl rfl ?_
    refine RL.nil ?_
    refine NX.off ?_
    refine NX.roundP (x.1.filter fun y => !decide (y = nk), some nk) ⟨left_nodup hx.1, by show sumK (fun k => (fget s.fs k).b.length) (x.1.filter fun y => !decide (y = nk)) ≤ _; omega⟩ (left_lt hnx.1) ⟨?_, rfl, trivial⟩ (fun w hw => hw.drop 0 rfl)
    show some (I _) = some (I ((used s.fs : Int) - (sumK (fun k => (fget s.fs k).b.length) (x.1.filter fun y => !decide (y = nk)) : Nat)))
    congr 2; omega

theorem step_spec {b : Nat} {s : Ds} {M : List HP} {F : List Fact} (h0 : -9223372036854775807 ≤ s.left ∧ s.left ≤ 9223372036854775807) : Ctr Try.prog 72 [.pointer (some ⟨b, 0, none⟩)] (Box b 92 (dkC s) :: MpB s.m (fsV s.fs) :: M) F Unit (fun _ => .bool (stepB s)) (fun _ => Box b 92 (dkC (stepS s)) :: MpB (stepS s).m (fsV (stepS s).fs) :: M) (fun _ => F) := by
  refine Ctr.body Try.func72 rfl rfl ?_
  refine TR.seq ?_
  refine TR.region ?_
  refine RL.assign rfl rfl rfl ?_
  refine RL.nil ?_
  refine NX.seq ?_
  refine TR.seq ?_
  refine TR.seq ?_
  refine TR.region ?_
  refine RL.move rfl rfl rfl ?_
  refine RL.nilCheck rfl rfl rfl ?_
  refine RL.fieldAddr rfl xa_tf92_3 rfl rfl ?_
  refine RL.load1 0 rfl xa_ts4 rfl rfl rfl rfl ?_
  refine RL.not rfl rfl rfl ?_
  refine RL.nil ?_
  refine NX.seq ?_
  refine TR.cond rfl (fun h1 => ?_) (fun h1 => ?_)
  · skip
    refine TR.seq ?_
    refine TR.region ?_
    refine RL.assign rfl rfl rfl ?_
    refine RL.nil ?_
    refine NX.seq ?_
    refine TR.ret ?_
    refine NX.retThen ?_
    have ha : s.armed = false := by simpa using h1
    refine NX.ret1 () rfl rfl (by unfold stepB; rw [if_neg (by rw [ha]; simp)]) (fun w hw => ?_)
    rw [show stepS s = s from by unfold stepS; rw [if_neg (by rw [ha]; simp)]]
    exact hw
  · skip
    refine TR.skip ?_
    refine NX.seq ?_
    refine TR.seq ?_
    refine TR.region ?_
    refine RL.move rfl rfl rfl ?_
    refine RL.nilCheck rfl rfl rfl ?_
    refine RL.fieldAddr rfl xa_tf92_4 rfl rfl ?_
    refine RL.load1 0 rfl xa_ts3 rfl rfl rfl rfl ?_
    refine RL.bin rfl rfl rfl (BinV.sub _ rfl (by omega) (by omega)) rfl ?_
    refine RL.nilCheck rfl rfl rfl ?_
    refine RL.fieldAddr rfl xa_tf92_4 rfl rfl ?_
    refine RL.store1 0 rfl xa_ts3 rfl rfl rfl rfl rfl ?_
    refine RL.nil ?_
    refine NX.seq ?_
    refine TR.seq ?_
    refine TR.seq ?_
    refine TR.region ?_
    refine RL.move rfl rfl rfl ?_
    refine RL.nilCheck rfl rfl rfl ?_
    refine RL.fieldAddr rfl xa_tf92_4 rfl rfl ?_
    refine RL.load1 0 rfl xa_ts3 rfl rfl rfl rfl ?_
    refine RL.bin rfl rfl rfl BinV.lss rfl ?_
    refine RL.nil ?_
    refine NX.seq ?_
    refine TR.cond rfl (fun h2 => ?_) (fun h2 => ?_)
    · skip
      refine TR.region ?_
      refine RL.move rfl rfl rfl ?_
      refine RL.move rfl rfl rfl ?_
      refine RL.nilCheck rfl rfl rfl ?_
      refine RL.fieldAddr rfl xa_tf92_2 rfl rfl ?_
      refine RL.store1 0 rfl xa_ts4 rfl rfl rfl rfl rfl ?_
      refine RL.nilCheck rfl rfl rfl ?_
      refine RL.fieldAddr rfl xa_tf92_3 rfl rfl ?_
      refine RL.store1 0 rfl xa_ts4 rfl rfl rfl rfl rfl ?_
      refine RL.nil ?_
      refine NX.seq ?_
      refine TR.seq ?_
      refine TR.region ?_
      refine RL.move rfl rfl rfl ?_
      refine RL.nilCheck rfl rfl rfl ?_
      refine RL.fieldAddr rfl xa_tf92_2 rfl rfl ?_
      refine RL.load1 0 rfl xa_ts4 rfl rfl rfl rfl ?_
      refine RL.not rfl rfl rfl ?_
      refine RL.assign rfl rfl rfl ?_
      refine RL.nil ?_
      refine NX.seq ?_
      refine TR.ret ?_
      have ha : s.armed = true := by simpa using h1
      have hl : s.left - 1 < 0 := of_decide_eq_true h2
      have hs : stepS s = { s with left := s.left - 1, off := true, armed := false } := by unfold stepS; rw [if_pos ha, if_pos hl]
      refine NX.ret1 () rfl rfl (by unfold stepB; rw [if_pos ha, hs]) (fun w hw => ?_)
      rw [hs]
      exact hw
    · skip
      refine TR.skip ?_
      refine NX.seq ?_
      refine TR.seq ?_
      refine TR.region ?_
      refine RL.move rfl rfl rfl ?_
      refine RL.nilCheck rfl rfl rfl ?_
      refine RL.fieldAddr rfl xa_tf92_2 rfl rfl ?_
      refine RL.load1 0 rfl xa_ts4 rfl rfl rfl rfl ?_
      refine RL.not rfl rfl rfl ?_
      refine RL.assign rfl rfl rfl ?_
      refine RL.nil ?_
      refine NX.seq ?_
      refine TR.ret ?_
      have ha : s.armed = true := by simpa using h1
      have hl : ¬ s.left - 1 < 0 := of_decide_eq_false h2
      have hs : stepS s = { s with left := s.left - 1 } := by unfold stepS; rw [if_pos ha, if_neg hl]
      refine NX.ret1 () rfl rfl (by unfold stepB; rw [if_pos ha, hs]) (fun w hw => ?_)
      rw [hs]
      exact hw

theorem set_spec {n : Int} {f : Fl} {b : Nat} {s : Ds} {M : List HP} {F : List Fact} (hn : I64 n) : Ctr Try.prog 63 [.pointer (some ⟨b, 0, none⟩), I n, flV f] (Box b 92 (dkC s) :: MpB s.m (fsV s.fs) :: M) F Unit (fun _ => .tuple #[]) (fun _ => Box b 92 (dkC ({ s with fs := setF s.fs n f })) :: MpB ({ s with fs := setF s.fs n f }).m (fsV ({ s with fs := setF s.fs n f }).fs) :: M) (fun _ => F) := by
  refine Ctr.body Try.func63 rfl rfl ?_
  refine TR.seq ?_
  refine TR.region ?_
  refine RL.boxA rfl rfl rfl (fun b1 => ?_)
  refine RL.nil ?_
  refine NX.seq ?_
  refine TR.seq ?_
  refine TR.sub (E' := [(0, _), (1, _), (5, _)]) ⟨rfl, rfl, rfl, trivial⟩ ?_
  refine TR.draw mixed ?_
  apply AR.more [(0, _), (1, _), (2, _), (3, _), (4, _), (5, _)]
  refine AR.eff [0, 1, 2, 3, 4, 5] 6 [0, 1, 2, 3, 4, 5, 6] ⟨QOne.yes rfl rfl rfl (PV.move rfl), QOne.yes rfl rfl rfl (PV.nilCheck rfl), QOne.yes rfl rfl rfl (PV.fieldAddr xa_tf92_0 rfl), QOne.yes rfl rfl rfl (PV.load1 1 xa_ts90 rfl rfl rfl), QOne.yes rfl rfl rfl (PV.move rfl), QOne.yes rfl rfl rfl (PV.loadA 0 rfl rfl xa_ta101), trivial⟩ rfl rfl rfl rfl rfl rfl rfl (EV.mapUpdate 2 xa_tm90 rfl rfl rfl hn rfl) (fun _ => ?_)
  refine AR.done [3, 4, 5, 0, 1, 2] rfl ?_
  refine AR.last [] [0, 1, 2, 3, 4, 5, 6] trivial rfl rfl rfl ?_
  refine NX.sub (E' := [(0, _), (1, _), (5, _)]) ⟨rfl, rfl, rfl, trivial⟩ ?_
  refine NX.seq ?_
  refine TR.seq ?_
  refine TR.region ?_
  refine RL.fieldAddr rfl xa_tf101_0 rfl rfl ?_
  refine RL.load1 0 rfl xa_ts23 rfl rfl rfl rfl ?_
  refine RL.lenSlice rfl xa_tl23 rfl rfl ?_
  refine RL.bin rfl rfl rfl BinV.eql rfl ?_
  refine RL.nil ?_
  refine NX.seq ?_
  refine TR.cond rfl (fun h2 => ?_) (fun h2 => ?_)
  · skip
    have he := of_decide_eq_true h2
    refine TR.region ?_
    refine RL.move rfl rfl rfl ?_
    refine RL.nilCheck rfl rfl rfl ?_
    refine RL.fieldAddr rfl xa_tf92_0 rfl rfl ?_
    refine RL.load1 1 rfl xa_ts90 rfl rfl rfl rfl ?_
    refine RL.move rfl rfl rfl ?_
    refine RL.ofEV rfl rfl (EV.delete 2 xa_tm90 rfl rfl hn rfl) ?_
    refine RL.nil ?_
    refine NX.end0 () rfl rfl (fun w hw => ?_)
    have h9 : St w (Box b 92 (dkC s) :: MpB s.m (kvDel (kvSet (fsV s.fs) n (flV f)) n) :: M) F := hw.drop 0 rfl
    rw [fsV_set, fsV_del] at h9
    rw [show setF s.fs n f = fdel (fset s.fs n f) n from by unfold setF; rw [if_pos (by omega)]]
    exact h9
  · skip
    have he := of_decide_eq_false h2
    refine TR.skip ?_
    refine NX.end0 () rfl rfl (fun w hw => ?_)
    have h9 : St w (Box b 92 (dkC s) :: MpB s.m (kvSet (fsV s.fs) n (flV f)) :: M) F := hw.drop 0 rfl
    rw [fsV_set] at h9
    rw [show setF s.fs n f = fset s.fs n f from by unfold setF; rw [if_neg (by omega)]]
    exact h9

theorem harden_spec {b : Nat} {s : Ds} {M : List HP} {F : List Fact} (hok : OkF s.fs) : Ctr Try.prog 64 [.pointer (some ⟨b, 0, none⟩)] (Box b 92 (dkC s) :: MpB s.m (fsV s.fs) :: M) F Unit (fun _ => .tuple #[]) (fun _ => Box b 92 (dkC ({ s with fs := hard s.fs })) :: MpB ({ s with fs := hard s.fs }).m (fsV ({ s with fs := hard s.fs }).fs) :: M) (fun _ => F) := by
  refine Ctr.body Try.func64 rfl rfl ?_
  refine TR.seq ?_
  refine TR.region ?_
  refine RL.move rfl rfl rfl ?_
  refine RL.nilCheck rfl rfl rfl ?_
  refine RL.fieldAddr rfl xa_tf92_0 rfl rfl ?_
  refine RL.load1 0 rfl xa_ts90 rfl rfl rfl rfl ?_
  refine RL.ofGV rfl rfl (GV.range 1 xa_tm90 rfl rfl) (fun q => ?_)
  refine RL.nil ?_
  refine NX.seq ?_
  refine TR.block ?_
  refine TR.loopP (ι := (List Int × Option Int)) (fun x => x.1.Nodup ∧ True) (fun x => [(0, .pointer (some ⟨b, 0, none⟩)), (8, .pointer (some ⟨q, 0, none⟩))]) (fun x => Box b 92 (dkC s) :: RgB s.m q (fsV (hardBut s.fs x.1)) x.1 x.2 :: M) (fun _ => F) (fun x => x.1.length) ⟨(fsV s.fs).map Prod.fst, none⟩ ⟨by rw [fsV_keys]; exact hok.keys, trivial⟩ ⟨rfl, rfl, trivial⟩ (fun w hw => (by rw [fsV_keys, hardBut_all]; rw [fsV_keys] at hw; exact hw)) (fun x hx => ?_)
  refine TR.seq ?_
  refine TR.region ?_
  refine RL.ofGV rfl rfl (GV.next 1 rfl rfl) (fun nx => ?_)
  obtain ⟨_ | nx, hnx⟩ := nx
  · skip
    refine RL.extract rfl rfl rfl rfl ?_
    refine RL.nil ?_
    refine NX.seq ?_
    refine TR.seq ?_
    refine TR.condF rfl ?_
    refine TR.exit ?_
    refine NX.exitThen ?_
    refine NX.exitThen ?_
    refine NX.exitHere ?_
    have hl : x.1 = [] := hnx
    refine NX.end0 () rfl rfl (fun w hw => ?_)
    have h9 : St w (Box b 92 (dkC s) :: MpB s.m (fsV (hardBut s.fs x.1)) :: M) F := hw
    rw [hl, hardBut_none] at h9
    exact h9
  · skip
    refine RL.extract rfl rfl rfl rfl ?_
    refine RL.nil ?_
    refine NX.seq ?_
    refine TR.seq ?_
    refine TR.condT rfl ?_
    refine TR.skip ?_
    refine NX.seq ?_
    refine TR.block ?_
    refine TR.seq ?_
    refine TR.region ?_
    obtain ⟨nk, nv⟩ := nx
    obtain ⟨f, hf0, hfv⟩ := fsV_mem hnx.2
    have hfv2 : nv = flV f := hfv
    subst hfv2
    have hf : (nk, f) ∈ s.fs := hardBut_left hf0 hnx.1
    have hnk : I64 nk := by have := hok.fits _ hf; exact ⟨by omega, by omega⟩
    refine RL.entry 1 rfl rfl rfl hnx.2 rfl ?_
    refine RL.extract rfl rfl rfl rfl ?_
    refine RL.extract rfl rfl rfl rfl ?_
    refine RL.allocA rfl (Try.zeroValue101) rfl (fun b1 => ?_)
    refine RL.assign rfl rfl rfl ?_
    refine RL.storeA 0 rfl rfl rfl rfl xa_tz101 rfl rfl ?_
    refine RL.nil ?_
    refine NX.seq ?_
    refine TR.sub (E' := [(0, _), (2, _), (3, _), (8, _), (9, _), (10, _), (11, _), (12, _), (13, _)]) ⟨rfl, rfl, rfl, rfl, rfl, rfl, rfl, rfl, rfl, trivial⟩ ?_
    refine TR.draw mixed ?_
    apply AR.more [(0, _), (1, _), (2, _), (3, _), (4, _), (5, _), (6, _), (7, _), (8, _), (9, _), (10, _)]
    refine AR.eff [0, 1, 2, 3, 4, 5, 6, 7, 8, 9, 10] 11 [0, 1, 2, 3, 4, 5, 6, 7, 8, 9, 10, 11] ⟨QOne.yes rfl rfl rfl (PV.move rfl), QOne.yes rfl rfl rfl (PV.nilCheck rfl), QOne.yes rfl rfl rfl (PV.fieldAddr xa_tf92_0 rfl), QOne.yes rfl rfl rfl (PV.load1 1 xa_ts90 rfl rfl rfl), QOne.yes rfl rfl rfl (PV.move rfl), QOne.yes rfl rfl rfl (PV.fieldAddr xa_tf101_0 rfl), QOne.yes rfl rfl rfl (PV.load1 0 xa_ts23 rfl rfl rfl), QOne.yes rfl rfl rfl (PV.fieldAddr xa_tf101_0 rfl), QOne.yes rfl rfl rfl (PV.load1 0 xa_ts23 rfl rfl rfl), QOne.yes rfl rfl rfl (PV.lenSlice xa_tl23 rfl), QOne.yes rfl rfl rfl (PV.build rfl (xa_bv101_0_1 _ _ _ _)), trivial⟩ rfl rfl rfl rfl rfl rfl rfl (EV.rangeUpdate 2 xa_tm90 rfl rfl rfl hnk rfl (hardBut_in hf)) (fun _ => ?_)
    refine AR.done [3, 4, 10, 0, 1, 2, 5, 6, 7, 8, 9] rfl ?_
    refine AR.last [] [0, 1, 2, 3, 4, 5, 6, 7, 8, 9, 10, 11] trivial rfl rfl rfl ?_
    refine NX.sub (E' := [(0, _), (2, _), (3, _), (8, _), (9, _), (10, _), (11, _), (12, _), (13, _), (14, _), (15, _), (16, _), (17, _), (18, _), (19, _), (20, _), (21, _), (22, _), (23, _), (24, _)]) ⟨rfl, rfl, rfl, rfl, rfl, rfl, rfl, rfl, rfl, rfl, rfl, rfl, rfl, rfl, rfl, rfl, rfl, rfl, rfl, rfl, trivial⟩ ?_
    refine NX.off ?_
    refine NX.roundP (x.1.filter fun y => !decide (y = nk), none) ⟨left_nodup hx.1, trivial⟩ (left_lt hnx.1) ⟨rfl, rfl, trivial⟩ (fun w hw => ?_)
    have h9 : St w (Box b 92 (dkC s) :: RgB s.m q (kvSet (fsV (hardBut s.fs x.1)) nk (flV (hardF f))) (x.1.filter fun y => !decide (y = nk)) none :: M) F := hw.drop 0 rfl
    rw [fsV_set, hardBut_step hok.keys hf] at h9
    exact h9

end Go.Proofs.Ytdlpaojkkekdlaa
