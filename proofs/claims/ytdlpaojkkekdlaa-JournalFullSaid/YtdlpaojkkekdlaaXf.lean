/- Walks of functions of the program. Printed by sx.py. -/
import Derived.Test.YtdlpaojkkekdlaaXe
namespace Go.Proofs.Ytdlpaojkkekdlaa
open Go.GL
set_option linter.unusedVariables false
theorem xf_tp36 : tyPtr Try.prog 36 92 = true := by kernel_rfl
theorem open_nil {n : Int} {M : List HP} {F : List Fact} : Ctr Try.prog 22 [.pointer none, I n] M F Unit (fun _ => .tuple #[.pointer none, .slice none 0 0, I 1]) (fun _ => M) (fun _ => F) := by
  refine Ctr.body Try.func22 rfl rfl ?_
  refine TR.seq ?_
  refine TR.region ?_
  refine RL.assign rfl rfl rfl ?_
  refine RL.assign rfl rfl rfl ?_
  refine RL.assign rfl rfl rfl ?_
  refine RL.nil ?_
  refine NX.seq ?_
  refine TR.seq ?_
  refine TR.seq ?_
  refine TR.region ?_
  refine RL.move rfl rfl rfl ?_
  refine RL.bin rfl rfl rfl (BinV.eqlPtrNil xf_tp36) rfl ?_
  refine RL.nil ?_
  refine NX.seq ?_
  refine TR.condT rfl ?_
  refine TR.seq ?_
  refine TR.region ?_
  refine RL.assign rfl rfl rfl ?_
  refine RL.assign rfl rfl rfl ?_
  refine RL.assign rfl rfl rfl ?_
  refine RL.nil ?_
  refine NX.seq ?_
  refine TR.ret ?_
  refine NX.retThen ?_
  exact NX.ret3 () rfl rfl rfl rfl rfl (fun w hw => hw)

theorem open_bad {n : Int} {b : Nat} {s : Ds} {M : List HP} {F : List Fact} (hth : ¬ there n) (hn64 : I64 n) (hok : OkF s.fs) (hA : AllF s.fs ∈ F) (hu : used s.fs ≤ 16777216) : Ctr Try.prog 22 [.pointer (some ⟨b, 0, none⟩), I n] (Box b 92 (dkC (s)) :: MpB (s).m (fsV (s).fs) :: M) F Unit (fun _ => .tuple #[.pointer none, .slice none 0 0, I 1]) (fun _ => Box b 92 (dkC (s)) :: MpB (s).m (fsV (s).fs) :: M) (fun _ => F) := by
  refine Ctr.body Try.func22 rfl rfl ?_
  refine TR.seq ?_
  refine TR.region ?_
  refine RL.assign rfl rfl rfl ?_
  refine RL.assign rfl rfl rfl ?_
  refine RL.assign rfl rfl rfl ?_
  refine RL.nil ?_
  refine NX.seq ?_
  refine TR.seq ?_
  refine TR.seq ?_
  refine TR.region ?_
  refine RL.move rfl rfl rfl ?_
  refine RL.bin rfl rfl rfl (BinV.eqlPtrNil xf_tp36) rfl ?_
  refine RL.nil ?_
  refine NX.seq ?_
  refine TR.condF rfl ?_
  refine TR.skip ?_
  refine NX.seq ?_
  refine TR.seq ?_
  refine TR.region ?_
  refine RL.move rfl rfl rfl ?_
  refine RL.move rfl rfl rfl ?_
  refine RL.call rfl rfl Try.call52 rfl (read_dspec hok hA (by omega) hn64) (fun y => ?_)
  rw [show readE s n = 1 from by unfold readE; rw [if_pos hth]]
  refine RL.weak (fun w hw => hw.drop 0 rfl) ?_
  refine RL.move rfl rfl rfl ?_
  refine RL.extract rfl rfl rfl rfl ?_
  refine RL.extract rfl rfl rfl rfl ?_
  refine RL.assign rfl rfl rfl ?_
  refine RL.assign rfl rfl rfl ?_
  refine RL.nil ?_
  refine NX.seq ?_
  refine TR.seq ?_
  refine TR.seq ?_
  refine TR.region ?_
  refine RL.move rfl rfl rfl ?_
  refine RL.bin rfl rfl rfl (BinV.to (d := true) BinV.neq (by simp)) rfl ?_
  refine RL.nil ?_
  refine NX.seq ?_
  refine TR.condT rfl ?_
  refine TR.seq ?_
  refine TR.region ?_
  refine RL.move rfl rfl rfl ?_
  refine RL.assign rfl rfl rfl ?_
  refine RL.assign rfl rfl rfl ?_
  refine RL.assign rfl rfl rfl ?_
  refine RL.nil ?_
  refine NX.seq ?_
  refine TR.ret ?_
  refine NX.retThen ?_
  exact NX.ret3 () rfl rfl rfl rfl rfl (fun w hw => hw)

theorem fresh_spec {k : Nat} {M : List HP} {F : List Fact} (hk : k ≤ 16777216) : Ctr Try.prog 21 [I k] M F (Nat × Nat) (fun z => .pointer (some ⟨z.1, 0, none⟩)) (fun z => Box z.1 92 (dkC ⟨z.2, [], k, false, false, 0⟩) :: MpB z.2 (fsV []) :: M) (fun _ => F) := by
  refine Ctr.body Try.func21 rfl rfl ?_
  refine TR.seq ?_
  refine TR.region ?_
  refine RL.assign rfl rfl rfl ?_
  refine RL.nil ?_
  refine NX.seq ?_
  refine TR.seq ?_
  refine TR.region ?_
  refine RL.move rfl rfl rfl ?_
  refine RL.call rfl rfl Try.call51 rfl (new_ok hk) (fun z => ?_)
  refine RL.move rfl rfl rfl ?_
  refine RL.extract rfl rfl rfl rfl ?_
  refine RL.extract rfl rfl rfl rfl ?_
  refine RL.assign rfl rfl rfl ?_
  refine RL.assign rfl rfl rfl ?_
  refine RL.nil ?_
  refine NX.seq ?_
  refine TR.seq ?_
  refine TR.seq ?_
  refine TR.region ?_
  refine RL.move rfl rfl rfl ?_
  refine RL.bin rfl rfl rfl (BinV.to (d := false) BinV.neq (by simp)) rfl ?_
  refine RL.nil ?_
  refine NX.seq ?_
  refine TR.condF rfl ?_
  refine TR.skip ?_
  refine NX.seq ?_
  refine TR.seq ?_
  refine TR.region ?_
  refine RL.move rfl rfl rfl ?_
  refine RL.assign rfl rfl rfl ?_
  refine RL.nil ?_
  refine NX.seq ?_
  refine TR.ret ?_
  exact NX.ret1 z rfl rfl rfl (fun w hw => hw)

end Go.Proofs.Ytdlpaojkkekdlaa
