/- Walks of functions of the program. Printed by sx.py. -/
import Derived.Test.YtdlpaojkkekdlaaXd
namespace Go.Proofs.Ytdlpaojkkekdlaa
open Go.GL
set_option linter.unusedVariables false
theorem xe_bv88_0_1_2 (x0 : Option Addr) (x1 : Int) (x2 : Int) : BuildV Try.prog 88 [(0, .pointer x0), (1, .int .i64 x1), (2, .int .i64 x2)] (.agg #[.pointer x0, .int .i64 x1, .int .i64 x2, .bool false]) := fun w => by kernel_rfl
theorem xe_tl23 : tySlice Try.prog 23 5 = true := by kernel_rfl
theorem xe_tl27 : tySlice Try.prog 27 23 = true := by kernel_rfl
theorem xe_tp36 : tyPtr Try.prog 36 92 = true := by kernel_rfl
set_option maxHeartbeats 1000000 in
theorem open_calm {n : Int} {b : Nat} {s : Ds} {M : List HP} {F : List Fact} (hcalm : CalmD s) (hth : there n) (hok : OkF s.fs) (hA : AllF s.fs ∈ F) (hu : used s.fs ≤ 16777216) (h0 : -9223372036854775000 ≤ s.left ∧ s.left ≤ 9223372036854775807) : Ctr Try.prog 22 [.pointer (some ⟨b, 0, none⟩), I n] (Box b 92 (dkC (s)) :: MpB (s).m (fsV (s).fs) :: M) F {z : Nat × LsX // z.2.ps.map Prod.fst = scanJ 0 (fget s.fs n).b ∧ ∀ p, p ∈ z.2.ps → p.1.length ≤ p.2.c} (fun z => .tuple #[.pointer (some ⟨z.1.1, 0, none⟩), .slice z.1.2.oa z.1.2.ps.length z.1.2.c, I 0]) (fun z => Box z.1.1 88 (lgC b ⟨n, z.1.2.ps.length, false⟩) :: OwnSl 23 1 z.1.2.oa z.1.2.ps.length z.1.2.c (listV z.1.2.ps) :: Box b 92 (dkC ({ s with fs := openFs s n })) :: MpB ({ s with fs := openFs s n }).m (fsV ({ s with fs := openFs s n }).fs) :: M) (fun z => AllB z.1.2.ps :: AllF (openFs s n) :: F) := by
  refine Ctr.body Try.func22 rfl rfl ?_
  refine TR.seq ?_
  refine TR.region ?_
  refine RL.assign rfl rfl rfl ?_
  refine RL.assign rfl rfl rfl ?_
  refine RL.assign rfl rfl rfl ?_
  refine RL.nil ?_
  refine NX.seq ?_
  refine TR.seq ?_
  refine TR.seq ?_
  refine TR.region ?_
  have hcr := hcalm.read hth
  have hn64 : I64 n := ⟨by have := hth.1; omega, by have := hth.2; omega⟩
  have hfu := fget_used s.fs n
  have hsl := scan_le (b := (fget s.fs n).b)
  refine RL.move rfl rfl rfl ?_
  refine RL.bin rfl rfl rfl (BinV.eqlPtrNil xe_tp36) rfl ?_
  refine RL.nil ?_
  refine NX.seq ?_
  refine TR.condF rfl ?_
  refine TR.skip ?_
  refine NX.seq ?_
  refine TR.seq ?_
  refine TR.region ?_
  refine RL.move rfl rfl rfl ?_
  refine RL.move rfl rfl rfl ?_
  refine RL.call rfl rfl Try.call52 rfl (read_dspec hok hA (by omega) hn64) (fun y => ?_)
  rw [hcr.1, hcr.2]
  refine RL.open1 (fun w hw => ⟨hw.ownLen.2, hw⟩) (fun hyc => ?_)
  refine RL.weak (fun w hw => hw.keepSl) ?_
  refine RL.move rfl rfl rfl ?_
  refine RL.extract rfl rfl rfl rfl ?_
  refine RL.extract rfl rfl rfl rfl ?_
  refine RL.assign rfl rfl rfl ?_
  refine RL.assign rfl rfl rfl ?_
  refine RL.nil ?_
  refine NX.seq ?_
  refine TR.seq ?_
  refine TR.seq ?_
  refine TR.region ?_
  refine RL.move rfl rfl rfl ?_
  refine RL.bin rfl rfl rfl (BinV.to (d := false) BinV.neq (decide_eq_false (by simp))) rfl ?_
  refine RL.nil ?_
  refine NX.seq ?_
  refine TR.condF rfl ?_
  refine TR.skip ?_
  refine NX.seq ?_
  refine TR.seq ?_
  refine TR.region ?_
  refine RL.move rfl rfl rfl ?_
  refine RL.call rfl rfl Try.call16 rfl (scan_spec (b := (fget s.fs n).b) (.head _) hyc (by omega)) (fun S => ?_)
  refine RL.move rfl rfl rfl ?_
  refine RL.extract rfl rfl rfl rfl ?_
  refine RL.extract rfl rfl rfl rfl ?_
  refine RL.assign rfl rfl rfl ?_
  refine RL.assign rfl rfl rfl ?_
  refine RL.nil ?_
  refine NX.seq ?_
  refine TR.seq ?_
  refine TR.seq ?_
  refine TR.region ?_
  refine RL.move rfl rfl rfl ?_
  refine RL.move rfl rfl rfl ?_
  refine RL.lenSlice rfl xe_tl23 rfl rfl ?_
  refine RL.bin rfl rfl rfl BinV.lss rfl ?_
  refine RL.nil ?_
  refine NX.seq ?_
  refine TR.cond rfl (fun h1 => ?_) (fun h1 => ?_)
  · skip
    have hlt : (framesJ 0 (scanJ 0 (fget s.fs n).b)).length < (fget s.fs n).b.length := by have := of_decide_eq_true h1; omega
    have htb : ¬ truncBad s n ((framesJ 0 (scanJ 0 (fget s.fs n).b)).length : Nat) := fun h => h.elim (fun h => h hth) (fun h => h.elim (by omega) (by omega))
    have htc := hcalm.trunc htb
    refine TR.region ?_
    refine RL.move rfl rfl rfl ?_
    refine RL.move rfl rfl rfl ?_
    refine RL.move rfl rfl rfl ?_
    refine RL.call rfl rfl Try.call53 rfl (Ctr.frame (J := [Box b 92 (dkC (s)), MpB (s).m (fsV (s).fs)]) (J' := fun _ : Unit => [Box b 92 (dkC (truncS s n (framesJ 0 (scanJ 0 (fget s.fs n).b)).length)), MpB (truncS s n (framesJ 0 (scanJ 0 (fget s.fs n).b)).length).m (fsV (truncS s n (framesJ 0 (scanJ 0 (fget s.fs n).b)).length).fs)]) [_] (trunc_spec (n := n) (k := ((framesJ 0 (scanJ 0 (fget s.fs n).b)).length : Nat)) hok (by first | exact hA | exact .tail _ hA | exact .tail _ (.tail _ hA) | exact .tail _ (.tail _ (.tail _ hA)) | exact .tail _ (.tail _ (.tail _ (.tail _ hA)))) hn64 (by omega))) (fun _ => ?_)
    rw [htc.1, htc.2]
    refine RL.assign rfl rfl rfl ?_
    refine RL.nil ?_
    refine NX.seq ?_
    refine TR.seq ?_
    refine TR.seq ?_
    refine TR.region ?_
    refine RL.move rfl rfl rfl ?_
    refine RL.bin rfl rfl rfl (BinV.to (d := true) BinV.eql (decide_eq_true rfl)) rfl ?_
    refine RL.nil ?_
    refine NX.seq ?_
    refine TR.condT rfl ?_
    refine TR.region ?_
    refine RL.move rfl rfl rfl ?_
    refine RL.call rfl rfl Try.call54 rfl (Ctr.frame (J := [Box b 92 (dkC ({ s with fs := setF s.fs n (truncF s n (framesJ 0 (scanJ 0 (fget s.fs n).b)).length) })), MpB ({ s with fs := setF s.fs n (truncF s n (framesJ 0 (scanJ 0 (fget s.fs n).b)).length) }).m (fsV ({ s with fs := setF s.fs n (truncF s n (framesJ 0 (scanJ 0 (fget s.fs n).b)).length) }).fs)]) (J' := fun _ : Unit => [Box b 92 (dkC (syncS ({ s with fs := setF s.fs n (truncF s n (framesJ 0 (scanJ 0 (fget s.fs n).b)).length) }))), MpB (syncS ({ s with fs := setF s.fs n (truncF s n (framesJ 0 (scanJ 0 (fget s.fs n).b)).length) })).m (fsV (syncS ({ s with fs := setF s.fs n (truncF s n (framesJ 0 (scanJ 0 (fget s.fs n).b)).length) })).fs)]) [_] (sync_spec (s := { s with fs := setF s.fs n (truncF s n (framesJ 0 (scanJ 0 (fget s.fs n).b)).length) }) (OkF.setF hok hth (truncF_ok hok n _)) (by show _ ≤ s.left ∧ s.left ≤ _; omega))) (fun _ => ?_)
    have hsy := CalmD.sync (s := { s with fs := setF s.fs n (truncF s n (framesJ 0 (scanJ 0 (fget s.fs n).b)).length) }) ⟨hcalm.off, hcalm.armed⟩
    rw [hsy.1, hsy.2]
    refine RL.assign rfl rfl rfl ?_
    refine RL.nil ?_
    refine NX.seq ?_
    refine TR.seq ?_
    refine TR.seq ?_
    refine TR.region ?_
    refine RL.move rfl rfl rfl ?_
    refine RL.bin rfl rfl rfl (BinV.to (d := false) BinV.neq (decide_eq_false (by simp))) rfl ?_
    refine RL.nil ?_
    refine NX.seq ?_
    refine TR.condF rfl ?_
    refine TR.skip ?_
    refine NX.seq ?_
    refine TR.seq ?_
    refine TR.region ?_
    refine RL.move rfl rfl rfl ?_
    refine RL.move rfl rfl rfl ?_
    refine RL.move rfl rfl rfl ?_
    refine RL.lenSlice rfl xe_tl27 rfl rfl ?_
    refine RL.build rfl rfl (xe_bv88_0_1_2 _ _ _) rfl ?_
    refine RL.boxA rfl rfl rfl (fun b2 => ?_)
    refine RL.move rfl rfl rfl ?_
    refine RL.assign rfl rfl rfl ?_
    refine RL.assign rfl rfl rfl ?_
    refine RL.assign rfl rfl rfl ?_
    refine RL.nil ?_
    refine NX.seq ?_
    refine TR.ret ?_
    refine NX.ret3 (⟨(b2, S.1), S.2⟩ : {z : Nat × LsX // z.2.ps.map Prod.fst = scanJ 0 (fget s.fs n).b ∧ ∀ p, p ∈ z.2.ps → p.1.length ≤ p.2.c}) rfl rfl rfl rfl rfl (fun w hw => ?_)
    have e9 : openFs s n = hard (setF s.fs n (truncF s n (framesJ 0 (scanJ 0 (fget s.fs n).b)).length)) := by unfold openFs; rw [if_pos hlt]
    rw [e9]
    refine (St.hardF (fs := setF s.fs n (truncF s n (framesJ 0 (scanJ 0 (fget s.fs n).b)).length)) ?_ hw).facts ?_
    · exact .head _
    · intro φ h
      rcases List.mem_cons.1 h with e1 | h
      · exact e1 ▸ .tail _ (.tail _ (.head _))
      rcases List.mem_cons.1 h with e1 | h
      · exact e1 ▸ .head _
      exact .tail _ (.tail _ (.tail _ (.tail _ h)))
  · skip
    have hlt : ¬ (framesJ 0 (scanJ 0 (fget s.fs n).b)).length < (fget s.fs n).b.length := by have := of_decide_eq_false h1; omega
    refine TR.skip ?_
    refine NX.seq ?_
    refine TR.seq ?_
    refine TR.seq ?_
    refine TR.region ?_
    refine RL.move rfl rfl rfl ?_
    refine RL.bin rfl rfl rfl (BinV.to (d := true) BinV.eql (decide_eq_true rfl)) rfl ?_
    refine RL.nil ?_
    refine NX.seq ?_
    refine TR.condT rfl ?_
    refine TR.region ?_
    refine RL.move rfl rfl rfl ?_
    refine RL.call rfl rfl Try.call54 rfl (Ctr.frame (J := [Box b 92 (dkC (s)), MpB (s).m (fsV (s).fs)]) (J' := fun _ : Unit => [Box b 92 (dkC (syncS s)), MpB (syncS s).m (fsV (syncS s).fs)]) [_] (sync_spec (s := s) hok (by omega))) (fun _ => ?_)
    have hsy := CalmD.sync hcalm
    rw [hsy.1, hsy.2]
    refine RL.assign rfl rfl rfl ?_
    refine RL.nil ?_
    refine NX.seq ?_
    refine TR.seq ?_
    refine TR.seq ?_
    refine TR.region ?_
    refine RL.move rfl rfl rfl ?_
    refine RL.bin rfl rfl rfl (BinV.to (d := false) BinV.neq (decide_eq_false (by simp))) rfl ?_
    refine RL.nil ?_
    refine NX.seq ?_
    refine TR.condF rfl ?_
    refine TR.skip ?_
    refine NX.seq ?_
    refine TR.seq ?_
    refine TR.region ?_
    refine RL.move rfl rfl rfl ?_
    refine RL.move rfl rfl rfl ?_
    refine RL.move rfl rfl rfl ?_
    refine RL.lenSlice rfl xe_tl27 rfl rfl ?_
    refine RL.build rfl rfl (xe_bv88_0_1_2 _ _ _) rfl ?_
    refine RL.boxA rfl rfl rfl (fun b3 => ?_)
    refine RL.move rfl rfl rfl ?_
    refine RL.assign rfl rfl rfl ?_
    refine RL.assign rfl rfl rfl ?_
    refine RL.assign rfl rfl rfl ?_
    refine RL.nil ?_
    refine NX.seq ?_
    refine TR.ret ?_
    refine NX.ret3 (⟨(b3, S.1), S.2⟩ : {z : Nat × LsX // z.2.ps.map Prod.fst = scanJ 0 (fget s.fs n).b ∧ ∀ p, p ∈ z.2.ps → p.1.length ≤ p.2.c}) rfl rfl rfl rfl rfl (fun w hw => ?_)
    have e9 : openFs s n = hard s.fs := by unfold openFs; rw [if_neg hlt]
    rw [e9]
    exact (St.hardF (fs := s.fs) (by first | exact hA | exact .tail _ hA | exact .tail _ (.tail _ hA) | exact .tail _ (.tail _ (.tail _ hA)) | exact .tail _ (.tail _ (.tail _ (.tail _ hA)))) hw).facts (fun φ h => by
      rcases List.mem_cons.1 h with e1 | h
      · exact e1 ▸ .tail _ (.head _)
      rcases List.mem_cons.1 h with e1 | h
      · exact e1 ▸ .head _
      exact .tail _ (.tail _ (.tail _ h)))

end Go.Proofs.Ytdlpaojkkekdlaa
