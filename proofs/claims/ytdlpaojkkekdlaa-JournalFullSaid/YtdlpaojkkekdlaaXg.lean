/- Walks of functions of the program. Printed by sx.py. -/
import Derived.Test.YtdlpaojkkekdlaaXf
import Derived.Test.YtdlpaojkkekdlaaMks
namespace Go.Proofs.Ytdlpaojkkekdlaa
open Go.GL
set_option linter.unusedVariables false
theorem xg_bs27_1_0 (x0 : Option Addr) (x0n x0c : Nat) : BuildSV Try.prog 27 23 1 [(0, .slice x0 x0n x0c)] [.slice x0 x0n x0c] := fun w => by kernel_rfl
theorem xg_ni27 : noInt Try.prog 27 = true := by kernel_rfl
theorem xg_te23 : tyElem Try.prog 23 1 24 = true := by kernel_rfl
theorem xg_tl23 : tySlice Try.prog 23 5 = true := by kernel_rfl
theorem xg_tl27 : tySlice Try.prog 27 23 = true := by kernel_rfl
theorem xg_tmk23 : tyMk Try.prog 23 5 = true := by kernel_rfl
theorem xg_tp36 : tyPtr Try.prog 36 92 = true := by kernel_rfl
theorem xg_tp38 : tyPtr Try.prog 38 88 = true := by kernel_rfl
theorem xg_ts23 : tyScalar Try.prog 23 = true := by kernel_rfl
theorem xg_tz23 : tySize Try.prog 23 1 = true := by kernel_rfl
structure FuX where
  ks : List Rc
  oa : Option Addr
  c : Nat
  i : Nat
  fs : Fs

set_option maxHeartbeats 2000000 in
theorem law_full {n : Int} {xs : List Int} {oa : Option Addr} {ca : Nat} {M : List HP} {F : List Fact} (hn : -9223372036854775808 ≤ n ∧ n ≤ 9223372036854775807) (ha : ArrF oa (ints xs) ∈ F) (hxs : IntsOk xs) : Ctr Try.prog 7 [I n, .slice oa xs.length ca] M F Unit (fun _ => .bool true) (fun _ => M) (fun _ => F) := by
  refine Ctr.body Try.func7 rfl rfl ?_
  refine TR.seq ?_
  refine TR.region ?_
  refine RL.assign rfl rfl rfl ?_
  refine RL.nil ?_
  refine NX.seq ?_
  refine TR.seq ?_
  refine TR.region ?_
  refine RL.move rfl rfl rfl ?_
  refine RL.call rfl rfl Try.call20 rfl (around_spec (by omega) hn.1 hn.2) (fun r0 => ?_)
  obtain ⟨r, hr⟩ := r0
  obtain ⟨k, hk⟩ : ∃ k : Nat, r = k := ⟨r.toNat, by omega⟩
  subst hk
  refine RL.assign rfl rfl rfl ?_
  refine RL.nil ?_
  refine NX.seq ?_
  refine TR.seq ?_
  refine TR.region ?_
  refine RL.move rfl rfl rfl ?_
  refine RL.call rfl rfl Try.call21 rfl (fresh_spec (k := k) (by omega)) (fun z => ?_)
  refine RL.assign rfl rfl rfl ?_
  refine RL.nil ?_
  refine NX.seq ?_
  refine TR.seq ?_
  refine TR.seq ?_
  refine TR.region ?_
  refine RL.move rfl rfl rfl ?_
  refine RL.bin rfl rfl rfl (BinV.eqlPtrNil xg_tp36) rfl ?_
  refine RL.nil ?_
  refine NX.seq ?_
  refine TR.condF rfl ?_
  refine TR.skip ?_
  refine NX.seq ?_
  refine TR.seq ?_
  refine TR.weak (fun w hw => hw.derive (ψ := AllF []) (fun K hf p hp => absurd hp (by simp))) ?_
  refine TR.region ?_
  refine RL.move rfl rfl rfl ?_
  refine RL.call rfl rfl Try.call22 rfl (open_calm (n := 63) (s := (⟨z.2, [], k, false, false, 0⟩ : Ds)) ⟨rfl, rfl⟩ (by decide) OkF.nil (.head _) (by show (0 : Nat) ≤ 16777216; decide) ⟨by show (-9223372036854775000 : Int) ≤ 0; decide, by show (0 : Int) ≤ 9223372036854775807; decide⟩) (fun zo => ?_)
  have hps : zo.1.2.ps = [] := by have h9 : zo.1.2.ps.map Prod.fst = scanJ 0 [] := zo.2.1; rw [scanJ_nil] at h9; exact List.map_eq_nil_iff.1 h9
  have hof : openFs (⟨z.2, [], k, false, false, 0⟩ : Ds) 63 = [] := by unfold openFs; rw [show (fget (⟨z.2, [], k, false, false, 0⟩ : Ds).fs 63).b = [] from rfl, scanJ_nil]; rfl
  refine RL.weak (M' := Box zo.1.1 88 (lgC z.1 ⟨63, 0, false⟩) :: Box z.1 92 (dkC (⟨z.2, [], k, false, false, 0⟩ : Ds)) :: MpB ((⟨z.2, [], k, false, false, 0⟩ : Ds)).m (fsV ((⟨z.2, [], k, false, false, 0⟩ : Ds)).fs) :: M) (F' := AllF [] :: F) (fun w hw => by
    have h9 := hw.drop 1 rfl
    rw [hof, hps] at h9
    exact h9.facts (fun φ h => by
      rcases List.mem_cons.1 h with e1 | h
      · exact e1 ▸ .tail _ (.head _)
      exact .tail _ (.tail _ (.tail _ h)))) ?_
  refine RL.move rfl rfl rfl ?_
  refine RL.extract rfl rfl rfl rfl ?_
  refine RL.extract rfl rfl rfl rfl ?_
  refine RL.extract rfl rfl rfl rfl ?_
  refine RL.assign rfl rfl rfl ?_
  refine RL.assign rfl rfl rfl ?_
  refine RL.assign rfl rfl rfl ?_
  refine RL.nil ?_
  refine NX.seq ?_
  refine TR.seq ?_
  refine TR.seq ?_
  refine TR.region ?_
  refine RL.move rfl rfl rfl ?_
  refine RL.bin rfl rfl rfl (BinV.eqlPtrNil xg_tp38) rfl ?_
  refine RL.move rfl rfl rfl ?_
  refine RL.move rfl rfl rfl ?_
  refine RL.bin rfl rfl rfl (BinV.to (d := false) BinV.neq (by simp)) rfl ?_
  refine RL.pickF rfl rfl rfl rfl ?_
  refine RL.nil ?_
  refine NX.seq ?_
  refine TR.condF rfl ?_
  refine TR.skip ?_
  refine NX.seq ?_
  refine TR.seq ?_
  refine TR.region ?_
  refine RL.move rfl rfl rfl ?_
  refine RL.call rfl rfl Try.call15 rfl (records_spec2 (by first | exact ha | exact .tail _ ha | exact .tail _ (.tail _ ha) | exact .tail _ (.tail _ (.tail _ ha)) | exact .tail _ (.tail _ (.tail _ (.tail _ ha))) | exact .tail _ (.tail _ (.tail _ (.tail _ (.tail _ ha)))) | exact .tail _ (.tail _ (.tail _ (.tail _ (.tail _ (.tail _ ha)))))) hxs) (fun X => ?_)
  refine RL.weak (fun w hw => hw.keepSl) ?_
  refine RL.assign rfl rfl rfl ?_
  refine RL.nil ?_
  refine NX.seq ?_
  refine TR.seq ?_
  refine TR.region ?_
  refine RL.assign rfl rfl rfl ?_
  refine RL.nil ?_
  refine NX.seq ?_
  refine TR.seq ?_
  refine TR.seq ?_
  refine TR.region ?_
  refine RL.assign rfl rfl rfl ?_
  refine RL.weak (fun w hw => OwnSl.nil_new 23 1 hw.allB_nil) ?_
  refine RL.nil ?_
  refine NX.seq ?_
  refine TR.block ?_
  refine TR.loopP (ι := FuX) (fun x => x.i ≤ X.1.ps.length ∧ x.ks.length ≤ x.i ∧ OkF x.fs ∧ (fget x.fs 63).b = framesJ 0 (x.ks.map Prod.fst) ∧ used x.fs = (framesJ 0 (x.ks.map Prod.fst)).length ∧ used x.fs ≤ k ∧ ∀ p, p ∈ x.ks → p.1.length ≤ 11) (fun x => [(5, I k), (6, .pointer (some ⟨z.1, 0, none⟩)), (7, .pointer (some ⟨zo.1.1, 0, none⟩)), (10, .slice X.1.oa X.1.ps.length X.1.c), (11, .slice x.oa x.ks.length x.c), (12, I x.i)]) (fun x => OwnSl 23 1 x.oa x.ks.length x.c (listV x.ks) :: Box zo.1.1 88 (lgC z.1 (⟨63, x.ks.length, false⟩ : Lg)) :: Box z.1 92 (dkC (⟨z.2, x.fs, k, false, false, 0⟩ : Ds)) :: MpB ((⟨z.2, x.fs, k, false, false, 0⟩ : Ds)).m (fsV ((⟨z.2, x.fs, k, false, false, 0⟩ : Ds)).fs) :: M) (fun x => AllB x.ks :: AllF x.fs :: ArrF X.1.oa (listV X.1.ps) :: AllB X.1.ps :: F) (fun x => X.1.ps.length - x.i) ⟨[], none, 0, 0, []⟩ ⟨Nat.zero_le _, Nat.zero_le _, OkF.nil, rfl, rfl, Nat.zero_le _, fun p hp => absurd hp (by simp)⟩ ⟨rfl, rfl, rfl, rfl, rfl, rfl, trivial⟩ (fun w hw => (hw.facts (fun φ h => by
      rcases List.mem_cons.1 h with e1 | h
      · exact e1 ▸ .head _
      rcases List.mem_cons.1 h with e1 | h
      · exact e1 ▸ .tail _ (.tail _ (.tail _ (.head _)))
      rcases List.mem_cons.1 h with e1 | h
      · exact e1 ▸ .tail _ (.head _)
      rcases List.mem_cons.1 h with e1 | h
      · exact e1 ▸ .tail _ (.tail _ (.head _))
      exact .tail _ (.tail _ (.tail _ (.tail _ h)))))) (fun x hx => ?_)
  refine TR.seq ?_
  refine TR.seq ?_
  refine TR.region ?_
  refine RL.move rfl rfl rfl ?_
  refine RL.move rfl rfl rfl ?_
  refine RL.lenSlice rfl xg_tl27 rfl rfl ?_
  refine RL.bin rfl rfl rfl BinV.lss rfl ?_
  refine RL.nil ?_
  refine NX.seq ?_
  refine TR.cond rfl (fun h1 => ?_) (fun h1 => ?_)
  · skip
    have hk1 : x.i < X.1.ps.length := by have := of_decide_eq_true h1; omega
    have hX6 := X.2.1
    have hrow := (X.2.2 _ (List.getElem_mem hk1)).1
    have hlf : (lgFr (⟨63, x.ks.length, false⟩ : Lg) X.1.ps[x.i].1).length ≤ X.1.ps[x.i].1.length + 40 := (frameJ_len (i := (x.ks.length : Int)) (by have := hx.2.1; omega) (by have := hx.2.1; have := hx.1; omega) (by omega)).1
    have huk := hx.2.2.2.2.2.1
    have hus : used (⟨z.2, x.fs, k, false, false, 0⟩ : Ds).fs = used x.fs := rfl
    have hgl := hx.2.1
    refine TR.weak (fun w hw => hw.allB_get (ps := X.1.ps) (by first | exact .head _ | exact .tail _ (.head _) | exact .tail _ (.tail _ (.head _)) | exact .tail _ (.tail _ (.tail _ (.head _))) | exact .tail _ (.tail _ (.tail _ (.tail _ (.head _)))) | exact .tail _ (.tail _ (.tail _ (.tail _ (.tail _ (.head _))))) | exact .tail _ (.tail _ (.tail _ (.tail _ (.tail _ (.tail _ (.head _)))))) | exact .tail _ (.tail _ (.tail _ (.tail _ (.tail _ (.tail _ (.tail _ (.head _))))))) | exact .tail _ (.tail _ (.tail _ (.tail _ (.tail _ (.tail _ (.tail _ (.tail _ (.head _)))))))) | exact .tail _ (.tail _ (.tail _ (.tail _ (.tail _ (.tail _ (.tail _ (.tail _ (.tail _ (.head _))))))))) | exact .tail _ (.tail _ (.tail _ (.tail _ (.tail _ (.tail _ (.tail _ (.tail _ (.tail _ (.tail _ (.head _))))))))))) (List.getElem_mem hk1)) ?_
    refine TR.openP (open_arr (oa := X.1.oa) (xs := listV X.1.ps) (by first | exact .head _ | exact .tail _ (.head _) | exact .tail _ (.tail _ (.head _)) | exact .tail _ (.tail _ (.tail _ (.head _))) | exact .tail _ (.tail _ (.tail _ (.tail _ (.head _)))) | exact .tail _ (.tail _ (.tail _ (.tail _ (.tail _ (.head _))))) | exact .tail _ (.tail _ (.tail _ (.tail _ (.tail _ (.tail _ (.head _)))))) | exact .tail _ (.tail _ (.tail _ (.tail _ (.tail _ (.tail _ (.tail _ (.head _))))))) | exact .tail _ (.tail _ (.tail _ (.tail _ (.tail _ (.tail _ (.tail _ (.tail _ (.head _)))))))) | exact .tail _ (.tail _ (.tail _ (.tail _ (.tail _ (.tail _ (.tail _ (.tail _ (.tail _ (.head _))))))))) | exact .tail _ (.tail _ (.tail _ (.tail _ (.tail _ (.tail _ (.tail _ (.tail _ (.tail _ (.tail _ (.head _))))))))))) (listV_ne hk1)) (fun pq hpa => ?_)
    refine TR.skip ?_
    refine NX.seq ?_
    refine TR.seq ?_
    refine TR.block ?_
    refine TR.seq ?_
    refine TR.region ?_
    refine RL.move rfl rfl rfl ?_
    refine RL.call rfl rfl Try.call41 rfl (Ctr.frame (J := [Box z.1 92 (dkC (⟨z.2, x.fs, k, false, false, 0⟩ : Ds)), MpB ((⟨z.2, x.fs, k, false, false, 0⟩ : Ds)).m (fsV ((⟨z.2, x.fs, k, false, false, 0⟩ : Ds)).fs)]) (J' := fun _ : Unit => [Box z.1 92 (dkC (⟨z.2, x.fs, k, false, false, 0⟩ : Ds)), MpB ((⟨z.2, x.fs, k, false, false, 0⟩ : Ds)).m (fsV ((⟨z.2, x.fs, k, false, false, 0⟩ : Ds)).fs)]) [_, _] (used_spec (s := (⟨z.2, x.fs, k, false, false, 0⟩ : Ds)) hx.2.2.1 (by show used x.fs ≤ _; have := hx.2.2.2.2.2.1; omega))) (fun _ => ?_)
    refine RL.assign rfl rfl rfl ?_
    refine RL.nil ?_
    refine NX.seq ?_
    refine TR.seq ?_
    refine TR.region ?_
    refine RL.move rfl rfl rfl ?_
    refine RL.lenSlice rfl xg_tl27 rfl rfl ?_
    refine RL.move rfl rfl rfl ?_
    refine RL.move rfl rfl rfl ?_
    refine RL.indexAddr rfl xg_tl27 xg_tz23 (congrArg (fun a => some (Value.slice a _ _)) hpa) rfl (by omega) (by omega) rfl ?_
    refine RL.loadF rfl rfl (fun w K hF => run_loadCell1 (j := (x.i : Int).toNat * 1) (v := .slice X.1.ps[x.i].2.oa X.1.ps[x.i].1.length X.1.ps[x.i].2.c) (hF (CellsF pq.1 pq.2 (listV X.1.ps)) (by first | exact .head _ | exact .tail _ (.head _) | exact .tail _ (.tail _ (.head _)) | exact .tail _ (.tail _ (.tail _ (.head _))) | exact .tail _ (.tail _ (.tail _ (.tail _ (.head _)))) | exact .tail _ (.tail _ (.tail _ (.tail _ (.tail _ (.head _))))) | exact .tail _ (.tail _ (.tail _ (.tail _ (.tail _ (.tail _ (.head _)))))) | exact .tail _ (.tail _ (.tail _ (.tail _ (.tail _ (.tail _ (.tail _ (.head _))))))) | exact .tail _ (.tail _ (.tail _ (.tail _ (.tail _ (.tail _ (.tail _ (.tail _ (.head _)))))))))) xg_ts23 (listV_get hk1)) rfl ?_
    refine RL.call rfl rfl Try.call13 rfl (frame_lg (g := (⟨63, x.ks.length, false⟩ : Lg)) (x := X.1.ps[x.i].1) (rd_fact (by first | exact .head _ | exact .tail _ (.head _) | exact .tail _ (.tail _ (.head _)) | exact .tail _ (.tail _ (.tail _ (.head _))) | exact .tail _ (.tail _ (.tail _ (.tail _ (.head _)))) | exact .tail _ (.tail _ (.tail _ (.tail _ (.tail _ (.head _))))) | exact .tail _ (.tail _ (.tail _ (.tail _ (.tail _ (.tail _ (.head _)))))) | exact .tail _ (.tail _ (.tail _ (.tail _ (.tail _ (.tail _ (.tail _ (.head _))))))) | exact .tail _ (.tail _ (.tail _ (.tail _ (.tail _ (.tail _ (.tail _ (.tail _ (.head _)))))))) | exact .tail _ (.tail _ (.tail _ (.tail _ (.tail _ (.tail _ (.tail _ (.tail _ (.tail _ (.head _))))))))) | exact .tail _ (.tail _ (.tail _ (.tail _ (.tail _ (.tail _ (.tail _ (.tail _ (.tail _ (.tail _ (.head _)))))))))))) (by show x.ks.length ≤ _; omega) (by omega)) (fun f => ?_)
    refine RL.weak (fun w hw => hw.drop 0 rfl) ?_
    refine RL.lenSlice rfl xg_tl23 rfl rfl ?_
    refine RL.assign rfl rfl rfl ?_
    refine RL.nil ?_
    refine NX.seq ?_
    refine TR.seq ?_
    refine TR.region ?_
    refine RL.move rfl rfl rfl ?_
    refine RL.move rfl rfl rfl ?_
    refine RL.move rfl rfl rfl ?_
    refine RL.indexAddr rfl xg_tl27 xg_tz23 (congrArg (fun a => some (Value.slice a _ _)) hpa) rfl (by omega) (by omega) rfl ?_
    refine RL.loadF rfl rfl (fun w K hF => run_loadCell1 (j := (x.i : Int).toNat * 1) (v := .slice X.1.ps[x.i].2.oa X.1.ps[x.i].1.length X.1.ps[x.i].2.c) (hF (CellsF pq.1 pq.2 (listV X.1.ps)) (by first | exact .head _ | exact .tail _ (.head _) | exact .tail _ (.tail _ (.head _)) | exact .tail _ (.tail _ (.tail _ (.head _))) | exact .tail _ (.tail _ (.tail _ (.tail _ (.head _)))) | exact .tail _ (.tail _ (.tail _ (.tail _ (.tail _ (.head _))))) | exact .tail _ (.tail _ (.tail _ (.tail _ (.tail _ (.tail _ (.head _)))))) | exact .tail _ (.tail _ (.tail _ (.tail _ (.tail _ (.tail _ (.tail _ (.head _))))))) | exact .tail _ (.tail _ (.tail _ (.tail _ (.tail _ (.tail _ (.tail _ (.tail _ (.head _)))))))))) xg_ts23 (listV_get hk1)) rfl ?_
    refine RL.call rfl rfl Try.call29 rfl (Ctr.frame (J := [Box zo.1.1 88 (lgC z.1 (⟨63, x.ks.length, false⟩ : Lg)), Box z.1 92 (dkC (⟨z.2, x.fs, k, false, false, 0⟩ : Ds)), MpB ((⟨z.2, x.fs, k, false, false, 0⟩ : Ds)).m (fsV ((⟨z.2, x.fs, k, false, false, 0⟩ : Ds)).fs)]) (J' := fun q : {z_ : RdX // ((fget x.fs 63).b ++ lgFr (⟨63, x.ks.length, false⟩ : Lg) X.1.ps[x.i].1).length ≤ z_.c} => [Box zo.1.1 88 (lgC z.1 (lgG (⟨z.2, x.fs, k, false, false, 0⟩ : Ds) (⟨63, x.ks.length, false⟩ : Lg) X.1.ps[x.i].1 q.1)), Box z.1 92 (dkC (lgS (⟨z.2, x.fs, k, false, false, 0⟩ : Ds) (⟨63, x.ks.length, false⟩ : Lg) X.1.ps[x.i].1 q.1)), MpB ((lgS (⟨z.2, x.fs, k, false, false, 0⟩ : Ds) (⟨63, x.ks.length, false⟩ : Lg) X.1.ps[x.i].1 q.1)).m (fsV ((lgS (⟨z.2, x.fs, k, false, false, 0⟩ : Ds) (⟨63, x.ks.length, false⟩ : Lg) X.1.ps[x.i].1 q.1)).fs)]) [_] (lapp_spec (g := (⟨63, x.ks.length, false⟩ : Lg)) (s := (⟨z.2, x.fs, k, false, false, 0⟩ : Ds)) (x := X.1.ps[x.i].1) hx.2.2.1 (by first | exact .head _ | exact .tail _ (.head _) | exact .tail _ (.tail _ (.head _)) | exact .tail _ (.tail _ (.tail _ (.head _))) | exact .tail _ (.tail _ (.tail _ (.tail _ (.head _)))) | exact .tail _ (.tail _ (.tail _ (.tail _ (.tail _ (.head _))))) | exact .tail _ (.tail _ (.tail _ (.tail _ (.tail _ (.tail _ (.head _)))))) | exact .tail _ (.tail _ (.tail _ (.tail _ (.tail _ (.tail _ (.tail _ (.head _))))))) | exact .tail _ (.tail _ (.tail _ (.tail _ (.tail _ (.tail _ (.tail _ (.tail _ (.head _)))))))) | exact .tail _ (.tail _ (.tail _ (.tail _ (.tail _ (.tail _ (.tail _ (.tail _ (.tail _ (.head _))))))))) | exact .tail _ (.tail _ (.tail _ (.tail _ (.tail _ (.tail _ (.tail _ (.tail _ (.tail _ (.tail _ (.head _))))))))))) (by first | exact .head _ | exact .tail _ (.head _) | exact .tail _ (.tail _ (.head _)) | exact .tail _ (.tail _ (.tail _ (.head _))) | exact .tail _ (.tail _ (.tail _ (.tail _ (.head _)))) | exact .tail _ (.tail _ (.tail _ (.tail _ (.tail _ (.head _))))) | exact .tail _ (.tail _ (.tail _ (.tail _ (.tail _ (.tail _ (.head _)))))) | exact .tail _ (.tail _ (.tail _ (.tail _ (.tail _ (.tail _ (.tail _ (.head _))))))) | exact .tail _ (.tail _ (.tail _ (.tail _ (.tail _ (.tail _ (.tail _ (.tail _ (.head _)))))))) | exact .tail _ (.tail _ (.tail _ (.tail _ (.tail _ (.tail _ (.tail _ (.tail _ (.tail _ (.head _))))))))) | exact .tail _ (.tail _ (.tail _ (.tail _ (.tail _ (.tail _ (.tail _ (.tail _ (.tail _ (.tail _ (.head _))))))))))) (by show used x.fs ≤ k; exact hx.2.2.2.2.2.1) (by show k ≤ _; omega) ⟨by show (-9223372036854775808 : Int) ≤ 63; decide, by show (63 : Int) ≤ 9223372036854775807; decide⟩ ⟨by show (-9223372036854775000 : Int) ≤ 0; decide, by show (0 : Int) ≤ 9223372036854775807; decide⟩ (by show x.ks.length ≤ _; omega) (by omega))) (fun zz => ?_)
    refine RL.assign rfl rfl rfl ?_
    refine RL.nil ?_
    refine NX.seq ?_
    refine TR.seq ?_
    refine TR.seq ?_
    refine TR.region ?_
    refine RL.move rfl rfl rfl ?_
    refine RL.move rfl rfl rfl ?_
    refine RL.bin rfl rfl rfl (BinV.add _ rfl (by omega) (by omega)) rfl ?_
    refine RL.move rfl rfl rfl ?_
    refine RL.bin rfl rfl rfl BinV.gtr rfl ?_
    refine RL.nil ?_
    refine NX.seq ?_
    refine TR.cond rfl (fun h2 => ?_) (fun h2 => ?_)
    · skip
      have hfull : (k : Int) - used x.fs < (lgFr (⟨63, x.ks.length, false⟩ : Lg) X.1.ps[x.i].1).length := by have := of_decide_eq_true h2; omega
      obtain ⟨e1, e2, e3⟩ := CalmD.full (s := (⟨z.2, x.fs, k, false, false, 0⟩ : Ds)) (g := (⟨63, x.ks.length, false⟩ : Lg)) (x := X.1.ps[x.i].1) (z := zz.1) ⟨rfl, rfl⟩ (by show there 63; decide) rfl (by omega) hfull
      rw [e1, e2, e3]
      refine TR.seq ?_
      refine TR.region ?_
      refine RL.move rfl rfl rfl ?_
      refine RL.bin rfl rfl rfl (BinV.to (d := false) BinV.neq (by simp)) rfl ?_
      refine RL.move rfl rfl rfl ?_
      refine RL.move rfl rfl rfl ?_
      refine RL.call rfl rfl Try.call41 rfl (Ctr.frame (J := [Box z.1 92 (dkC (⟨z.2, x.fs, k, false, false, 0⟩ : Ds)), MpB ((⟨z.2, x.fs, k, false, false, 0⟩ : Ds)).m (fsV ((⟨z.2, x.fs, k, false, false, 0⟩ : Ds)).fs)]) (J' := fun _ : Unit => [Box z.1 92 (dkC (⟨z.2, x.fs, k, false, false, 0⟩ : Ds)), MpB ((⟨z.2, x.fs, k, false, false, 0⟩ : Ds)).m (fsV ((⟨z.2, x.fs, k, false, false, 0⟩ : Ds)).fs)]) [_, _] (used_spec (s := (⟨z.2, x.fs, k, false, false, 0⟩ : Ds)) hx.2.2.1 (by show used x.fs ≤ _; have := hx.2.2.2.2.2.1; omega))) (fun _ => ?_)
      refine RL.move rfl rfl rfl ?_
      refine RL.bin rfl rfl rfl (BinV.to (d := false) BinV.neq (by simp)) rfl ?_
      refine RL.pickF rfl rfl rfl rfl ?_
      refine RL.nil ?_
      refine NX.seq ?_
      refine TR.condF rfl ?_
      refine TR.skip ?_
      refine NX.seq ?_
      refine TR.seq ?_
      refine TR.region ?_
      refine RL.move rfl rfl rfl ?_
      refine RL.call rfl rfl Try.call42 rfl (Ctr.frame1 [_] llen_spec) (fun _ => ?_)
      refine RL.move rfl rfl rfl ?_
      refine RL.lenSlice rfl xg_tl27 rfl rfl ?_
      refine RL.bin rfl rfl rfl (BinV.to (d := false) BinV.neq (by simp)) rfl ?_
      refine RL.move rfl rfl rfl ?_
      refine RL.move rfl rfl rfl ?_
      refine RL.call rfl rfl Try.call43 rfl (Ctr.frame1 [_] lup_spec) (fun _ => ?_)
      refine RL.not (b := true) rfl rfl rfl ?_
      refine RL.pickF rfl rfl rfl rfl ?_
      refine RL.nil ?_
      refine NX.seq ?_
      refine TR.condF rfl ?_
      refine TR.skip ?_
      refine NX.off ?_
      refine NX.seq ?_
      refine TR.region ?_
      refine RL.move rfl rfl rfl ?_
      refine RL.bin rfl rfl rfl (BinV.add _ rfl (by omega) (by omega)) rfl ?_
      refine RL.assign rfl rfl rfl ?_
      refine RL.nil ?_
      refine NX.roundP ⟨x.ks, x.oa, x.c, x.i + 1, x.fs⟩ ⟨by show x.i + 1 ≤ _; omega, by show x.ks.length ≤ x.i + 1; omega, hx.2.2.1, hx.2.2.2.1, hx.2.2.2.2.1, hx.2.2.2.2.2.1, hx.2.2.2.2.2.2⟩ (by show X.1.ps.length - (x.i + 1) < _; omega) ⟨rfl, rfl, rfl, rfl, rfl, rfl, trivial⟩ (fun w hw => hw.facts (fun φ h => by
          rcases List.mem_cons.1 h with e1 | h
          · exact e1 ▸ (by first | exact .head _ | exact .tail _ (.head _) | exact .tail _ (.tail _ (.head _)) | exact .tail _ (.tail _ (.tail _ (.head _))) | exact .tail _ (.tail _ (.tail _ (.tail _ (.head _)))) | exact .tail _ (.tail _ (.tail _ (.tail _ (.tail _ (.head _))))) | exact .tail _ (.tail _ (.tail _ (.tail _ (.tail _ (.tail _ (.head _)))))) | exact .tail _ (.tail _ (.tail _ (.tail _ (.tail _ (.tail _ (.tail _ (.head _))))))) | exact .tail _ (.tail _ (.tail _ (.tail _ (.tail _ (.tail _ (.tail _ (.tail _ (.head _)))))))) | exact .tail _ (.tail _ (.tail _ (.tail _ (.tail _ (.tail _ (.tail _ (.tail _ (.tail _ (.head _))))))))) | exact .tail _ (.tail _ (.tail _ (.tail _ (.tail _ (.tail _ (.tail _ (.tail _ (.tail _ (.tail _ (.head _)))))))))))
          rcases List.mem_cons.1 h with e1 | h
          · exact e1 ▸ .head _
          exact .tail _ (.tail _ (.tail _ (.tail _ (.tail _ h))))))
    · skip
      have hfull : ¬ (k : Int) - used x.fs < (lgFr (⟨63, x.ks.length, false⟩ : Lg) X.1.ps[x.i].1).length := by have := of_decide_eq_false h2; omega
      obtain ⟨e1, e2, e3⟩ := CalmD.fits (s := (⟨z.2, x.fs, k, false, false, 0⟩ : Ds)) (g := (⟨63, x.ks.length, false⟩ : Lg)) (x := X.1.ps[x.i].1) (z := zz.1) ⟨rfl, rfl⟩ (by show there 63; decide) rfl (by omega) hfull
      have hfa : OkF (hard (setF x.fs 63 (appF (⟨z.2, x.fs, k, false, false, 0⟩ : Ds) 63 (lgFr (⟨63, x.ks.length, false⟩ : Lg) X.1.ps[x.i].1) zz.1))) ∧ (fget (hard (setF x.fs 63 (appF (⟨z.2, x.fs, k, false, false, 0⟩ : Ds) 63 (lgFr (⟨63, x.ks.length, false⟩ : Lg) X.1.ps[x.i].1) zz.1))) 63).b = (fget x.fs 63).b ++ lgFr (⟨63, x.ks.length, false⟩ : Lg) X.1.ps[x.i].1 ∧ used (hard (setF x.fs 63 (appF (⟨z.2, x.fs, k, false, false, 0⟩ : Ds) 63 (lgFr (⟨63, x.ks.length, false⟩ : Lg) X.1.ps[x.i].1) zz.1))) = used x.fs + (lgFr (⟨63, x.ks.length, false⟩ : Lg) X.1.ps[x.i].1).length := files_app (s := (⟨z.2, x.fs, k, false, false, 0⟩ : Ds)) (n := 63) (fr := lgFr (⟨63, x.ks.length, false⟩ : Lg) X.1.ps[x.i].1) (z := zz.1) hx.2.2.1 (by decide) zz.2 (lgFr_pos _ _)
      rw [e1, e2, e3]
      refine TR.seq ?_
      refine TR.seq ?_
      refine TR.region ?_
      refine RL.move rfl rfl rfl ?_
      refine RL.bin rfl rfl rfl (BinV.to (d := false) BinV.neq (by simp)) rfl ?_
      refine RL.move rfl rfl rfl ?_
      refine RL.move rfl rfl rfl ?_
      refine RL.call rfl rfl Try.call41 rfl (Ctr.frame (J := [Box z.1 92 (dkC (⟨z.2, (hard (setF x.fs 63 (appF (⟨z.2, x.fs, k, false, false, 0⟩ : Ds) 63 (lgFr (⟨63, x.ks.length, false⟩ : Lg) X.1.ps[x.i].1) zz.1))), k, false, false, 0⟩ : Ds)), MpB ((⟨z.2, (hard (setF x.fs 63 (appF (⟨z.2, x.fs, k, false, false, 0⟩ : Ds) 63 (lgFr (⟨63, x.ks.length, false⟩ : Lg) X.1.ps[x.i].1) zz.1))), k, false, false, 0⟩ : Ds)).m (fsV ((⟨z.2, (hard (setF x.fs 63 (appF (⟨z.2, x.fs, k, false, false, 0⟩ : Ds) 63 (lgFr (⟨63, x.ks.length, false⟩ : Lg) X.1.ps[x.i].1) zz.1))), k, false, false, 0⟩ : Ds)).fs)]) (J' := fun _ : Unit => [Box z.1 92 (dkC (⟨z.2, (hard (setF x.fs 63 (appF (⟨z.2, x.fs, k, false, false, 0⟩ : Ds) 63 (lgFr (⟨63, x.ks.length, false⟩ : Lg) X.1.ps[x.i].1) zz.1))), k, false, false, 0⟩ : Ds)), MpB ((⟨z.2, (hard (setF x.fs 63 (appF (⟨z.2, x.fs, k, false, false, 0⟩ : Ds) 63 (lgFr (⟨63, x.ks.length, false⟩ : Lg) X.1.ps[x.i].1) zz.1))), k, false, false, 0⟩ : Ds)).m (fsV ((⟨z.2, (hard (setF x.fs 63 (appF (⟨z.2, x.fs, k, false, false, 0⟩ : Ds) 63 (lgFr (⟨63, x.ks.length, false⟩ : Lg) X.1.ps[x.i].1) zz.1))), k, false, false, 0⟩ : Ds)).fs)]) [_, _] (used_spec (s := (⟨z.2, (hard (setF x.fs 63 (appF (⟨z.2, x.fs, k, false, false, 0⟩ : Ds) 63 (lgFr (⟨63, x.ks.length, false⟩ : Lg) X.1.ps[x.i].1) zz.1))), k, false, false, 0⟩ : Ds)) hfa.1 (by show used (hard (setF x.fs 63 (appF (⟨z.2, x.fs, k, false, false, 0⟩ : Ds) 63 (lgFr (⟨63, x.ks.length, false⟩ : Lg) X.1.ps[x.i].1) zz.1))) ≤ _; rw [hfa.2.2]; show used x.fs + _ ≤ _; omega))) (fun _ => ?_)
      refine RL.move rfl rfl rfl ?_
      refine RL.move rfl rfl rfl ?_
      refine RL.bin rfl rfl rfl (BinV.add _ rfl (by omega) (by omega)) rfl ?_
      refine RL.bin rfl rfl rfl (BinV.to (d := false) BinV.neq (decide_eq_false (by show ¬ ((used (hard (setF x.fs 63 (appF (⟨z.2, x.fs, k, false, false, 0⟩ : Ds) 63 (lgFr (⟨63, x.ks.length, false⟩ : Lg) X.1.ps[x.i].1) zz.1))) : Nat) : Int) ≠ (used x.fs : Nat) + ((lgFr (⟨63, x.ks.length, false⟩ : Lg) X.1.ps[x.i].1).length : Nat); have h7 := hfa.2.2; omega))) rfl ?_
      refine RL.pickF rfl rfl rfl rfl ?_
      refine RL.nil ?_
      refine NX.seq ?_
      refine TR.condF rfl ?_
      refine TR.skip ?_
      refine NX.seq ?_
      refine TR.region ?_
      refine RL.move rfl rfl rfl ?_
      refine RL.move rfl rfl rfl ?_
      refine RL.move rfl rfl rfl ?_
      refine RL.indexAddr rfl xg_tl27 xg_tz23 (congrArg (fun a => some (Value.slice a _ _)) hpa) rfl (by omega) (by omega) rfl ?_
      refine RL.loadF rfl rfl (fun w K hF => run_loadCell1 (j := (x.i : Int).toNat * 1) (v := .slice X.1.ps[x.i].2.oa X.1.ps[x.i].1.length X.1.ps[x.i].2.c) (hF (CellsF pq.1 pq.2 (listV X.1.ps)) (by first | exact .head _ | exact .tail _ (.head _) | exact .tail _ (.tail _ (.head _)) | exact .tail _ (.tail _ (.tail _ (.head _))) | exact .tail _ (.tail _ (.tail _ (.tail _ (.head _)))) | exact .tail _ (.tail _ (.tail _ (.tail _ (.tail _ (.head _))))) | exact .tail _ (.tail _ (.tail _ (.tail _ (.tail _ (.tail _ (.head _)))))) | exact .tail _ (.tail _ (.tail _ (.tail _ (.tail _ (.tail _ (.tail _ (.head _))))))) | exact .tail _ (.tail _ (.tail _ (.tail _ (.tail _ (.tail _ (.tail _ (.tail _ (.head _)))))))))) xg_ts23 (listV_get hk1)) rfl ?_
      refine RL.buildSlice rfl rfl (xg_bs27_1_0 _ _ _) rfl (fun b3 => ?_)
      refine RL.ofGV rfl rfl (GV.append (j := 1) xg_tl27 xg_ni27 xg_te23 rfl rfl rfl (src_box (i := 0) rfl rfl rfl) (by omega) (by omega)) (fun y => ?_)
      refine RL.assign rfl rfl rfl ?_
      refine RL.nil ?_
      refine NX.seq ?_
      refine TR.seq ?_
      refine TR.region ?_
      refine RL.move rfl rfl rfl ?_
      refine RL.call rfl rfl Try.call42 rfl (Ctr.frame1 [_, _] llen_spec) (fun _ => ?_)
      refine RL.move rfl rfl rfl ?_
      refine RL.lenSlice rfl xg_tl27 rfl rfl ?_
      refine RL.bin rfl rfl rfl (BinV.to (d := false) BinV.neq (by simp)) rfl ?_
      refine RL.move rfl rfl rfl ?_
      refine RL.move rfl rfl rfl ?_
      refine RL.call rfl rfl Try.call43 rfl (Ctr.frame1 [_, _] lup_spec) (fun _ => ?_)
      refine RL.not (b := true) rfl rfl rfl ?_
      refine RL.pickF rfl rfl rfl rfl ?_
      refine RL.nil ?_
      refine NX.seq ?_
      refine TR.condF rfl ?_
      refine TR.skip ?_
      refine NX.off ?_
      refine NX.seq ?_
      refine TR.region ?_
      refine RL.move rfl rfl rfl ?_
      refine RL.bin rfl rfl rfl (BinV.add _ rfl (by omega) (by omega)) rfl ?_
      refine RL.assign rfl rfl rfl ?_
      refine RL.nil ?_
      have e9 : ((x.ks ++ [X.1.ps[x.i]]).map Prod.fst) = x.ks.map Prod.fst ++ [X.1.ps[x.i].1] := by rw [List.map_append]; rfl
      have e8 : framesJ 0 ((x.ks ++ [X.1.ps[x.i]]).map Prod.fst) = framesJ 0 (x.ks.map Prod.fst) ++ lgFr (⟨63, x.ks.length, false⟩ : Lg) X.1.ps[x.i].1 := by
        rw [e9, framesJ_snoc, Nat.zero_add, List.length_map]; rfl
      have e7 : (x.ks ++ [X.1.ps[x.i]]).length = x.ks.length + 1 := by rw [List.length_append]; rfl
      refine NX.roundP ⟨x.ks ++ [X.1.ps[x.i]], y.1, y.2, x.i + 1, (hard (setF x.fs 63 (appF (⟨z.2, x.fs, k, false, false, 0⟩ : Ds) 63 (lgFr (⟨63, x.ks.length, false⟩ : Lg) X.1.ps[x.i].1) zz.1)))⟩ ⟨by show x.i + 1 ≤ _; omega, by show (x.ks ++ [X.1.ps[x.i]]).length ≤ x.i + 1; omega, hfa.1, by show (fget (hard (setF x.fs 63 (appF (⟨z.2, x.fs, k, false, false, 0⟩ : Ds) 63 (lgFr (⟨63, x.ks.length, false⟩ : Lg) X.1.ps[x.i].1) zz.1))) 63).b = framesJ 0 ((x.ks ++ [X.1.ps[x.i]]).map Prod.fst); rw [e8, hfa.2.1, hx.2.2.2.1], by show used (hard (setF x.fs 63 (appF (⟨z.2, x.fs, k, false, false, 0⟩ : Ds) 63 (lgFr (⟨63, x.ks.length, false⟩ : Lg) X.1.ps[x.i].1) zz.1))) = (framesJ 0 ((x.ks ++ [X.1.ps[x.i]]).map Prod.fst)).length; have h9 := congrArg List.length e8; rw [List.length_append] at h9; have h8 := hx.2.2.2.2.1; have h7 := hfa.2.2; omega, by show used (hard (setF x.fs 63 (appF (⟨z.2, x.fs, k, false, false, 0⟩ : Ds) 63 (lgFr (⟨63, x.ks.length, false⟩ : Lg) X.1.ps[x.i].1) zz.1))) ≤ k; rw [hfa.2.2]; omega, fun p hp => ?_⟩ (by show X.1.ps.length - (x.i + 1) < _; omega) ⟨rfl, rfl, rfl, rfl, ?_, rfl, trivial⟩ (fun w hw => ?_)
      · rcases List.mem_append.1 hp with h | h
        · exact hx.2.2.2.2.2.2 p h
        · rw [List.mem_singleton.1 h]; exact (X.2.2 _ (List.getElem_mem hk1)).1
      · show some (Value.slice y.1 (x.ks.length + 1) y.2) = some (Value.slice y.1 (x.ks ++ [X.1.ps[x.i]]).length y.2)
        rw [e7]
      · have h9 := (hw.drop 0 rfl).allB_snoc (ps := x.ks) (p := X.1.ps[x.i]) (by first | exact .head _ | exact .tail _ (.head _) | exact .tail _ (.tail _ (.head _)) | exact .tail _ (.tail _ (.tail _ (.head _))) | exact .tail _ (.tail _ (.tail _ (.tail _ (.head _)))) | exact .tail _ (.tail _ (.tail _ (.tail _ (.tail _ (.head _))))) | exact .tail _ (.tail _ (.tail _ (.tail _ (.tail _ (.tail _ (.head _)))))) | exact .tail _ (.tail _ (.tail _ (.tail _ (.tail _ (.tail _ (.tail _ (.head _))))))) | exact .tail _ (.tail _ (.tail _ (.tail _ (.tail _ (.tail _ (.tail _ (.tail _ (.head _)))))))) | exact .tail _ (.tail _ (.tail _ (.tail _ (.tail _ (.tail _ (.tail _ (.tail _ (.tail _ (.head _))))))))) | exact .tail _ (.tail _ (.tail _ (.tail _ (.tail _ (.tail _ (.tail _ (.tail _ (.tail _ (.tail _ (.head _))))))))))) (by first | exact .head _ | exact .tail _ (.head _) | exact .tail _ (.tail _ (.head _)) | exact .tail _ (.tail _ (.tail _ (.head _))) | exact .tail _ (.tail _ (.tail _ (.tail _ (.head _)))) | exact .tail _ (.tail _ (.tail _ (.tail _ (.tail _ (.head _))))) | exact .tail _ (.tail _ (.tail _ (.tail _ (.tail _ (.tail _ (.head _)))))) | exact .tail _ (.tail _ (.tail _ (.tail _ (.tail _ (.tail _ (.tail _ (.head _))))))) | exact .tail _ (.tail _ (.tail _ (.tail _ (.tail _ (.tail _ (.tail _ (.tail _ (.head _)))))))) | exact .tail _ (.tail _ (.tail _ (.tail _ (.tail _ (.tail _ (.tail _ (.tail _ (.tail _ (.head _))))))))) | exact .tail _ (.tail _ (.tail _ (.tail _ (.tail _ (.tail _ (.tail _ (.tail _ (.tail _ (.tail _ (.head _)))))))))))
        show St w (OwnSl 23 1 y.1 (x.ks ++ [X.1.ps[x.i]]).length y.2 (listV (x.ks ++ [X.1.ps[x.i]])) :: Box zo.1.1 88 (lgC z.1 ⟨63, (x.ks ++ [X.1.ps[x.i]]).length, false⟩) :: Box z.1 92 (dkC (⟨z.2, (hard (setF x.fs 63 (appF (⟨z.2, x.fs, k, false, false, 0⟩ : Ds) 63 (lgFr (⟨63, x.ks.length, false⟩ : Lg) X.1.ps[x.i].1) zz.1))), k, false, false, 0⟩ : Ds)) :: MpB ((⟨z.2, (hard (setF x.fs 63 (appF (⟨z.2, x.fs, k, false, false, 0⟩ : Ds) 63 (lgFr (⟨63, x.ks.length, false⟩ : Lg) X.1.ps[x.i].1) zz.1))), k, false, false, 0⟩ : Ds)).m (fsV ((⟨z.2, (hard (setF x.fs 63 (appF (⟨z.2, x.fs, k, false, false, 0⟩ : Ds) 63 (lgFr (⟨63, x.ks.length, false⟩ : Lg) X.1.ps[x.i].1) zz.1))), k, false, false, 0⟩ : Ds)).fs) :: M) (AllB (x.ks ++ [X.1.ps[x.i]]) :: AllF (hard (setF x.fs 63 (appF (⟨z.2, x.fs, k, false, false, 0⟩ : Ds) 63 (lgFr (⟨63, x.ks.length, false⟩ : Lg) X.1.ps[x.i].1) zz.1))) :: ArrF X.1.oa (listV X.1.ps) :: AllB X.1.ps :: F)
        rw [e7, listV_append]
        exact h9.facts (fun φ h => by
          rcases List.mem_cons.1 h with e1 | h
          · exact e1 ▸ .head _
          rcases List.mem_cons.1 h with e1 | h
          · exact e1 ▸ .tail _ (.head _)
          exact .tail _ (.tail _ (.tail _ (.tail _ (.tail _ (.tail _ h))))))
  · skip
    have hend : x.i = X.1.ps.length := by have := of_decide_eq_false h1; have := hx.1; omega
    refine TR.exit ?_
    refine NX.exitThen ?_
    refine NX.exitThen ?_
    refine NX.exitHere ?_
    refine NX.seq ?_
    refine TR.seq ?_
    have hkl : ∀ y, y ∈ x.ks.map Prod.fst → y.length ≤ 11 := fun y hy => by obtain ⟨q, hq, rfl⟩ := List.mem_map.1 hy; exact hx.2.2.2.2.2.2 q hq
    have how := open_whole (s := (⟨z.2, x.fs, k, false, false, 0⟩ : Ds)) (n := 63) (L := x.ks.map Prod.fst) hx.2.2.2.1 ⟨by rw [List.length_map]; have := hx.2.1; have := X.2.1; omega, fun y hy => Nat.le_trans (hkl y hy) (by decide)⟩
    refine TR.region ?_
    refine RL.move rfl rfl rfl ?_
    refine RL.call rfl rfl Try.call22 rfl (Ctr.frame (J := [Box z.1 92 (dkC (⟨z.2, x.fs, k, false, false, 0⟩ : Ds)), MpB ((⟨z.2, x.fs, k, false, false, 0⟩ : Ds)).m (fsV ((⟨z.2, x.fs, k, false, false, 0⟩ : Ds)).fs)]) (J' := fun q : {z_ : Nat × LsX // z_.2.ps.map Prod.fst = scanJ 0 (fget x.fs 63).b ∧ ∀ p, p ∈ z_.2.ps → p.1.length ≤ p.2.c} => [Box q.1.1 88 (lgC z.1 ⟨63, q.1.2.ps.length, false⟩), OwnSl 23 1 q.1.2.oa q.1.2.ps.length q.1.2.c (listV q.1.2.ps), Box z.1 92 (dkC (⟨z.2, (openFs (⟨z.2, x.fs, k, false, false, 0⟩ : Ds) 63), k, false, false, 0⟩ : Ds)), MpB ((⟨z.2, (openFs (⟨z.2, x.fs, k, false, false, 0⟩ : Ds) 63), k, false, false, 0⟩ : Ds)).m (fsV ((⟨z.2, (openFs (⟨z.2, x.fs, k, false, false, 0⟩ : Ds) 63), k, false, false, 0⟩ : Ds)).fs)]) [_, _] (open_calm (n := 63) (s := (⟨z.2, x.fs, k, false, false, 0⟩ : Ds)) ⟨rfl, rfl⟩ (by decide) hx.2.2.1 (by first | exact .head _ | exact .tail _ (.head _) | exact .tail _ (.tail _ (.head _)) | exact .tail _ (.tail _ (.tail _ (.head _))) | exact .tail _ (.tail _ (.tail _ (.tail _ (.head _)))) | exact .tail _ (.tail _ (.tail _ (.tail _ (.tail _ (.head _))))) | exact .tail _ (.tail _ (.tail _ (.tail _ (.tail _ (.tail _ (.head _)))))) | exact .tail _ (.tail _ (.tail _ (.tail _ (.tail _ (.tail _ (.tail _ (.head _))))))) | exact .tail _ (.tail _ (.tail _ (.tail _ (.tail _ (.tail _ (.tail _ (.tail _ (.head _)))))))) | exact .tail _ (.tail _ (.tail _ (.tail _ (.tail _ (.tail _ (.tail _ (.tail _ (.tail _ (.head _))))))))) | exact .tail _ (.tail _ (.tail _ (.tail _ (.tail _ (.tail _ (.tail _ (.tail _ (.tail _ (.tail _ (.head _))))))))))) (by show used x.fs ≤ _; have := hx.2.2.2.2.2.1; omega) ⟨by show (-9223372036854775000 : Int) ≤ 0; decide, by show (0 : Int) ≤ 9223372036854775807; decide⟩)) (fun zp => ?_)
    refine RL.move rfl rfl rfl ?_
    refine RL.extract rfl rfl rfl rfl ?_
    refine RL.extract rfl rfl rfl rfl ?_
    refine RL.extract rfl rfl rfl rfl ?_
    refine RL.assign rfl rfl rfl ?_
    refine RL.assign rfl rfl rfl ?_
    refine RL.assign rfl rfl rfl ?_
    refine RL.nil ?_
    refine NX.seq ?_
    refine TR.seq ?_
    refine TR.region ?_
    refine RL.call rfl rfl Try.call22 rfl (open_nil) (fun _ => ?_)
    refine RL.move rfl rfl rfl ?_
    refine RL.extract rfl rfl rfl rfl ?_
    refine RL.extract rfl rfl rfl rfl ?_
    refine RL.extract rfl rfl rfl rfl ?_
    refine RL.assign rfl rfl rfl ?_
    refine RL.assign rfl rfl rfl ?_
    refine RL.assign rfl rfl rfl ?_
    refine RL.nil ?_
    refine NX.seq ?_
    refine TR.seq ?_
    refine TR.region ?_
    refine RL.move rfl rfl rfl ?_
    refine RL.call rfl rfl Try.call22 rfl (Ctr.frame (J := [Box z.1 92 (dkC (⟨z.2, (openFs (⟨z.2, x.fs, k, false, false, 0⟩ : Ds) 63), k, false, false, 0⟩ : Ds)), MpB ((⟨z.2, (openFs (⟨z.2, x.fs, k, false, false, 0⟩ : Ds) 63), k, false, false, 0⟩ : Ds)).m (fsV ((⟨z.2, (openFs (⟨z.2, x.fs, k, false, false, 0⟩ : Ds) 63), k, false, false, 0⟩ : Ds)).fs)]) (J' := fun _ : Unit => [Box z.1 92 (dkC (⟨z.2, (openFs (⟨z.2, x.fs, k, false, false, 0⟩ : Ds) 63), k, false, false, 0⟩ : Ds)), MpB ((⟨z.2, (openFs (⟨z.2, x.fs, k, false, false, 0⟩ : Ds) 63), k, false, false, 0⟩ : Ds)).m (fsV ((⟨z.2, (openFs (⟨z.2, x.fs, k, false, false, 0⟩ : Ds) 63), k, false, false, 0⟩ : Ds)).fs)]) [_, _, _, _] (open_bad (n := 64) (s := (⟨z.2, (openFs (⟨z.2, x.fs, k, false, false, 0⟩ : Ds) 63), k, false, false, 0⟩ : Ds)) (by decide) ⟨by decide, by decide⟩ (by show OkF (openFs _ 63); rw [how.2]; exact hx.2.2.1.hard) (by first | exact .head _ | exact .tail _ (.head _) | exact .tail _ (.tail _ (.head _)) | exact .tail _ (.tail _ (.tail _ (.head _))) | exact .tail _ (.tail _ (.tail _ (.tail _ (.head _)))) | exact .tail _ (.tail _ (.tail _ (.tail _ (.tail _ (.head _))))) | exact .tail _ (.tail _ (.tail _ (.tail _ (.tail _ (.tail _ (.head _)))))) | exact .tail _ (.tail _ (.tail _ (.tail _ (.tail _ (.tail _ (.tail _ (.head _))))))) | exact .tail _ (.tail _ (.tail _ (.tail _ (.tail _ (.tail _ (.tail _ (.tail _ (.head _)))))))) | exact .tail _ (.tail _ (.tail _ (.tail _ (.tail _ (.tail _ (.tail _ (.tail _ (.tail _ (.head _))))))))) | exact .tail _ (.tail _ (.tail _ (.tail _ (.tail _ (.tail _ (.tail _ (.tail _ (.tail _ (.tail _ (.head _))))))))))) (by show used (openFs _ 63) ≤ _; rw [how.2, used_hard]; have := hx.2.2.2.2.2.1; show used x.fs ≤ _; omega))) (fun _ => ?_)
    refine RL.move rfl rfl rfl ?_
    refine RL.extract rfl rfl rfl rfl ?_
    refine RL.extract rfl rfl rfl rfl ?_
    refine RL.extract rfl rfl rfl rfl ?_
    refine RL.assign rfl rfl rfl ?_
    refine RL.assign rfl rfl rfl ?_
    refine RL.assign rfl rfl rfl ?_
    refine RL.nil ?_
    refine NX.seq ?_
    refine TR.seq ?_
    refine TR.weak (fun w hw => ((hw.front (i := 3) rfl).keepSl.keepSl).drop 1 rfl) ?_
    refine TR.region ?_
    refine RL.move rfl rfl rfl ?_
    refine RL.bin rfl rfl rfl (BinV.to (d := true) BinV.eql (by simp)) rfl ?_
    refine RL.move rfl rfl rfl ?_
    refine RL.move rfl rfl rfl ?_
    refine RL.bin rfl rfl rfl (BinV.to (d := true) BinV.eql (by simp)) rfl ?_
    refine RL.pickT rfl rfl rfl rfl ?_
    refine RL.move rfl rfl rfl ?_
    refine RL.move rfl rfl rfl ?_
    refine RL.bin rfl rfl rfl (BinV.to (d := true) BinV.eql (by simp)) rfl ?_
    refine RL.pickT rfl rfl rfl rfl ?_
    refine RL.move rfl rfl rfl ?_
    refine RL.move rfl rfl rfl ?_
    refine RL.move rfl rfl rfl ?_
    refine RL.call rfl rfl Try.call18 rfl (Ctr.boolT (decide_eq_true (zp.2.1.trans how.1)) (sameL_spec (ps := zp.1.2.ps) (qs := x.ks) (by first | exact .head _ | exact .tail _ (.head _) | exact .tail _ (.tail _ (.head _)) | exact .tail _ (.tail _ (.tail _ (.head _))) | exact .tail _ (.tail _ (.tail _ (.tail _ (.head _)))) | exact .tail _ (.tail _ (.tail _ (.tail _ (.tail _ (.head _))))) | exact .tail _ (.tail _ (.tail _ (.tail _ (.tail _ (.tail _ (.head _)))))) | exact .tail _ (.tail _ (.tail _ (.tail _ (.tail _ (.tail _ (.tail _ (.head _))))))) | exact .tail _ (.tail _ (.tail _ (.tail _ (.tail _ (.tail _ (.tail _ (.tail _ (.head _)))))))) | exact .tail _ (.tail _ (.tail _ (.tail _ (.tail _ (.tail _ (.tail _ (.tail _ (.tail _ (.head _))))))))) | exact .tail _ (.tail _ (.tail _ (.tail _ (.tail _ (.tail _ (.tail _ (.tail _ (.tail _ (.tail _ (.head _))))))))))) (by first | exact .head _ | exact .tail _ (.head _) | exact .tail _ (.tail _ (.head _)) | exact .tail _ (.tail _ (.tail _ (.head _))) | exact .tail _ (.tail _ (.tail _ (.tail _ (.head _)))) | exact .tail _ (.tail _ (.tail _ (.tail _ (.tail _ (.head _))))) | exact .tail _ (.tail _ (.tail _ (.tail _ (.tail _ (.tail _ (.head _)))))) | exact .tail _ (.tail _ (.tail _ (.tail _ (.tail _ (.tail _ (.tail _ (.head _))))))) | exact .tail _ (.tail _ (.tail _ (.tail _ (.tail _ (.tail _ (.tail _ (.tail _ (.head _)))))))) | exact .tail _ (.tail _ (.tail _ (.tail _ (.tail _ (.tail _ (.tail _ (.tail _ (.tail _ (.head _))))))))) | exact .tail _ (.tail _ (.tail _ (.tail _ (.tail _ (.tail _ (.tail _ (.tail _ (.tail _ (.tail _ (.head _))))))))))) (by first | exact .head _ | exact .tail _ (.head _) | exact .tail _ (.tail _ (.head _)) | exact .tail _ (.tail _ (.tail _ (.head _))) | exact .tail _ (.tail _ (.tail _ (.tail _ (.head _)))) | exact .tail _ (.tail _ (.tail _ (.tail _ (.tail _ (.head _))))) | exact .tail _ (.tail _ (.tail _ (.tail _ (.tail _ (.tail _ (.head _)))))) | exact .tail _ (.tail _ (.tail _ (.tail _ (.tail _ (.tail _ (.tail _ (.head _))))))) | exact .tail _ (.tail _ (.tail _ (.tail _ (.tail _ (.tail _ (.tail _ (.tail _ (.head _)))))))) | exact .tail _ (.tail _ (.tail _ (.tail _ (.tail _ (.tail _ (.tail _ (.tail _ (.tail _ (.head _))))))))) | exact .tail _ (.tail _ (.tail _ (.tail _ (.tail _ (.tail _ (.tail _ (.tail _ (.tail _ (.tail _ (.head _))))))))))) (by first | exact .head _ | exact .tail _ (.head _) | exact .tail _ (.tail _ (.head _)) | exact .tail _ (.tail _ (.tail _ (.head _))) | exact .tail _ (.tail _ (.tail _ (.tail _ (.head _)))) | exact .tail _ (.tail _ (.tail _ (.tail _ (.tail _ (.head _))))) | exact .tail _ (.tail _ (.tail _ (.tail _ (.tail _ (.tail _ (.head _)))))) | exact .tail _ (.tail _ (.tail _ (.tail _ (.tail _ (.tail _ (.tail _ (.head _))))))) | exact .tail _ (.tail _ (.tail _ (.tail _ (.tail _ (.tail _ (.tail _ (.tail _ (.head _)))))))) | exact .tail _ (.tail _ (.tail _ (.tail _ (.tail _ (.tail _ (.tail _ (.tail _ (.tail _ (.head _))))))))) | exact .tail _ (.tail _ (.tail _ (.tail _ (.tail _ (.tail _ (.tail _ (.tail _ (.tail _ (.tail _ (.head _))))))))))) (map_fst_le (n := 4611686018427387904) (zp.2.1.trans how.1) (fun y hy => Nat.le_trans (hkl y hy) (by decide))) (by rw [map_fst_len (zp.2.1.trans how.1), List.length_map]; have := hx.2.1; have := X.2.1; omega))) (fun _ => ?_)
    refine RL.pickT rfl rfl rfl rfl ?_
    refine RL.move rfl rfl rfl ?_
    refine RL.move rfl rfl rfl ?_
    refine RL.ofGV rfl rfl (GV.makeBytes (n := 65537) xg_tmk23 rfl rfl (by decide)) (fun mb => ?_)
    refine RL.weak (fun w hw => hw.keepSl) ?_
    refine RL.sub (E' := [(139, .bool true), (140, .pointer (some ⟨zo.1.1, 0, none⟩)), (141, .slice (some ⟨mb, 0, none⟩) (List.replicate 65537 (0 : UInt8)).length 65537)]) ⟨rfl, rfl, by rw [List.length_replicate]; rfl, trivial⟩ ?_
    refine RL.call rfl rfl Try.call29 rfl (lapp_spec (g := (⟨63, x.ks.length, false⟩ : Lg)) (s := (⟨z.2, (openFs (⟨z.2, x.fs, k, false, false, 0⟩ : Ds) 63), k, false, false, 0⟩ : Ds)) (x := List.replicate 65537 0) (by show OkF (openFs _ 63); rw [how.2]; exact hx.2.2.1.hard) (by first | exact .head _ | exact .tail _ (.head _) | exact .tail _ (.tail _ (.head _)) | exact .tail _ (.tail _ (.tail _ (.head _))) | exact .tail _ (.tail _ (.tail _ (.tail _ (.head _)))) | exact .tail _ (.tail _ (.tail _ (.tail _ (.tail _ (.head _))))) | exact .tail _ (.tail _ (.tail _ (.tail _ (.tail _ (.tail _ (.head _)))))) | exact .tail _ (.tail _ (.tail _ (.tail _ (.tail _ (.tail _ (.tail _ (.head _))))))) | exact .tail _ (.tail _ (.tail _ (.tail _ (.tail _ (.tail _ (.tail _ (.tail _ (.head _)))))))) | exact .tail _ (.tail _ (.tail _ (.tail _ (.tail _ (.tail _ (.tail _ (.tail _ (.tail _ (.head _))))))))) | exact .tail _ (.tail _ (.tail _ (.tail _ (.tail _ (.tail _ (.tail _ (.tail _ (.tail _ (.tail _ (.head _))))))))))) (by first | exact .head _ | exact .tail _ (.head _) | exact .tail _ (.tail _ (.head _)) | exact .tail _ (.tail _ (.tail _ (.head _))) | exact .tail _ (.tail _ (.tail _ (.tail _ (.head _)))) | exact .tail _ (.tail _ (.tail _ (.tail _ (.tail _ (.head _))))) | exact .tail _ (.tail _ (.tail _ (.tail _ (.tail _ (.tail _ (.head _)))))) | exact .tail _ (.tail _ (.tail _ (.tail _ (.tail _ (.tail _ (.tail _ (.head _))))))) | exact .tail _ (.tail _ (.tail _ (.tail _ (.tail _ (.tail _ (.tail _ (.tail _ (.head _)))))))) | exact .tail _ (.tail _ (.tail _ (.tail _ (.tail _ (.tail _ (.tail _ (.tail _ (.tail _ (.head _))))))))) | exact .tail _ (.tail _ (.tail _ (.tail _ (.tail _ (.tail _ (.tail _ (.tail _ (.tail _ (.tail _ (.head _))))))))))) (by show used (openFs _ 63) ≤ k; rw [how.2, used_hard]; exact hx.2.2.2.2.2.1) (by show k ≤ _; omega) ⟨by show (-9223372036854775808 : Int) ≤ 63; decide, by show (63 : Int) ≤ 9223372036854775807; decide⟩ ⟨by show (-9223372036854775000 : Int) ≤ 0; decide, by show (0 : Int) ≤ 9223372036854775807; decide⟩ (by show x.ks.length ≤ _; have := hx.2.1; have := X.2.1; omega) (by rw [List.length_replicate]; decide)) (fun zq => ?_)
    rw [(lgE_far (by rw [List.length_replicate]; decide)).1]
    refine RL.bin rfl rfl rfl (BinV.to (d := true) BinV.eql (by simp)) rfl ?_
    refine RL.pickT rfl rfl rfl rfl ?_
    refine RL.move rfl rfl rfl ?_
    refine RL.call rfl rfl Try.call19 rfl (lives_spec) (fun _ => ?_)
    refine RL.pickT rfl rfl rfl rfl ?_
    refine RL.assign rfl rfl rfl ?_
    refine RL.nil ?_
    refine NX.seq ?_
    refine TR.ret ?_
    refine NX.ret1 () rfl rfl rfl (fun w hw => ?_)
    exact (((hw.drop 0 rfl).drop 0 rfl).drop 0 rfl).facts (fun φ h => by
      repeat first | exact h | refine .tail _ ?_)

end Go.Proofs.Ytdlpaojkkekdlaa
