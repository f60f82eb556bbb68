/- Walks of functions of the program. Printed by sx.py. -/
import Derived.Test.YtdlpaojkkekdlaaWc
import Derived.Test.YtdlpaojkkekdlaaJrn
namespace Go.Proofs.Ytdlpaojkkekdlaa
open Go.GL
set_option linter.unusedVariables false
theorem wd_tby23 : tyByte Try.prog 23 = true := by kernel_rfl
theorem wd_ti3 : tyInt Try.prog 3 .i64 = true := by kernel_rfl
theorem wd_ti65 : tyInt Try.prog 65 .u64 = true := by kernel_rfl
theorem wd_tl23 : tySlice Try.prog 23 5 = true := by kernel_rfl
theorem wd_tstr9 : tyStr Try.prog 9 = true := by kernel_rfl
theorem wd_tz5 : tySize Try.prog 5 1 = true := by kernel_rfl
theorem bEqual_spec {x y : List UInt8} {oa ob : Option Addr} {c d : Nat} {M : List HP} {F : List Fact} (hA : Rd M F oa (bytesV x)) (hB : Rd M F ob (bytesV y)) : Ctr Try.prog 95 [.slice oa x.length c, .slice ob y.length d] M F Unit (fun _ => .bool (decide (x = y))) (fun _ => M) (fun _ => F) := by
  refine Ctr.body Try.func95 rfl rfl ?_
  refine TR.seq ?_
  refine TR.region ?_
  refine RL.assign rfl rfl rfl ?_
  refine RL.nil ?_
  refine NX.seq ?_
  refine TR.seq ?_
  refine TR.region ?_
  refine RL.move rfl rfl rfl ?_
  refine RL.convBS rfl wd_tby23 wd_tstr9 rfl rfl hA  rfl ?_
  refine RL.move rfl rfl rfl ?_
  refine RL.convBS rfl wd_tby23 wd_tstr9 rfl rfl hB  rfl ?_
  refine RL.bin rfl rfl rfl BinV.eqlS rfl ?_
  refine RL.assign rfl rfl rfl ?_
  refine RL.nil ?_
  refine NX.seq ?_
  refine TR.ret ?_
  exact NX.ret1 () rfl rfl rfl (fun w hw => hw)

theorem hasPrefix_spec {b f : List UInt8} {oa ob : Option Addr} {c d : Nat} {M : List HP} {F : List Fact} (ha : ArrF oa (bytesV b) ∈ F) (hb : ArrF ob (bytesV f) ∈ F) (hc : b.length ≤ c) : Ctr Try.prog 78 [.slice oa b.length c, .slice ob f.length d] M F Unit (fun _ => .bool (decide (f <+: b))) (fun _ => M) (fun _ => F) := by
  refine Ctr.body Try.func78 rfl rfl ?_
  refine TR.seq ?_
  refine TR.region ?_
  refine RL.assign rfl rfl rfl ?_
  refine RL.nil ?_
  refine NX.seq ?_
  refine TR.seq ?_
  refine TR.region ?_
  refine RL.move rfl rfl rfl ?_
  refine RL.lenSlice rfl wd_tl23 rfl rfl ?_
  refine RL.move rfl rfl rfl ?_
  refine RL.lenSlice rfl wd_tl23 rfl rfl ?_
  refine RL.bin rfl rfl rfl BinV.geq rfl ?_
  refine RL.move rfl rfl rfl ?_
  refine RL.part (fun h1 => ?_) (fun h1 => ?_)
  · skip
    have hle : f.length ≤ b.length := by have := of_decide_eq_true h1; omega
    refine RL.move rfl rfl rfl ?_
    refine RL.move rfl rfl rfl ?_
    refine RL.lenSlice rfl wd_tl23 rfl rfl ?_
    refine RL.sliceToB (k := f.length) (cap := c) rfl wd_tl23 wd_tz5 rfl rfl (by rw [List.length_take, Nat.min_eq_left hle]) hc ha rfl ?_
    refine RL.move rfl rfl rfl ?_
    refine RL.call rfl rfl Try.call95 rfl (bEqual_spec (x := b.take f.length) (y := f) (rd_fact (.head _)) (rd_fact (.tail _ hb))) (fun _ => ?_)
    refine RL.pickT rfl rfl rfl rfl ?_
    refine RL.assign rfl rfl rfl ?_
    refine RL.nil ?_
    refine NX.seq ?_
    refine TR.ret ?_
    refine NX.ret1 () rfl rfl ?_ (fun w hw => hw.facts (fun φ h => .tail _ h))
    congr 1
    exact decide_eq_decide.2 ⟨fun h => h ▸ List.take_prefix _ _, fun h => (List.prefix_iff_eq_take.1 h).symm⟩
  · skip
    have hle : ¬ f.length ≤ b.length := by have := of_decide_eq_false h1; omega
    refine RL.skip rfl rfl rfl ?_
    refine RL.skip rfl rfl rfl ?_
    refine RL.skip rfl rfl rfl ?_
    refine RL.skip rfl rfl rfl ?_
    refine RL.skip rfl rfl rfl ?_
    refine RL.skip rfl rfl rfl ?_
    refine RL.pickF rfl rfl rfl rfl ?_
    refine RL.assign rfl rfl rfl ?_
    refine RL.nil ?_
    refine NX.seq ?_
    refine TR.ret ?_
    refine NX.ret1 () rfl rfl ?_ (fun w hw => hw)
    congr 1
    exact (decide_eq_false (fun h => hle h.length_le)).symm

theorem frame_spec {i : Int} {x : List UInt8} {oa : Option Addr} {c : Nat} {M : List HP} {F : List Fact} (hR : Rd M F oa (bytesV x)) (h0 : -9223372036854775808 ≤ i) (h1 : i ≤ 9223372036854775807) (hx : x.length ≤ 17592186044416) : Ctr Try.prog 13 [I i, .slice oa x.length c] M F (Option Addr × Nat) (fun z => .slice z.1 (frameJ i x).length z.2) (fun z => OwnSl 5 1 z.1 (frameJ i x).length z.2 (bytesV (frameJ i x)) :: M) (fun _ => F) := by
  refine Ctr.body Try.func13 rfl rfl ?_
  refine TR.seq ?_
  refine TR.region ?_
  refine RL.assign rfl rfl rfl ?_
  refine RL.nil ?_
  refine NX.seq ?_
  refine TR.seq ?_
  refine TR.region ?_
  have hcl := coreJ_len h0 h1 (x := x) (by omega)
  have hfl := frameJ_len h0 h1 (x := x) (by omega)
  have h10 := encU_len10 (n := (coreJ i x).length) (by omega)
  refine RL.allocA rfl (Try.zeroValue50) rfl (fun b1 => ?_)
  refine RL.weak (fun w hw => St.wrNew (e := 5) hw) ?_
  refine RL.allocA rfl (Try.zeroValue50) rfl (fun b2 => ?_)
  refine RL.weak (fun w hw => St.wrNew (e := 5) hw) ?_
  refine RL.nil ?_
  refine NX.seq ?_
  refine TR.seq ?_
  refine TR.region ?_
  refine RL.move rfl rfl rfl ?_
  refine RL.call rfl rfl Try.call27 rfl (Ctr.frame1 [_] (wInt_spec (l := []) h0 h1 (by simp))) (fun _ => ?_)
  refine RL.nil ?_
  refine NX.seq ?_
  refine TR.seq ?_
  refine TR.region ?_
  refine RL.move rfl rfl rfl ?_
  refine RL.call rfl rfl Try.call36 rfl (Ctr.frame1 [_] (wRaw_spec (hR.mono (fun w hw => hw.tail.tail)) (by have := encU_len10 (zz_lt h0 h1); simp; omega) (by omega))) (fun _ => ?_)
  refine RL.nil ?_
  refine NX.seq ?_
  refine TR.seq ?_
  refine TR.region ?_
  refine RL.call rfl rfl Try.call30 rfl (Ctr.frame (J := [WrB 50 5 b1 (coreJ i x)]) (J' := fun z : Option Addr × Nat => [OwnSl 5 1 z.1 (coreJ i x).length z.2 (bytesV (coreJ i x)), WrB 50 5 b1 (coreJ i x)]) [_] (wDone_spec (l := coreJ i x) (by omega))) (fun z4 => ?_)
  refine RL.weak (fun w hw => (hw.front (i := 1) rfl).keepSl) ?_
  refine RL.call rfl rfl Try.call36 rfl (wRaw_spec (x := coreJ i x) (l := []) (rd_fact (.head _)) (by simp) (by omega)) (fun _ => ?_)
  refine RL.nil ?_
  refine NX.seq ?_
  refine TR.seq ?_
  refine TR.region ?_
  refine RL.call rfl rfl Try.call30 rfl (Ctr.frame (J := [WrB 50 5 b1 (coreJ i x)]) (J' := fun z : Option Addr × Nat => [OwnSl 5 1 z.1 (coreJ i x).length z.2 (bytesV (coreJ i x)), WrB 50 5 b1 (coreJ i x)]) [_] (wDone_spec (l := coreJ i x) (by omega))) (fun z5 => ?_)
  refine RL.weak (fun w hw => (hw.front (i := 1) rfl).keepSl) ?_
  refine RL.call rfl rfl Try.call40 rfl (hBytes_spec (lb := jl) (b := coreJ i x) (.head _) (by decide) (by omega)) (fun _ => ?_)
  refine RL.call rfl rfl Try.call37 rfl (wUint_spec hashN_lt (by unfold encR; simp only [List.length_append, List.length_nil]; omega)) (fun _ => ?_)
  refine RL.nil ?_
  refine NX.seq ?_
  refine TR.seq ?_
  refine TR.region ?_
  refine RL.call rfl rfl Try.call30 rfl (wDone_spec (l := frameJ i x) (by omega)) (fun z6 => ?_)
  refine RL.assign rfl rfl rfl ?_
  refine RL.nil ?_
  refine NX.seq ?_
  refine TR.ret ?_
  refine NX.ret1x rfl rfl (fun w hw => ⟨z6, rfl, ?_⟩)
  exact ((hw.drop 1 rfl).drop 1 rfl).facts (fun φ h => .tail _ (.tail _ h))

theorem record_spec {b : List UInt8} {oa : Option Addr} {c : Nat} {M : List HP} {F : List Fact} (ha : ArrF oa (bytesV b) ∈ F) (hc : b.length ≤ c) (hl : b.length ≤ 70368744177664) : Ctr Try.prog 77 [.slice oa b.length c] M F (Option Addr × Nat) (fun z => .slice z.1 (recOf b).length z.2) (fun z => OwnSl 5 1 z.1 (recOf b).length z.2 (bytesV (recOf b)) :: M) (fun _ => F) := by
  refine Ctr.body Try.func77 rfl rfl ?_
  refine TR.seq ?_
  refine TR.region ?_
  refine RL.assign rfl rfl rfl ?_
  refine RL.nil ?_
  refine NX.seq ?_
  refine TR.seq ?_
  refine TR.region ?_
  refine RL.move rfl rfl rfl ?_
  refine RL.move rfl rfl rfl ?_
  refine RL.lenSlice rfl wd_tl23 rfl rfl ?_
  refine RL.min rfl rfl rfl rfl ?_
  refine RL.sliceToB (k := 10) (cap := c) rfl wd_tl23 wd_tz5 rfl rfl (by rw [List.length_take]; omega) hc ha rfl ?_
  refine RL.call rfl rfl Try.call32 rfl (read_spec (l := b.take 10) (.head _) (by rw [List.length_take]; omega)) (fun r1 => ?_)
  refine RL.call rfl rfl Try.call39 rfl (rUint_spec (e := 0) (.head _) r1.2) (fun u1 => ?_)
  refine RL.assign rfl rfl rfl ?_
  refine RL.nil ?_
  refine NX.seq ?_
  refine TR.seq ?_
  refine TR.region ?_
  refine RL.move rfl rfl rfl ?_
  refine RL.lenSlice rfl wd_tl23 rfl rfl ?_
  refine RL.conv rfl rfl (ConvV.iu wd_ti3 wd_ti65 (by omega)) rfl ?_
  refine RL.assign rfl rfl rfl ?_
  refine RL.nil ?_
  refine NX.seq ?_
  refine TR.seq ?_
  refine TR.region ?_
  refine RL.move rfl rfl rfl ?_
  refine RL.move rfl rfl rfl ?_
  refine RL.move rfl rfl rfl ?_
  refine RL.move rfl rfl rfl ?_
  refine RL.minU rfl rfl rfl rfl ?_
  refine RL.bin rfl rfl rfl (BinV.addU (a := 10) (by omega)) rfl ?_
  refine RL.minU rfl rfl rfl rfl ?_
  refine RL.sliceToB (k := (min b.length (10 + min (rdU (b.take 10) 0).1 b.length))) (cap := c) rfl wd_tl23 wd_tz5 rfl rfl (by rw [List.length_take]; omega) hc (by first | exact ha | exact .tail _ ha | exact .tail _ (.tail _ ha) | exact .tail _ (.tail _ (.tail _ ha))) rfl ?_
  refine RL.call rfl rfl Try.call32 rfl (read_spec (l := b.take (min b.length (10 + min (rdU (b.take 10) 0).1 b.length))) (.head _) (by rw [List.length_take]; omega)) (fun r3 => ?_)
  refine RL.assign rfl rfl rfl ?_
  refine RL.nil ?_
  refine NX.seq ?_
  refine TR.seq ?_
  refine TR.region ?_
  refine RL.move rfl rfl rfl ?_
  have hco : (rdRaw (b.take (min b.length (10 + min (rdU (b.take 10) 0).1 b.length))) 0).1.length ≤ 70368744177664 := by
    have h9 := rdRaw_len (l := b.take (min b.length (10 + min (rdU (b.take 10) 0).1 b.length))) (e := 0)
    rw [List.length_take] at h9; omega
  have hco2 : (rdU (rdRaw (b.take (min b.length (10 + min (rdU (b.take 10) 0).1 b.length))) 0).1 0).2.1.length ≤ 70368744177664 := by
    have h9 := rdU_len (l := (rdRaw (b.take (min b.length (10 + min (rdU (b.take 10) 0).1 b.length))) 0).1) (e := 0)
    omega
  refine RL.call rfl rfl Try.call38 rfl (rRaw_spec (e := 0) (.head _) r3.2 (by rw [List.length_take]; omega)) (fun w4 => ?_)
  refine RL.weak (fun w hw => hw.keepSl) ?_
  refine RL.call rfl rfl Try.call32 rfl (read_spec (l := (rdRaw (b.take (min b.length (10 + min (rdU (b.take 10) 0).1 b.length))) 0).1) (.head _) hco) (fun r4 => ?_)
  refine RL.assign rfl rfl rfl ?_
  refine RL.nil ?_
  refine NX.seq ?_
  refine TR.seq ?_
  refine TR.region ?_
  refine RL.move rfl rfl rfl ?_
  refine RL.call rfl rfl Try.call33 rfl (rInt_spec (e := 0) (.head _) r4.2) (fun n4 => ?_)
  refine RL.nil ?_
  refine NX.seq ?_
  refine TR.seq ?_
  refine TR.region ?_
  refine RL.move rfl rfl rfl ?_
  refine RL.call rfl rfl Try.call38 rfl (rRaw_spec (.head _) n4.2 hco2) (fun w6 => ?_)
  refine RL.assign rfl rfl rfl ?_
  refine RL.nil ?_
  refine NX.seq ?_
  refine TR.ret ?_
  refine NX.ret1x rfl rfl (fun w hw => ⟨(w6.1.ro, w6.1.rc), rfl, ?_⟩)
  exact (((hw.drop 1 rfl).drop 1 rfl).drop 1 rfl).facts (fun φ h => by simp [h])

end Go.Proofs.Ytdlpaojkkekdlaa
