/- Walks of functions of the program. Printed by sx.py. -/
import Derived.Test.YtdlpaojkkekdlaaWj
import Derived.Test.YtdlpaojkkekdlaaWe
import Derived.Test.YtdlpaojkkekdlaaLvs
namespace Go.Proofs.Ytdlpaojkkekdlaa
open Go.GL
set_option linter.unusedVariables false
theorem wk_bs23_1_0 (x0 : Int) : BuildSV Try.prog 23 5 1 [(0, .int .u8 x0)] [.int .u8 x0] := fun w => by kernel_rfl
theorem wk_bs23_3_0_1_2 (x0 : Int) (x1 : Int) (x2 : Int) : BuildSV Try.prog 23 5 3 [(0, .int .u8 x0), (1, .int .u8 x1), (2, .int .u8 x2)] [.int .u8 x0, .int .u8 x1, .int .u8 x2] := fun w => by kernel_rfl
theorem wk_bs27_1_0 (x0 : Option Addr) (x0n x0c : Nat) : BuildSV Try.prog 27 23 1 [(0, .slice x0 x0n x0c)] [.slice x0 x0n x0c] := fun w => by kernel_rfl
theorem wk_ni23 : noInt Try.prog 23 = true := by kernel_rfl
theorem wk_te5 : tyElem Try.prog 5 1 1 = true := by kernel_rfl
theorem wk_tl23 : tySlice Try.prog 23 5 = true := by kernel_rfl
theorem lives_spec {M : List HP} {F : List Fact} : Ctr Try.prog 19 [] M F Unit (fun _ => .bool true) (fun _ => M) (fun _ => F) := by
  refine Ctr.body Try.func19 rfl rfl ?_
  refine TR.seq ?_
  refine TR.region ?_
  refine RL.assign rfl rfl rfl ?_
  refine RL.nil ?_
  refine NX.seq ?_
  refine TR.seq ?_
  refine TR.region ?_
  have hfl : (frameJ 0 [7]).length ≤ 1 + 40 := (frameJ_len (i := 0) (x := [7]) (by decide) (by decide) (by decide)).1
  refine RL.buildSlice rfl rfl (wk_bs23_1_0 _) rfl (fun b1 => ?_)
  refine RL.weak (fun w hw => hw.boxBytes [7] rfl) ?_
  refine RL.call rfl rfl Try.call13 rfl (frame_spec (i := 0) (x := [7]) (rd_fact (.head _)) (by decide) (by decide) (by decide)) (fun f => ?_)
  refine RL.assign rfl rfl rfl ?_
  refine RL.nil ?_
  refine NX.seq ?_
  refine TR.seq ?_
  refine TR.region ?_
  refine RL.allocA rfl (Try.zeroValue50) rfl (fun b2 => ?_)
  refine RL.weak (fun w hw => St.wrNew (e := 5) hw) ?_
  refine RL.nil ?_
  refine NX.seq ?_
  refine TR.seq ?_
  refine TR.region ?_
  refine RL.buildSlice rfl rfl (wk_bs23_3_0_1_2 _ _ _) rfl (fun b3 => ?_)
  refine RL.weak (fun w hw => hw.boxBytes [0, 1, 7] rfl) ?_
  refine RL.call rfl rfl Try.call36 rfl (wRaw_spec (x := [0, 1, 7]) (l := []) (rd_fact (.head _)) (by decide) (by decide)) (fun _ => ?_)
  refine RL.nil ?_
  refine NX.seq ?_
  refine TR.seq ?_
  refine TR.region ?_
  refine RL.buildSlice rfl rfl (wk_bs23_3_0_1_2 _ _ _) rfl (fun b4 => ?_)
  refine RL.weak (fun w hw => hw.boxBytes [0, 1, 7] rfl) ?_
  refine RL.call rfl rfl Try.call40 rfl (hBytes_spec (lb := jl) (b := [0, 1, 7]) (.head _) (by decide) (by decide)) (fun _ => ?_)
  refine RL.call rfl rfl Try.call37 rfl (wUint_spec (l := [] ++ encR [0, 1, 7]) hashN_lt (by rw [encR3]; decide)) (fun _ => ?_)
  refine RL.nil ?_
  refine NX.seq ?_
  refine TR.seq ?_
  refine TR.region ?_
  refine RL.move rfl rfl rfl ?_
  refine RL.lenSlice rfl wk_tl23 rfl rfl ?_
  refine RL.assign rfl rfl rfl ?_
  refine RL.nil ?_
  refine NX.seq ?_
  refine TR.seq ?_
  refine TR.region ?_
  refine RL.move rfl rfl rfl ?_
  refine RL.buildSlice rfl rfl (wk_bs23_3_0_1_2 _ _ _) rfl (fun b5 => ?_)
  refine RL.ofGV rfl rfl (GV.appendK (j := 2) wk_tl23 wk_ni23 wk_te5 rfl rfl rfl (src_box (i := 0) rfl rfl rfl) (by omega) (by omega)) (fun y => ?_)
  refine RL.sub (E' := [(1, .slice f.1 (frameJ 0 [7]).length f.2), (2, .pointer (some ⟨b2, 0, none⟩)), (3, I ((frameJ 0 [7]).length : Nat)), (18, .slice y.1.1 (frameJ 0 [7] ++ [3, 0, 1]).length y.1.2)]) ⟨rfl, rfl, rfl, by rw [List.length_append]; rfl, trivial⟩ ?_
  refine RL.weak (fun w hw => by
    have h9 := hw.drop 0 rfl
    have e9 : bytesV (frameJ 0 [7] ++ [3, 0, 1]) = bytesV (frameJ 0 [7]) ++ [.int .u8 3, .int .u8 0, .int .u8 1] := bytesV_append _ _
    rw [← e9] at h9
    exact h9) ?_
  refine RL.call rfl rfl Try.call16 rfl (scan_spec (b := (frameJ 0 [7] ++ [3, 0, 1])) (.head _) (by rw [List.length_append]; exact y.2) (by rw [List.length_append]; have := hfl; show _ + 3 ≤ _; omega)) (fun r => ?_)
  refine RL.weak (fun w hw => hw.keepSl) ?_
  refine RL.move rfl rfl rfl ?_
  refine RL.extract rfl rfl rfl rfl ?_
  refine RL.extract rfl rfl rfl rfl ?_
  refine RL.assign rfl rfl rfl ?_
  refine RL.assign rfl rfl rfl ?_
  refine RL.nil ?_
  refine NX.seq ?_
  refine TR.seq ?_
  refine TR.region ?_
  refine RL.move rfl rfl rfl ?_
  refine RL.call rfl rfl Try.call30 rfl (wDone_spec (l := [] ++ encR [0, 1, 7] ++ encU (hashN jl [0, 1, 7])) (by rw [live_frame]; omega)) (fun d => ?_)
  refine RL.weak (fun w hw => hw.keepSl.drop 0 rfl) ?_
  refine RL.call rfl rfl Try.call12 rfl (Ctr.boolT (decide_eq_true live_frame.symm) (sameB_spec (xs := frameJ 0 [7]) (ys := [] ++ encR [0, 1, 7] ++ encU (hashN jl [0, 1, 7])) (by first | exact .head _ | exact .tail _ (.head _) | exact .tail _ (.tail _ (.head _)) | exact .tail _ (.tail _ (.tail _ (.head _))) | exact .tail _ (.tail _ (.tail _ (.tail _ (.head _)))) | exact .tail _ (.tail _ (.tail _ (.tail _ (.tail _ (.head _))))) | exact .tail _ (.tail _ (.tail _ (.tail _ (.tail _ (.tail _ (.head _)))))) | exact .tail _ (.tail _ (.tail _ (.tail _ (.tail _ (.tail _ (.tail _ (.head _))))))) | exact .tail _ (.tail _ (.tail _ (.tail _ (.tail _ (.tail _ (.tail _ (.tail _ (.head _)))))))) | exact .tail _ (.tail _ (.tail _ (.tail _ (.tail _ (.tail _ (.tail _ (.tail _ (.tail _ (.head _)))))))))) (.head _) (by omega))) (fun _ => ?_)
  refine RL.move rfl rfl rfl ?_
  refine RL.move rfl rfl rfl ?_
  refine RL.bin rfl rfl rfl (BinV.to (d := true) BinV.gtr (decide_eq_true (by have := live_len; omega))) rfl ?_
  refine RL.pickT rfl rfl rfl rfl ?_
  refine RL.move rfl rfl rfl ?_
  refine RL.move rfl rfl rfl ?_
  refine RL.move rfl rfl rfl ?_
  refine RL.bin rfl rfl rfl (BinV.to (d := true) BinV.eql (decide_eq_true (by rw [live_end]))) rfl ?_
  refine RL.pickT rfl rfl rfl rfl ?_
  refine RL.move rfl rfl rfl ?_
  refine RL.move rfl rfl rfl ?_
  refine RL.buildSlice rfl rfl (wk_bs23_1_0 _) rfl (fun b6 => ?_)
  refine RL.weak (fun w hw => hw.boxBytes [7] rfl) ?_
  refine RL.buildSlice rfl rfl (wk_bs27_1_0 _ _ _) rfl (fun b7 => ?_)
  refine RL.weak (fun w hw => (show St w _ (ArrF _ (listV [([7], ⟨some ⟨b6, 0, none⟩, 1⟩)]) :: _) from hw.boxArr).allB_one (p := ([7], ⟨some ⟨b6, 0, none⟩, 1⟩)) (.tail _ (.head _))) ?_
  refine RL.call rfl rfl Try.call18 rfl (Ctr.boolT (decide_eq_true (by rw [r.2.1, live_scan]; rfl)) (sameL_spec (ps := r.1.ps) (qs := [([7], ⟨some ⟨b6, 0, none⟩, 1⟩)]) (by first | exact .head _ | exact .tail _ (.head _) | exact .tail _ (.tail _ (.head _)) | exact .tail _ (.tail _ (.tail _ (.head _))) | exact .tail _ (.tail _ (.tail _ (.tail _ (.head _)))) | exact .tail _ (.tail _ (.tail _ (.tail _ (.tail _ (.head _))))) | exact .tail _ (.tail _ (.tail _ (.tail _ (.tail _ (.tail _ (.head _)))))) | exact .tail _ (.tail _ (.tail _ (.tail _ (.tail _ (.tail _ (.tail _ (.head _))))))) | exact .tail _ (.tail _ (.tail _ (.tail _ (.tail _ (.tail _ (.tail _ (.tail _ (.head _)))))))) | exact .tail _ (.tail _ (.tail _ (.tail _ (.tail _ (.tail _ (.tail _ (.tail _ (.tail _ (.head _)))))))))) (by first | exact .head _ | exact .tail _ (.head _) | exact .tail _ (.tail _ (.head _)) | exact .tail _ (.tail _ (.tail _ (.head _))) | exact .tail _ (.tail _ (.tail _ (.tail _ (.head _)))) | exact .tail _ (.tail _ (.tail _ (.tail _ (.tail _ (.head _))))) | exact .tail _ (.tail _ (.tail _ (.tail _ (.tail _ (.tail _ (.head _)))))) | exact .tail _ (.tail _ (.tail _ (.tail _ (.tail _ (.tail _ (.tail _ (.head _))))))) | exact .tail _ (.tail _ (.tail _ (.tail _ (.tail _ (.tail _ (.tail _ (.tail _ (.head _)))))))) | exact .tail _ (.tail _ (.tail _ (.tail _ (.tail _ (.tail _ (.tail _ (.tail _ (.tail _ (.head _)))))))))) (by first | exact .head _ | exact .tail _ (.head _) | exact .tail _ (.tail _ (.head _)) | exact .tail _ (.tail _ (.tail _ (.head _))) | exact .tail _ (.tail _ (.tail _ (.tail _ (.head _)))) | exact .tail _ (.tail _ (.tail _ (.tail _ (.tail _ (.head _))))) | exact .tail _ (.tail _ (.tail _ (.tail _ (.tail _ (.tail _ (.head _)))))) | exact .tail _ (.tail _ (.tail _ (.tail _ (.tail _ (.tail _ (.tail _ (.head _))))))) | exact .tail _ (.tail _ (.tail _ (.tail _ (.tail _ (.tail _ (.tail _ (.tail _ (.head _)))))))) | exact .tail _ (.tail _ (.tail _ (.tail _ (.tail _ (.tail _ (.tail _ (.tail _ (.tail _ (.head _)))))))))) (.head _) (map_fst_le r.2.1 (by rw [live_scan]; intro x hx; rw [List.mem_singleton.1 hx]; decide)) (by rw [map_fst_len r.2.1, live_scan]; decide))) (fun _ => ?_)
  refine RL.pickT rfl rfl rfl rfl ?_
  refine RL.assign rfl rfl rfl ?_
  refine RL.nil ?_
  refine NX.seq ?_
  refine TR.ret ?_
  exact NX.ret1 () rfl rfl rfl (fun w hw => hw.facts (fun φ h => .tail _ (.tail _ (.tail _ (.tail _ (.tail _ (.tail _ (.tail _ (.tail _ (.tail _ (.tail _ (.tail _ (h)))))))))))))

end Go.Proofs.Ytdlpaojkkekdlaa
