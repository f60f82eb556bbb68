/- Walks of functions of the program. Printed by sx.py. -/
import Derived.Test.YtdlpaojkkekdlaaWk
import Derived.Test.YtdlpaojkkekdlaaFrk
namespace Go.Proofs.Ytdlpaojkkekdlaa
open Go.GL
set_option linter.unusedVariables false
theorem wm_bs27_3_0_1_2 (x0 : Option Addr) (x0n x0c : Nat) (x1 : Option Addr) (x1n x1c : Nat) (x2 : Option Addr) (x2n x2c : Nat) : BuildSV Try.prog 27 23 3 [(0, .slice x0 x0n x0c), (1, .slice x1 x1n x1c), (2, .slice x2 x2n x2c)] [.slice x0 x0n x0c, .slice x1 x1n x1c, .slice x2 x2n x2c] := fun w => by kernel_rfl
theorem wm_ni23 : noInt Try.prog 23 = true := by kernel_rfl
theorem wm_te5 : tyElem Try.prog 5 1 1 = true := by kernel_rfl
theorem wm_tl23 : tySlice Try.prog 23 5 = true := by kernel_rfl
theorem wm_tl27 : tySlice Try.prog 27 23 = true := by kernel_rfl
theorem wm_ts23 : tyScalar Try.prog 23 = true := by kernel_rfl
theorem wm_tz23 : tySize Try.prog 23 1 = true := by kernel_rfl
theorem wm_tz5 : tySize Try.prog 5 1 = true := by kernel_rfl
set_option maxHeartbeats 1000000 in
theorem law_scans {raw : List UInt8} {xs : List Int} {n q : Int} {oa ob : Option Addr} {ca cb : Nat} {M : List HP} {F : List Fact} (hb : ArrF ob (bytesV raw) ∈ F) (hbc : raw.length ≤ cb) (ha : ArrF oa (ints xs) ∈ F) (hxs : IntsOk xs) (hn : -9223372036854775808 ≤ n ∧ n ≤ 9223372036854775807) (hq : 0 ≤ q ∧ q ≤ 255) : Ctr Try.prog 4 [.slice ob raw.length cb, .slice oa xs.length ca, I n, .int .u8 q] M F Unit (fun _ => .bool true) (fun _ => M) (fun _ => F) := by
  refine Ctr.body Try.func4 rfl rfl ?_
  refine TR.seq ?_
  refine TR.region ?_
  refine RL.assign rfl rfl rfl ?_
  refine RL.nil ?_
  refine NX.seq ?_
  refine TR.seq ?_
  refine TR.region ?_
  refine RL.move rfl rfl rfl ?_
  refine RL.call rfl rfl Try.call15 rfl (records_spec2 (by first | exact ha | exact .tail _ ha | exact .tail _ (.tail _ ha) | exact .tail _ (.tail _ (.tail _ ha)) | exact .tail _ (.tail _ (.tail _ (.tail _ ha))) | exact .tail _ (.tail _ (.tail _ (.tail _ (.tail _ ha)))) | exact .tail _ (.tail _ (.tail _ (.tail _ (.tail _ (.tail _ ha)))))) hxs) (fun x => ?_)
  refine RL.weak (fun w hw => hw.keepSl) ?_
  refine RL.assign rfl rfl rfl ?_
  refine RL.nil ?_
  refine NX.seq ?_
  refine TR.seq ?_
  refine TR.region ?_
  refine RL.assign rfl rfl rfl ?_
  refine RL.nil ?_
  refine NX.seq ?_
  refine TR.seq ?_
  refine TR.seq ?_
  refine TR.region ?_
  have hlb2 : ∀ y, y ∈ (x.1.ps.map Prod.fst) → y.length ≤ 11 := fun y hy => by obtain ⟨p, hp, rfl⟩ := List.mem_map.1 hy; exact (x.2.2 p hp).1
  refine RL.assign rfl rfl rfl ?_
  refine RL.weak (fun w hw => OwnSl.nil_new 5 1 hw) ?_
  refine RL.nil ?_
  refine NX.seq ?_
  refine TR.block ?_
  refine TR.loopP (ι := IsX) (fun s => s.k ≤ x.1.ps.length) (fun s => [(0, .slice ob raw.length cb), (2, I n), (3, .int .u8 q), (9, .slice x.1.oa x.1.ps.length x.1.c), (10, .slice s.oa (framesJ 0 ((x.1.ps.map Prod.fst).take s.k)).length s.c), (11, I s.k)]) (fun s => OwnSl 5 1 s.oa (framesJ 0 ((x.1.ps.map Prod.fst).take s.k)).length s.c (bytesV (framesJ 0 ((x.1.ps.map Prod.fst).take s.k))) :: M) (fun _ => ArrF x.1.oa (listV x.1.ps) :: AllB x.1.ps :: F) (fun s => x.1.ps.length - s.k) ⟨0, none, 0⟩ (Nat.zero_le _) ⟨rfl, rfl, rfl, rfl, rfl, rfl, trivial⟩ (fun w hw => hw) (fun s hk => ?_)
  refine TR.seq ?_
  refine TR.seq ?_
  refine TR.region ?_
  refine RL.move rfl rfl rfl ?_
  refine RL.move rfl rfl rfl ?_
  refine RL.lenSlice rfl wm_tl27 rfl rfl ?_
  refine RL.bin rfl rfl rfl BinV.lss rfl ?_
  refine RL.nil ?_
  refine NX.seq ?_
  refine TR.cond rfl (fun h1 => ?_) (fun h1 => ?_)
  · skip
    have hk1 : s.k < x.1.ps.length := by have := of_decide_eq_true h1; omega
    have hlk : s.k < (x.1.ps.map Prod.fst).length := by rw [List.length_map]; exact hk1
    have hx6 := x.2.1
    have hrk := (x.2.2 _ (List.getElem_mem hk1)).1
    have hfk := (frameJ_len (i := (s.k : Int)) (x := x.1.ps[s.k].1) (by omega) (by omega) (by omega)).1
    refine TR.weak (fun w hw => hw.allB_get (.tail _ (.head _)) (List.getElem_mem hk1)) ?_
    refine TR.openP (open_arr (oa := x.1.oa) (xs := listV x.1.ps) (.tail _ (.head _)) (listV_ne hk1)) (fun pq hpa => ?_)
    refine TR.skip ?_
    refine NX.seq ?_
    refine TR.seq ?_
    refine TR.block ?_
    refine TR.region ?_
    have hnx : framesJ 0 ((x.1.ps.map Prod.fst).take (s.k + 1)) = (framesJ 0 ((x.1.ps.map Prod.fst).take s.k)) ++ frameJ (s.k : Int) x.1.ps[s.k].1 := by rw [framesJ_next hlk, List.getElem_map]
    have hTl := framesJ_bound ((x.1.ps.map Prod.fst).take s.k) 0 (by rw [List.length_take, List.length_map]; omega) (fun y hy => hlb2 y (List.mem_of_mem_take hy)) (by decide)
    have hTl2 : (framesJ 0 ((x.1.ps.map Prod.fst).take s.k)).length ≤ 51 * 6 := Nat.le_trans hTl (Nat.mul_le_mul_left _ (by rw [List.length_take]; omega))
    refine RL.move rfl rfl rfl ?_
    refine RL.move rfl rfl rfl ?_
    refine RL.move rfl rfl rfl ?_
    refine RL.move rfl rfl rfl ?_
    refine RL.indexAddr rfl wm_tl27 wm_tz23 (congrArg (fun a => some (Value.slice a _ _)) hpa) rfl (by omega) (by omega) rfl ?_
    refine RL.loadF rfl rfl (fun w K hF => run_loadCell1 (j := (s.k : Int).toNat * 1) (v := .slice x.1.ps[s.k].2.oa x.1.ps[s.k].1.length x.1.ps[s.k].2.c) (hF _ (.head _)) wm_ts23 (listV_get hk1)) rfl ?_
    refine RL.call rfl rfl Try.call14 rfl (rFrame_spec (i := (s.k : Int)) (x := x.1.ps[s.k].1) (.tail _ (.head _)) (by omega) (by omega) (by omega)) (fun f => ?_)
    refine RL.weak (fun w hw => hw.keepSl) ?_
    refine RL.ofGV rfl rfl (GV.append (j := 0) wm_tl23 wm_ni23 wm_te5 rfl rfl rfl (src_fact (xs := bytesV (frameJ (s.k : Int) x.1.ps[s.k].1)) (.head _) (by rw [bytesV_length, Nat.mul_one]) (bytesV_one _)) (by omega) (by omega)) (fun y => ?_)
    refine RL.assign rfl rfl rfl ?_
    refine RL.nil ?_
    refine NX.off ?_
    refine NX.seq ?_
    refine TR.region ?_
    refine RL.move rfl rfl rfl ?_
    refine RL.bin rfl rfl rfl (BinV.add _ rfl (by omega) (by omega)) rfl ?_
    refine RL.assign rfl rfl rfl ?_
    refine RL.nil ?_
    refine NX.roundP ⟨s.k + 1, y.1, y.2⟩ (by show s.k + 1 ≤ _; omega) (by show x.1.ps.length - (s.k + 1) < _; omega) ⟨rfl, rfl, rfl, rfl, ?_, rfl, trivial⟩ (fun w hw => ?_)
    · show some (Value.slice y.1 ((framesJ 0 ((x.1.ps.map Prod.fst).take s.k)).length + (frameJ (s.k : Int) x.1.ps[s.k].1).length) y.2) = some (Value.slice y.1 (framesJ 0 ((x.1.ps.map Prod.fst).take (s.k + 1))).length y.2)
      rw [hnx, List.length_append]
    · show St w (OwnSl 5 1 y.1 (framesJ 0 ((x.1.ps.map Prod.fst).take (s.k + 1))).length y.2 (bytesV (framesJ 0 ((x.1.ps.map Prod.fst).take (s.k + 1)))) :: M) _
      rw [hnx, List.length_append, bytesV_append]
      exact hw.facts (fun φ h => .tail _ (.tail _ (.tail _ (h))))
  · skip
    have hk2 : s.k = x.1.ps.length := by have := of_decide_eq_false h1; omega
    have hAl := framesJ_bound ((x.1.ps.map Prod.fst).take s.k) 0 (by rw [List.length_take, List.length_map]; have := x.2.1; omega) (fun y hy => hlb2 y (List.mem_of_mem_take hy)) (by decide)
    have hAl2 : (framesJ 0 ((x.1.ps.map Prod.fst).take s.k)).length ≤ 51 * 6 := Nat.le_trans hAl (Nat.mul_le_mul_left _ (by rw [List.length_take, List.length_map]; have := x.2.1; omega))
    refine TR.exit ?_
    refine NX.exitThen ?_
    refine NX.exitThen ?_
    refine NX.exitHere ?_
    refine NX.seq ?_
    refine TR.cut (ι := {x : RbX // x.l.length ≤ 51 * 6}) (fun X => [(0, .slice ob raw.length cb), (10, .slice X.1.oa X.1.l.length X.1.c)]) (fun X => OwnSl 5 1 X.1.oa X.1.l.length X.1.c (bytesV X.1.l) :: M) (fun _ => F) ?_ (fun X => ?_)
    · skip
      refine TR.seq ?_
      refine TR.region ?_
      refine RL.move rfl rfl rfl ?_
      refine RL.lenSlice rfl wm_tl23 rfl rfl ?_
      refine RL.bin rfl rfl rfl BinV.gtr rfl ?_
      refine RL.nil ?_
      refine NX.seq ?_
      refine TR.cond rfl (fun h3 => ?_) (fun h3 => ?_)
      · skip
        have hpos : 0 < (framesJ 0 ((x.1.ps.map Prod.fst).take s.k)).length := by have := of_decide_eq_true h3; omega
        refine TR.region ?_
        refine RL.move rfl rfl rfl ?_
        refine RL.move rfl rfl rfl ?_
        refine RL.move rfl rfl rfl ?_
        refine RL.lenSlice rfl wm_tl23 rfl rfl ?_
        refine RL.call rfl rfl Try.call20 rfl (around_spec (by omega) hn.1 hn.2) (fun r => ?_)
        refine RL.move rfl rfl rfl ?_
        have hr := r.2
        refine RL.openP (fun w hw => own_at (i := 0) (M := _ :: M) rfl (bytesV_ne (i := 0) hpos) hw) (fun g hga => ?_)
        refine RL.indexAddr rfl wm_tl23 wm_tz5 (congrArg (fun a => some (Value.slice a _ _)) hga) rfl (by omega) (by omega) rfl ?_
        refine RL.ofEV rfl rfl (EV.storeO (vs := [.int .u8 q]) 0 rfl rfl rfl hga wm_tz5 rfl (by rw [bytesV_length]; show 0 + r.1.toNat * 1 + 1 ≤ _; omega) rfl) ?_
        refine RL.nil ?_
        have hset : bytesV ((framesJ 0 ((x.1.ps.map Prod.fst).take s.k)).set r.1.toNat (UInt8.ofNat q.toNat)) = (bytesV (framesJ 0 ((x.1.ps.map Prod.fst).take s.k))).take (0 + r.1.toNat * 1) ++ [.int .u8 q] ++ (bytesV (framesJ 0 ((x.1.ps.map Prod.fst).take s.k))).drop (0 + r.1.toNat * 1 + 1) := bytesV_set hq.1 hq.2 (by omega)
        refine NX.meet (⟨⟨(framesJ 0 ((x.1.ps.map Prod.fst).take s.k)).set r.1.toNat (UInt8.ofNat q.toNat), s.oa, s.c⟩, by show (List.set _ _ _).length ≤ _; rw [List.length_set]; exact hAl2⟩ : {x : RbX // x.l.length ≤ 51 * 6}) ⟨rfl, by show some (Value.slice s.oa (framesJ 0 ((x.1.ps.map Prod.fst).take s.k)).length s.c) = some (Value.slice s.oa ((framesJ 0 ((x.1.ps.map Prod.fst).take s.k)).set r.1.toNat (UInt8.ofNat q.toNat)).length s.c); rw [List.length_set], trivial⟩ (fun w hw => ?_)
        show St w (OwnSl 5 1 s.oa ((framesJ 0 ((x.1.ps.map Prod.fst).take s.k)).set r.1.toNat (UInt8.ofNat q.toNat)).length s.c (bytesV ((framesJ 0 ((x.1.ps.map Prod.fst).take s.k)).set r.1.toNat (UInt8.ofNat q.toNat))) :: M) F
        rw [List.length_set, hset]
        exact hw.facts (fun φ h => .tail _ (.tail _ (h)))
      · skip
        refine TR.skip ?_
        exact NX.meet (⟨⟨(framesJ 0 ((x.1.ps.map Prod.fst).take s.k)), s.oa, s.c⟩, hAl2⟩ : {x : RbX // x.l.length ≤ 51 * 6}) ⟨rfl, rfl, trivial⟩ (fun w hw => hw.facts (fun φ h => .tail _ (.tail _ (h))))
    refine TR.seq ?_
    refine TR.open1 (fun w hw => ⟨hw.ownLen.2, hw⟩) (fun hXc => ?_)
    refine TR.weak (fun w hw => (hw.keepSl.cutT 5 hbc (by first | exact hb | exact .tail _ hb | exact .tail _ (.tail _ hb) | exact .tail _ (.tail _ (.tail _ hb)) | exact .tail _ (.tail _ (.tail _ (.tail _ hb))) | exact .tail _ (.tail _ (.tail _ (.tail _ (.tail _ hb)))) | exact .tail _ (.tail _ (.tail _ (.tail _ (.tail _ (.tail _ hb)))))))) ?_
    have hf5 := (frameJ_len (i := 1) (x := raw.take 5) (by omega) (by omega) (by rw [List.length_take]; omega)).1
    have h55 : (raw.take 5).length ≤ 5 := by rw [List.length_take]; omega
    refine TR.sub (E' := [(0, _), (10, _)]) ⟨rfl, rfl, trivial⟩ ?_
    refine TR.draw mixed ?_
    apply AR.more [(0, _), (2, _), (3, _), (4, _), (5, _), (6, _), (7, _)]
    refine AR.eff [0, 2, 3, 4, 5, 6, 7] 1 [0, 1, 2, 3, 4, 5, 6, 7, 8, 9, 10] ⟨QOne.yes rfl rfl rfl (PV.move rfl), QOne.yes rfl rfl rfl (PV.move rfl), QOne.yes rfl rfl rfl (PV.move rfl), QOne.yes rfl rfl rfl (PV.move rfl), QOne.yes rfl rfl rfl (PV.lenSlice wm_tl23 rfl), QOne.yes rfl rfl rfl (PV.cast (v' := I ((raw.take 5).length : Nat)) (congrArg (Value.int .i64) (by rw [List.length_take]; omega)) (PV.min rfl rfl)), QOne.yes rfl rfl rfl (PV.sliceLH (l := 0) (h := (raw.take 5).length) wm_tl23 wm_tz5 rfl (.inl ⟨rfl, rfl⟩) (.inr ⟨_, rfl, rfl⟩) (Nat.zero_le _) (by rw [List.length_take]; omega)), trivial⟩ rfl rfl rfl rfl rfl rfl rfl (EV.call rfl Try.call11 (few_spec (m := 60) (by first | exact hb | exact .tail _ hb | exact .tail _ (.tail _ hb) | exact .tail _ (.tail _ (.tail _ hb)) | exact .tail _ (.tail _ (.tail _ (.tail _ hb))) | exact .tail _ (.tail _ (.tail _ (.tail _ (.tail _ hb)))) | exact .tail _ (.tail _ (.tail _ (.tail _ (.tail _ (.tail _ hb))))) | exact .tail _ (.tail _ (.tail _ (.tail _ (.tail _ (.tail _ (.tail _ hb)))))) | exact .tail _ (.tail _ (.tail _ (.tail _ (.tail _ (.tail _ (.tail _ (.tail _ hb)))))))) hbc (by decide))) (fun z => ?_)
    refine AR.done [0] rfl ?_
    refine AR.eff [2, 3, 4, 5, 6, 7] 8 [0, 1, 2, 3, 4, 5, 6, 7, 8, 9, 10] ⟨QOne.yes rfl rfl rfl (PV.move rfl), QOne.yes rfl rfl rfl (PV.move rfl), QOne.yes rfl rfl rfl (PV.move rfl), QOne.yes rfl rfl rfl (PV.lenSlice wm_tl23 rfl), QOne.yes rfl rfl rfl (PV.cast (v' := I ((raw.take 5).length : Nat)) (congrArg (Value.int .i64) (by rw [List.length_take]; omega)) (PV.min rfl rfl)), QOne.yes rfl rfl rfl (PV.sliceLH (l := 0) (h := (raw.take 5).length) wm_tl23 wm_tz5 rfl (.inl ⟨rfl, rfl⟩) (.inr ⟨_, rfl, rfl⟩) (Nat.zero_le _) (by rw [List.length_take]; omega)), trivial⟩ rfl rfl rfl rfl rfl rfl rfl (EV.call rfl Try.call14 (rFrame_spec (i := 1) (x := raw.take 5) (by first | exact .head _ | exact .tail _ (.head _) | exact .tail _ (.tail _ (.head _)) | exact .tail _ (.tail _ (.tail _ (.head _))) | exact .tail _ (.tail _ (.tail _ (.tail _ (.head _)))) | exact .tail _ (.tail _ (.tail _ (.tail _ (.tail _ (.head _))))) | exact .tail _ (.tail _ (.tail _ (.tail _ (.tail _ (.tail _ (.head _)))))) | exact .tail _ (.tail _ (.tail _ (.tail _ (.tail _ (.tail _ (.tail _ (.head _))))))) | exact .tail _ (.tail _ (.tail _ (.tail _ (.tail _ (.tail _ (.tail _ (.tail _ (.head _)))))))) | exact .tail _ (.tail _ (.tail _ (.tail _ (.tail _ (.tail _ (.tail _ (.tail _ (.tail _ (.head _))))))))) | exact .tail _ (.tail _ (.tail _ (.tail _ (.tail _ (.tail _ (.tail _ (.tail _ (.tail _ (.tail _ (.head _)))))))))) | exact .tail _ (.tail _ (.tail _ (.tail _ (.tail _ (.tail _ (.tail _ (.tail _ (.tail _ (.tail _ (.tail _ (.head _))))))))))) | exact .tail _ (.tail _ (.tail _ (.tail _ (.tail _ (.tail _ (.tail _ (.tail _ (.tail _ (.tail _ (.tail _ (.tail _ (.head _)))))))))))) | exact .tail _ (.tail _ (.tail _ (.tail _ (.tail _ (.tail _ (.tail _ (.tail _ (.tail _ (.tail _ (.tail _ (.tail _ (.tail _ (.head _))))))))))))) | exact .tail _ (.tail _ (.tail _ (.tail _ (.tail _ (.tail _ (.tail _ (.tail _ (.tail _ (.tail _ (.tail _ (.tail _ (.tail _ (.tail _ (.head _))))))))))))))) (by omega) (by omega) (by omega))) (fun f => ?_)
    refine AR.done [7, 3, 6, 5, 4] rfl ?_
    refine AR.eff [2] 9 [0, 1, 2, 3, 4, 5, 6, 7, 8, 9, 10] ⟨QOne.yes rfl rfl rfl (PV.move rfl), trivial⟩ rfl rfl rfl rfl rfl rfl rfl (EV.buildSlice rfl (wm_bs27_3_0_1_2 _ _ _ _ _ _ _ _ _)) (fun b4 => ?_)
    refine AR.done [2] rfl ?_
    apply AR.more [(10, _)]
    refine AR.last [10] [0, 1, 2, 3, 4, 5, 6, 7, 8, 9, 10] ⟨QOne.yes rfl rfl rfl (PV.assign rfl), trivial⟩ rfl rfl rfl ?_
    refine NX.sub (E' := [(12, _)]) ⟨rfl, trivial⟩ ?_
    refine NX.seq ?_
    refine TR.seq ?_
    refine TR.seq ?_
    refine TR.open1 (fun w hw => ⟨(hw.front (i := 1) rfl).ownLen.2, hw⟩) (fun hfc => ?_)
    refine TR.open1 (fun w hw => ⟨(hw.front (i := 2) rfl).ownLen.2, hw⟩) (fun hzc => ?_)
    refine TR.weak (fun w hw => ((hw.front (i := 1) rfl).keepSl.front (i := 1) rfl).keepSl) ?_
    refine TR.region ?_
    refine RL.assign rfl rfl rfl ?_
    refine RL.nil ?_
    refine NX.seq ?_
    refine TR.block ?_
    refine TR.loopP (ι := Nat) (fun k => k ≤ 3) (fun k => [(12, .slice (some ⟨b4, 0, none⟩) 3 3), (13, I k)]) (fun _ => Box b4 23 [.slice z.1 (raw.take 60).length z.2, .slice X.1.oa X.1.l.length X.1.c, .slice f.1 (frameJ 1 (raw.take 5)).length f.2] :: M) (fun _ => ArrF z.1 (bytesV (raw.take 60)) :: ArrF f.1 (bytesV (frameJ 1 (raw.take 5))) :: ArrF (cutA ob 0 cb 1) (bytesV (raw.take 5)) :: ArrF X.1.oa (bytesV X.1.l) :: F) (fun k => 3 - k) 0 (Nat.zero_le _) ⟨rfl, rfl, trivial⟩ (fun w hw => hw) (fun k hk => ?_)
    refine TR.seq ?_
    refine TR.seq ?_
    refine TR.region ?_
    refine RL.move rfl rfl rfl ?_
    refine RL.bin rfl rfl rfl BinV.lss rfl ?_
    refine RL.nil ?_
    refine NX.seq ?_
    refine TR.cond rfl (fun h5 => ?_) (fun h5 => ?_)
    · skip
      have hk3 : k < 3 := by have := of_decide_eq_true h5; omega
      obtain ⟨y, hy, hyF, hyl, hyc⟩ : ∃ y : RbX, ([.slice z.1 (raw.take 60).length z.2, .slice X.1.oa X.1.l.length X.1.c, .slice f.1 (frameJ 1 (raw.take 5)).length f.2] : List Value)[0 + (k : Int).toNat * 1]? = some (.slice y.oa y.l.length y.c) ∧ ArrF y.oa (bytesV y.l) ∈ (ArrF z.1 (bytesV (raw.take 60)) :: ArrF f.1 (bytesV (frameJ 1 (raw.take 5))) :: ArrF (cutA ob 0 cb 1) (bytesV (raw.take 5)) :: ArrF X.1.oa (bytesV X.1.l) :: F) ∧ y.l.length ≤ 2000 ∧ y.l.length ≤ y.c := by
        rcases (show k = 0 ∨ k = 1 ∨ k = 2 by omega) with rfl | rfl | rfl
        · exact ⟨⟨raw.take 60, z.1, z.2⟩, rfl, .head _, by show (raw.take 60).length ≤ _; rw [List.length_take]; omega, hzc⟩
        · exact ⟨X.1, rfl, .tail _ (.tail _ (.tail _ (.head _))), by have := X.2; omega, hXc⟩
        · exact ⟨⟨frameJ 1 (raw.take 5), f.1, f.2⟩, rfl, .tail _ (.head _), by show (frameJ 1 (raw.take 5)).length ≤ _; omega, hfc⟩
      refine TR.skip ?_
      refine NX.seq ?_
      refine TR.seq ?_
      refine TR.block ?_
      refine TR.seq ?_
      refine TR.region ?_
      skip
      refine RL.move rfl rfl rfl ?_
      refine RL.move rfl rfl rfl ?_
      refine RL.indexAddr rfl wm_tl27 wm_tz23 rfl rfl (by omega) (by omega) rfl ?_
      refine RL.load1 0 rfl wm_ts23 rfl rfl hy rfl ?_
      refine RL.call rfl rfl Try.call16 rfl (scan_spec (b := y.l) (by first | exact hyF | exact .tail _ hyF | exact .tail _ (.tail _ hyF) | exact .tail _ (.tail _ (.tail _ hyF)) | exact .tail _ (.tail _ (.tail _ (.tail _ hyF))) | exact .tail _ (.tail _ (.tail _ (.tail _ (.tail _ hyF)))) | exact .tail _ (.tail _ (.tail _ (.tail _ (.tail _ (.tail _ hyF)))))) hyc (by omega)) (fun S1 => ?_)
      refine RL.weak (fun w hw => hw.keepSl) ?_
      refine RL.move rfl rfl rfl ?_
      refine RL.extract rfl rfl rfl rfl ?_
      refine RL.extract rfl rfl rfl rfl ?_
      refine RL.assign rfl rfl rfl ?_
      refine RL.assign rfl rfl rfl ?_
      refine RL.nil ?_
      refine NX.seq ?_
      refine TR.seq ?_
      refine TR.region ?_
      refine RL.move rfl rfl rfl ?_
      refine RL.move rfl rfl rfl ?_
      refine RL.indexAddr rfl wm_tl27 wm_tz23 rfl rfl (by omega) (by omega) rfl ?_
      refine RL.load1 0 rfl wm_ts23 rfl rfl hy rfl ?_
      refine RL.call rfl rfl Try.call17 rfl (rScan_spec (b := y.l) (by first | exact hyF | exact .tail _ hyF | exact .tail _ (.tail _ hyF) | exact .tail _ (.tail _ (.tail _ hyF)) | exact .tail _ (.tail _ (.tail _ (.tail _ hyF))) | exact .tail _ (.tail _ (.tail _ (.tail _ (.tail _ hyF)))) | exact .tail _ (.tail _ (.tail _ (.tail _ (.tail _ (.tail _ hyF))))) | exact .tail _ (.tail _ (.tail _ (.tail _ (.tail _ (.tail _ (.tail _ hyF)))))) | exact .tail _ (.tail _ (.tail _ (.tail _ (.tail _ (.tail _ (.tail _ (.tail _ hyF))))))) | exact .tail _ (.tail _ (.tail _ (.tail _ (.tail _ (.tail _ (.tail _ (.tail _ (.tail _ hyF))))))))) hyc (by omega)) (fun S2 => ?_)
      refine RL.weak (fun w hw => hw.keepSl) ?_
      refine RL.move rfl rfl rfl ?_
      refine RL.extract rfl rfl rfl rfl ?_
      refine RL.extract rfl rfl rfl rfl ?_
      refine RL.assign rfl rfl rfl ?_
      refine RL.assign rfl rfl rfl ?_
      refine RL.nil ?_
      refine NX.seq ?_
      refine TR.seq ?_
      refine TR.region ?_
      have hmem := map_fst_le (n := 4611686018427387904) S1.2.1 (fun u hu => Nat.le_trans (scanJ_mem hu) (by omega))
      have hn1 : S1.1.ps.length = (scanJ 0 y.l).length := map_fst_len S1.2.1
      have hn2 := scanJ_len (b := y.l) (i := 0)
      refine RL.move rfl rfl rfl ?_
      refine RL.move rfl rfl rfl ?_
      refine RL.bin rfl rfl rfl (BinV.to (d := false) BinV.neq (by simp)) rfl ?_
      refine RL.move rfl rfl rfl ?_
      refine RL.move rfl rfl rfl ?_
      refine RL.move rfl rfl rfl ?_
      refine RL.call rfl rfl Try.call18 rfl (Ctr.boolT (decide_eq_true (S1.2.1.trans S2.2.1.symm)) (sameL_spec (ps := S1.1.ps) (qs := S2.1.ps) (by first | exact .head _ | exact .tail _ (.head _) | exact .tail _ (.tail _ (.head _)) | exact .tail _ (.tail _ (.tail _ (.head _))) | exact .tail _ (.tail _ (.tail _ (.tail _ (.head _)))) | exact .tail _ (.tail _ (.tail _ (.tail _ (.tail _ (.head _))))) | exact .tail _ (.tail _ (.tail _ (.tail _ (.tail _ (.tail _ (.head _)))))) | exact .tail _ (.tail _ (.tail _ (.tail _ (.tail _ (.tail _ (.tail _ (.head _))))))) | exact .tail _ (.tail _ (.tail _ (.tail _ (.tail _ (.tail _ (.tail _ (.tail _ (.head _)))))))) | exact .tail _ (.tail _ (.tail _ (.tail _ (.tail _ (.tail _ (.tail _ (.tail _ (.tail _ (.head _))))))))) | exact .tail _ (.tail _ (.tail _ (.tail _ (.tail _ (.tail _ (.tail _ (.tail _ (.tail _ (.tail _ (.head _)))))))))) | exact .tail _ (.tail _ (.tail _ (.tail _ (.tail _ (.tail _ (.tail _ (.tail _ (.tail _ (.tail _ (.tail _ (.head _))))))))))) | exact .tail _ (.tail _ (.tail _ (.tail _ (.tail _ (.tail _ (.tail _ (.tail _ (.tail _ (.tail _ (.tail _ (.tail _ (.head _)))))))))))) | exact .tail _ (.tail _ (.tail _ (.tail _ (.tail _ (.tail _ (.tail _ (.tail _ (.tail _ (.tail _ (.tail _ (.tail _ (.tail _ (.head _))))))))))))) | exact .tail _ (.tail _ (.tail _ (.tail _ (.tail _ (.tail _ (.tail _ (.tail _ (.tail _ (.tail _ (.tail _ (.tail _ (.tail _ (.tail _ (.head _))))))))))))))) (by first | exact .head _ | exact .tail _ (.head _) | exact .tail _ (.tail _ (.head _)) | exact .tail _ (.tail _ (.tail _ (.head _))) | exact .tail _ (.tail _ (.tail _ (.tail _ (.head _)))) | exact .tail _ (.tail _ (.tail _ (.tail _ (.tail _ (.head _))))) | exact .tail _ (.tail _ (.tail _ (.tail _ (.tail _ (.tail _ (.head _)))))) | exact .tail _ (.tail _ (.tail _ (.tail _ (.tail _ (.tail _ (.tail _ (.head _))))))) | exact .tail _ (.tail _ (.tail _ (.tail _ (.tail _ (.tail _ (.tail _ (.tail _ (.head _)))))))) | exact .tail _ (.tail _ (.tail _ (.tail _ (.tail _ (.tail _ (.tail _ (.tail _ (.tail _ (.head _))))))))) | exact .tail _ (.tail _ (.tail _ (.tail _ (.tail _ (.tail _ (.tail _ (.tail _ (.tail _ (.tail _ (.head _)))))))))) | exact .tail _ (.tail _ (.tail _ (.tail _ (.tail _ (.tail _ (.tail _ (.tail _ (.tail _ (.tail _ (.tail _ (.head _))))))))))) | exact .tail _ (.tail _ (.tail _ (.tail _ (.tail _ (.tail _ (.tail _ (.tail _ (.tail _ (.tail _ (.tail _ (.tail _ (.head _)))))))))))) | exact .tail _ (.tail _ (.tail _ (.tail _ (.tail _ (.tail _ (.tail _ (.tail _ (.tail _ (.tail _ (.tail _ (.tail _ (.tail _ (.head _))))))))))))) | exact .tail _ (.tail _ (.tail _ (.tail _ (.tail _ (.tail _ (.tail _ (.tail _ (.tail _ (.tail _ (.tail _ (.tail _ (.tail _ (.tail _ (.head _))))))))))))))) (by first | exact .head _ | exact .tail _ (.head _) | exact .tail _ (.tail _ (.head _)) | exact .tail _ (.tail _ (.tail _ (.head _))) | exact .tail _ (.tail _ (.tail _ (.tail _ (.head _)))) | exact .tail _ (.tail _ (.tail _ (.tail _ (.tail _ (.head _))))) | exact .tail _ (.tail _ (.tail _ (.tail _ (.tail _ (.tail _ (.head _)))))) | exact .tail _ (.tail _ (.tail _ (.tail _ (.tail _ (.tail _ (.tail _ (.head _))))))) | exact .tail _ (.tail _ (.tail _ (.tail _ (.tail _ (.tail _ (.tail _ (.tail _ (.head _)))))))) | exact .tail _ (.tail _ (.tail _ (.tail _ (.tail _ (.tail _ (.tail _ (.tail _ (.tail _ (.head _))))))))) | exact .tail _ (.tail _ (.tail _ (.tail _ (.tail _ (.tail _ (.tail _ (.tail _ (.tail _ (.tail _ (.head _)))))))))) | exact .tail _ (.tail _ (.tail _ (.tail _ (.tail _ (.tail _ (.tail _ (.tail _ (.tail _ (.tail _ (.tail _ (.head _))))))))))) | exact .tail _ (.tail _ (.tail _ (.tail _ (.tail _ (.tail _ (.tail _ (.tail _ (.tail _ (.tail _ (.tail _ (.tail _ (.head _)))))))))))) | exact .tail _ (.tail _ (.tail _ (.tail _ (.tail _ (.tail _ (.tail _ (.tail _ (.tail _ (.tail _ (.tail _ (.tail _ (.tail _ (.head _))))))))))))) | exact .tail _ (.tail _ (.tail _ (.tail _ (.tail _ (.tail _ (.tail _ (.tail _ (.tail _ (.tail _ (.tail _ (.tail _ (.tail _ (.tail _ (.head _))))))))))))))) (by first | exact .head _ | exact .tail _ (.head _) | exact .tail _ (.tail _ (.head _)) | exact .tail _ (.tail _ (.tail _ (.head _))) | exact .tail _ (.tail _ (.tail _ (.tail _ (.head _)))) | exact .tail _ (.tail _ (.tail _ (.tail _ (.tail _ (.head _))))) | exact .tail _ (.tail _ (.tail _ (.tail _ (.tail _ (.tail _ (.head _)))))) | exact .tail _ (.tail _ (.tail _ (.tail _ (.tail _ (.tail _ (.tail _ (.head _))))))) | exact .tail _ (.tail _ (.tail _ (.tail _ (.tail _ (.tail _ (.tail _ (.tail _ (.head _)))))))) | exact .tail _ (.tail _ (.tail _ (.tail _ (.tail _ (.tail _ (.tail _ (.tail _ (.tail _ (.head _))))))))) | exact .tail _ (.tail _ (.tail _ (.tail _ (.tail _ (.tail _ (.tail _ (.tail _ (.tail _ (.tail _ (.head _)))))))))) | exact .tail _ (.tail _ (.tail _ (.tail _ (.tail _ (.tail _ (.tail _ (.tail _ (.tail _ (.tail _ (.tail _ (.head _))))))))))) | exact .tail _ (.tail _ (.tail _ (.tail _ (.tail _ (.tail _ (.tail _ (.tail _ (.tail _ (.tail _ (.tail _ (.tail _ (.head _)))))))))))) | exact .tail _ (.tail _ (.tail _ (.tail _ (.tail _ (.tail _ (.tail _ (.tail _ (.tail _ (.tail _ (.tail _ (.tail _ (.tail _ (.head _))))))))))))) | exact .tail _ (.tail _ (.tail _ (.tail _ (.tail _ (.tail _ (.tail _ (.tail _ (.tail _ (.tail _ (.tail _ (.tail _ (.tail _ (.tail _ (.head _))))))))))))))) hmem (by omega))) (fun _ => ?_)
      refine RL.not (b := true) rfl rfl rfl ?_
      refine RL.pickF rfl rfl rfl rfl ?_
      refine RL.nil ?_
      refine NX.seq ?_
      refine TR.condF rfl ?_
      refine TR.skip ?_
      refine NX.off ?_
      refine NX.seq ?_
      refine TR.region ?_
      refine RL.move rfl rfl rfl ?_
      refine RL.bin rfl rfl rfl (BinV.add _ rfl (by omega) (by omega)) rfl ?_
      refine RL.assign rfl rfl rfl ?_
      refine RL.nil ?_
      refine NX.roundP (k + 1) (by omega) (by omega) ⟨rfl, rfl, trivial⟩ (fun w hw => hw.facts (fun φ h => .tail _ (.tail _ (.tail _ (.tail _ (h))))))
    · skip
      refine TR.exit ?_
      refine NX.exitThen ?_
      refine NX.exitThen ?_
      refine NX.exitHere ?_
      refine NX.seq ?_
      refine TR.seq ?_
      refine TR.region ?_
      refine RL.call rfl rfl Try.call19 rfl (lives_spec) (fun _ => ?_)
      refine RL.assign rfl rfl rfl ?_
      refine RL.nil ?_
      refine NX.seq ?_
      refine TR.ret ?_
      exact NX.ret1 () rfl rfl rfl (fun w hw => (hw.drop 0 rfl).facts (fun φ h => .tail _ (.tail _ (.tail _ (.tail _ (h))))))

end Go.Proofs.Ytdlpaojkkekdlaa
