/- The law JournalReplays holds: whatever the input, it returns true and the input reads as it did. No condition. -/
import Derived.Test.YtdlpaojkkekdlaaPref
namespace Go.Proofs.Ytdlpaojkkekdlaa
open Go.GL
set_option linter.unusedVariables false
theorem hb_bs22_1_0 (x0 : Int) : BuildSV Try.prog 22 3 1 [(0, .int .i64 x0)] [.int .i64 x0] := fun w => by kernel_rfl
theorem hb_bs43_1_0 (x0 : List UInt8) : BuildSV Try.prog 43 9 1 [(0, S x0)] [S x0] := fun w => by kernel_rfl
theorem hb_bs45_1_0 (x00 : Int) (x01 : Int) (x02 : List UInt8) : BuildSV Try.prog 45 52 1 [(0, .agg #[.int .i64 x00, .int .i64 x01, S x02])] [.int .i64 x00, .int .i64 x01, S x02] := fun w => by kernel_rfl
theorem hb_bv52_0 (x0 : Int) : BuildV Try.prog 52 [(0, .int .i64 x0)] (.agg #[.int .i64 x0, .int .i64 0, S []]) := fun w => by kernel_rfl
theorem hb_ni43 : noInt Try.prog 43 = true := by kernel_rfl
theorem hb_ni45 : noInt Try.prog 45 = true := by kernel_rfl
theorem hb_ta52 : tyAgg Try.prog 52 3 = true := by kernel_rfl
theorem hb_te52 : tyElem Try.prog 52 3 32 = true := by kernel_rfl
theorem hb_te9 : tyElem Try.prog 9 1 16 = true := by kernel_rfl
theorem hb_tf52_0 : fieldOff Try.prog 52 0 0 = true := by kernel_rfl
theorem hb_tf52_1 : fieldOff Try.prog 52 1 1 = true := by kernel_rfl
theorem hb_tf52_2 : fieldOff Try.prog 52 2 2 = true := by kernel_rfl
theorem hb_tl22 : tySlice Try.prog 22 3 = true := by kernel_rfl
theorem hb_tl27 : tySlice Try.prog 27 23 = true := by kernel_rfl
theorem hb_tl43 : tySlice Try.prog 43 9 = true := by kernel_rfl
theorem hb_tl45 : tySlice Try.prog 45 52 = true := by kernel_rfl
theorem hb_tp36 : tyPtr Try.prog 36 92 = true := by kernel_rfl
theorem hb_tp38 : tyPtr Try.prog 38 88 = true := by kernel_rfl
theorem hb_tp57 : tyPtr Try.prog 57 105 = true := by kernel_rfl
theorem hb_ts23 : tyScalar Try.prog 23 = true := by kernel_rfl
theorem hb_ts3 : tyScalar Try.prog 3 = true := by kernel_rfl
theorem hb_ts9 : tyScalar Try.prog 9 = true := by kernel_rfl
theorem hb_tz23 : tySize Try.prog 23 1 = true := by kernel_rfl
theorem hb_tz3 : tySize Try.prog 3 1 = true := by kernel_rfl
theorem hb_tz52 : tySize Try.prog 52 3 = true := by kernel_rfl
theorem hb_tz9 : tySize Try.prog 9 1 = true := by kernel_rfl
set_option maxHeartbeats 4000000 in
theorem law_replays {ls ys : List Int} {wn kp : Int} {oa ob : Option Addr} {ca cb : Nat} {M : List HP} {F : List Fact} (ha : ArrF oa (ints ls) ∈ F) (hls : IntsOk ls) (hb : ArrF ob (ints ys) ∈ F) (hys : IntsOk ys) (hyc : ys.length ≤ cb) (hw0 : I64 wn) (hk0 : I64 kp) : Ctr Try.prog 5 [.slice oa ls.length ca, .slice ob ys.length cb, I wn, I kp] M F Unit (fun _ => .bool true) (fun _ => M) (fun _ => F) := by
  refine Ctr.body Try.func5 rfl rfl ?_
  refine TR.seq ?_
  refine TR.region ?_
  refine RL.assign rfl rfl rfl ?_
  refine RL.nil ?_
  refine NX.seq ?_
  refine TR.seq ?_
  refine TR.region ?_
  refine RL.call rfl rfl Try.call21 rfl (fresh_d (k := 20000) (by decide)) (fun z0 => ?_)
  refine RL.assign rfl rfl rfl ?_
  refine RL.nil ?_
  refine NX.seq ?_
  refine TR.seq ?_
  refine TR.seq ?_
  refine TR.region ?_
  refine RL.move rfl rfl rfl ?_
  refine RL.bin rfl rfl rfl (BinV.eqlPtrNil hb_tp36) rfl ?_
  refine RL.nil ?_
  refine NX.seq ?_
  refine TR.condF rfl ?_
  refine TR.skip ?_
  refine NX.seq ?_
  refine TR.seq ?_
  refine TR.region ?_
  refine RL.move rfl rfl rfl ?_
  refine RL.call rfl rfl Try.call22 rfl (open_d (f := 1) (s := (⟨z0.2, [], 20000, false, false, 0⟩ : Ds)) ⟨rfl, rfl⟩ (by decide) OkF.nil fresh_lft (fresh_rm (by decide)) (.head _)) (fun q1 => ?_)
  obtain ⟨hq1, hu0⟩ := fresh_log (o := q1.1.1) (t := q1.1.2) q1.2
  have hu1 : used q1.1.2.fs ≤ 0 := Nat.le_of_eq hu0
  have hrm1 : q1.1.2.room = 20000 := q1.2.room
  refine RL.weak (fun w hw => hw.drop 1 rfl) ?_
  refine RL.move rfl rfl rfl ?_
  refine RL.extract rfl rfl rfl rfl ?_
  refine RL.extract rfl rfl rfl rfl ?_
  refine RL.extract rfl rfl rfl rfl ?_
  refine RL.assign rfl rfl rfl ?_
  refine RL.assign rfl rfl rfl ?_
  refine RL.assign rfl rfl rfl ?_
  refine RL.nil ?_
  refine NX.seq ?_
  refine TR.seq ?_
  refine TR.seq ?_
  refine TR.region ?_
  refine RL.move rfl rfl rfl ?_
  refine RL.bin rfl rfl rfl (BinV.eqlPtrNil hb_tp38) rfl ?_
  refine RL.move rfl rfl rfl ?_
  refine RL.move rfl rfl rfl ?_
  refine RL.bin rfl rfl rfl (BinV.to (d := false) BinV.neq (decide_eq_false (by simp))) rfl ?_
  refine RL.pickF rfl rfl rfl rfl ?_
  refine RL.nil ?_
  refine NX.seq ?_
  refine TR.condF rfl ?_
  refine TR.skip ?_
  refine NX.seq ?_
  refine TR.seq ?_
  refine TR.region ?_
  refine RL.move rfl rfl rfl ?_
  refine RL.call rfl rfl Try.call23 rfl (source_spec (.tail _ (.tail _ (.tail _ ha))) hls) (fun start => ?_)
  refine RL.assign rfl rfl rfl ?_
  refine RL.nil ?_
  refine NX.seq ?_
  refine TR.seq ?_
  refine TR.region ?_
  refine RL.move rfl rfl rfl ?_
  refine RL.buildSlice rfl rfl (hb_bs43_1_0 _) rfl (fun b1 => ?_)
  refine RL.weak (fun w hw => St.boxSl (n := 1) (size := 1) rfl (by decide) hw) ?_
  refine RL.assign rfl rfl rfl ?_
  refine RL.nil ?_
  refine NX.seq ?_
  refine TR.seq ?_
  refine TR.region ?_
  refine RL.move rfl rfl rfl ?_
  refine RL.move rfl rfl rfl ?_
  refine RL.call rfl rfl Try.call20 rfl (around_spec (by decide) hw0.1 hw0.2) (fun r => ?_)
  refine RL.call rfl rfl Try.call24 rfl (Ctr.pick 3 [2, 0, 1] rfl (arm_d (n := r.1) (s := q1.1.2))) (fun _ => ?_)
  have harm := hq1.arm (n := r.1) (by have := r.2.1; omega) (by have := r.2.2; omega)
  refine RL.nil ?_
  refine NX.seq ?_
  refine TR.seq ?_
  refine TR.region ?_
  refine RL.assign rfl rfl rfl ?_
  refine RL.nil ?_
  refine NX.seq ?_
  refine TR.seq ?_
  refine TR.seq ?_
  refine TR.region ?_
  refine RL.assign rfl rfl rfl ?_
  refine RL.nil ?_
  refine NX.seq ?_
  refine TR.block ?_
  refine TR.loopP (ι := RpX) (fun x => x.ess.length ≤ 4 ∧ RpP (x.ess.map encEs) x.s x.g x.dn ∧ TxP start.1 x.ess x.ts) (fun x => [(1, .slice ob ys.length cb), (3, I kp), (9, .pointer (some ⟨z0.1, 0, none⟩)), (10, .pointer (some ⟨q1.1.1.1, 0, none⟩)), (13, S start.1), (14, .slice x.oa x.ts.length x.c), (15, I (x.dn : Nat)), (16, I (x.ess.length : Nat))]) (fun x => Box q1.1.1.1 88 (lgC z0.1 x.g) :: DkB 92 z0.1 x.s :: OwnSl 9 1 x.oa x.ts.length x.c (strsV x.ts) :: M) (fun x => AllF x.s.fs :: F) (fun x => 4 - x.ess.length) ⟨armS q1.1.2 r.1, ⟨(1 : Nat), q1.1.1.2.ps.length, false⟩, 0, [], [start.1], some ⟨b1, 0, none⟩, 1⟩ ⟨Nat.zero_le _, ⟨by rw [armS_on hq1.off]; exact hrm1, by rw [armS_on hq1.off]; exact hu1, .inl ⟨harm, rfl⟩⟩, TxP.nil start.2⟩ ⟨rfl, rfl, rfl, rfl, rfl, rfl, rfl, rfl, trivial⟩ (fun w hw => (by have h9 := (hw.to 3 [2, 0, 1] 3 [1] rfl); rw [armS_on hq1.off] at h9 ⊢; exact h9)) (fun x hx => ?_)
  refine TR.seq ?_
  refine TR.seq ?_
  refine TR.region ?_
  refine RL.move rfl rfl rfl ?_
  refine RL.bin rfl rfl rfl BinV.lss rfl ?_
  refine RL.nil ?_
  refine NX.seq ?_
  refine TR.cond rfl (fun h2 => ?_) (fun h2 => ?_)
  · skip
    have hi4 : x.ess.length < 4 := by have := of_decide_eq_true h2; omega
    have htl : x.ess.length < x.ts.length := by have := hx.2.2.len; omega
    have htl2 := hx.2.2.len
    have hml : (x.ess.map encEs).length = x.ess.length := List.length_map _
    have htx := hx.2.2.short _ _ (List.getElem?_eq_getElem htl)
    have hroom := hx.2.1.1
    have hus := hx.2.1.2.1
    rw [List.length_map] at hus
    have hyl := hys.1
    have hmap : ∀ es : List Ed, x.ess.map encEs ++ [encEs es] = (x.ess ++ [es]).map encEs := fun es => by rw [List.map_append]; rfl
    refine TR.openP (fun w hw => own_at (i := 2) rfl (strsV_ne htl) hw) (fun gt hgt => ?_)
    refine TR.skip ?_
    refine NX.seq ?_
    refine TR.seq ?_
    refine TR.block ?_
    refine TR.seq ?_
    refine TR.region ?_
    refine RL.move rfl rfl rfl ?_
    refine RL.move rfl rfl rfl ?_
    refine RL.indexAddr rfl hb_tl43 hb_tz9 (congrArg (fun a => some (Value.slice a _ _)) hgt) rfl (by omega) (by omega) rfl ?_
    refine RL.loadS rfl rfl (own_one (i := 2) rfl hgt hb_ts9 (show (strsV x.ts)[0 + ((x.ess.length : Nat) : Int).toNat * 1]? = some (S x.ts[x.ess.length]) by rw [Nat.zero_add]; exact strs_get htl)) rfl ?_
    refine RL.assign rfl rfl rfl ?_
    refine RL.nil ?_
    refine NX.seq ?_
    refine TR.seq ?_
    refine TR.region ?_
    refine RL.move rfl rfl rfl ?_
    refine RL.move rfl rfl rfl ?_
    refine RL.move rfl rfl rfl ?_
    refine RL.lenSlice rfl hb_tl22 rfl rfl ?_
    refine RL.move rfl rfl rfl ?_
    refine RL.bin rfl rfl rfl (BinV.mul ((3 * x.ess.length : Nat) : Int) (by omega) (by omega) (by omega)) rfl ?_
    refine RL.min rfl rfl rfl rfl ?_
    refine RL.sliceFromI (k := min ys.length (3 * x.ess.length)) rfl hb_tl22 hb_tz3 rfl rfl (by omega) (by omega) hyc (.tail _ hb) rfl ?_
    refine RL.call rfl rfl Try.call25 rfl (gEdits_spec (tx := x.ts[x.ess.length]) (xs := ys.drop (min ys.length (3 * x.ess.length))) (.head _) (hys.drop _) (by omega)) (fun es => ?_)
    have hen := es.2.enc (by omega)
    have hal := es.2.len
    have hel := es.2.1
    refine RL.assign rfl rfl rfl ?_
    refine RL.nil ?_
    refine NX.seq ?_
    refine TR.seq ?_
    refine TR.region ?_
    refine RL.move rfl rfl rfl ?_
    refine RL.move rfl rfl rfl ?_
    refine RL.call rfl rfl Try.call26 rfl (apply_ok (x := (applyGo x.ts[x.ess.length] 0 es.1.es)) (es := es.1.es) (.head _) (by omega) es.2.sound rfl (by omega)) (fun _ => ?_)
    refine RL.move rfl rfl rfl ?_
    refine RL.extract rfl rfl rfl rfl ?_
    refine RL.extract rfl rfl rfl rfl ?_
    refine RL.assign rfl rfl rfl ?_
    refine RL.assign rfl rfl rfl ?_
    refine RL.nil ?_
    refine NX.seq ?_
    refine TR.seq ?_
    refine TR.seq ?_
    refine TR.region ?_
    refine RL.move rfl rfl rfl ?_
    refine RL.bin rfl rfl rfl (BinV.to (d := false) BinV.neq (decide_eq_false (by simp))) rfl ?_
    refine RL.nil ?_
    refine NX.seq ?_
    refine TR.condF rfl ?_
    refine TR.skip ?_
    refine NX.seq ?_
    refine TR.seq ?_
    refine TR.region ?_
    refine RL.move rfl rfl rfl ?_
    refine RL.move rfl rfl rfl ?_
    refine RL.buildSlice rfl rfl (hb_bs43_1_0 _) rfl (fun b3 => ?_)
    refine RL.ofGV rfl rfl (GV.append (j := 3) hb_tl43 hb_ni43 hb_te9 rfl rfl rfl (src_box (i := 0) rfl rfl rfl) (by omega) (by omega)) (fun y => ?_)
    refine RL.assign rfl rfl rfl ?_
    refine RL.nil ?_
    refine NX.seq ?_
    refine TR.seq ?_
    refine TR.region ?_
    refine RL.allocA rfl (Try.zeroValue50) rfl (fun b5 => ?_)
    refine RL.weak (fun w hw => St.wrNew (e := 5) hw) ?_
    refine RL.nil ?_
    refine NX.seq ?_
    refine TR.seq ?_
    refine TR.region ?_
    refine RL.move rfl rfl rfl ?_
    refine RL.lenSlice rfl hb_tl45 rfl rfl ?_
    refine RL.call rfl rfl Try.call27 rfl (wInt_spec (n := ((es.1.es.length : Nat) : Int)) (by omega) (by omega) (by simp)) (fun _ => ?_)
    refine RL.nil ?_
    refine NX.seq ?_
    refine TR.seq ?_
    refine TR.seq ?_
    refine TR.region ?_
    refine RL.assign rfl rfl rfl ?_
    refine RL.nil ?_
    refine NX.seq ?_
    refine TR.block ?_
    refine TR.loopP (ι := Nat) (fun k => k ≤ es.1.es.length) (fun k => [(1, .slice ob ys.length cb), (3, I kp), (9, .pointer (some ⟨z0.1, 0, none⟩)), (10, .pointer (some ⟨q1.1.1.1, 0, none⟩)), (13, S start.1), (14, .slice y.1 (x.ts.length + 1) y.2), (15, I (x.dn : Nat)), (16, I (x.ess.length : Nat)), (18, .slice es.1.oa es.1.es.length es.1.c), (21, .pointer (some ⟨b5, 0, none⟩)), (22, I (k : Nat))]) (fun k => WrB 50 5 b5 (wrL es.1.es k) :: OwnSl 9 1 y.1 (x.ts.length + 1) y.2 (strsV x.ts ++ [S (applyGo x.ts[x.ess.length] 0 es.1.es)]) :: Box q1.1.1.1 88 (lgC z0.1 x.g) :: DkB 92 z0.1 x.s :: M) (fun k => ArrF es.1.oa (edC es.1.es) :: AllF x.s.fs :: F) (fun k => es.1.es.length - k) 0 (Nat.zero_le _) ⟨rfl, rfl, rfl, rfl, rfl, rfl, rfl, rfl, rfl, rfl, rfl, trivial⟩ (fun w hw => (by have h9 := (hw.to 5 [0, 4, 2, 3] 3 [0, 2] rfl); rw [← wrL_zero] at h9; exact h9)) (fun k hk0_ => ?_)
    refine TR.seq ?_
    refine TR.seq ?_
    refine TR.region ?_
    refine RL.move rfl rfl rfl ?_
    refine RL.move rfl rfl rfl ?_
    refine RL.lenSlice rfl hb_tl45 rfl rfl ?_
    refine RL.bin rfl rfl rfl BinV.lss rfl ?_
    refine RL.nil ?_
    refine NX.seq ?_
    refine TR.cond rfl (fun h6 => ?_) (fun h6 => ?_)
    · skip
      have hk : k < es.1.es.length := by have := of_decide_eq_true h6; omega
      have hed := sound_ok (Int.le_refl 0) es.2.2.1 _ (List.getElem_mem hk)
      obtain ⟨he1, he2, he3, he4⟩ := hed
      have hw1 := wrL_len es.1.es (k + 1)
      have hw2 := wrL_succ hk
      have hw3 := congrArg List.length hw2
      simp only [List.length_append] at hw3
      have hxl : es.1.es[k].x.length ≤ (encR es.1.es[k].x).length := by unfold encR; rw [List.length_append]; omega
      refine TR.openP (open_arr (oa := es.1.oa) (xs := edC es.1.es) (.head _) (fun e => by have h8 := edC_length es.1.es; rw [e] at h8; simp at h8; omega)) (fun pe hpe => ?_)
      refine TR.skip ?_
      refine NX.seq ?_
      refine TR.seq ?_
      refine TR.block ?_
      refine TR.seq ?_
      refine TR.region ?_
      refine RL.move rfl rfl rfl ?_
      refine RL.move rfl rfl rfl ?_
      refine RL.indexAddr rfl hb_tl45 hb_tz52 (congrArg (fun a => some (Value.slice a _ _)) hpe) rfl (by omega) (by omega) rfl ?_
      refine RL.fieldAddr rfl hb_tf52_0 rfl rfl ?_
      refine RL.loadF rfl rfl (fun w K hF => run_loadCell1 (j := ((k : Nat) : Int).toNat * 3 + 0) (v := I es.1.es[k].f) (hF (CellsF pe.1 pe.2 (edC es.1.es)) (.head _)) hb_ts3 (by rw [Int.toNat_natCast]; exact edC_at hk rfl)) rfl ?_
      refine RL.call rfl rfl Try.call27 rfl (wInt_spec (n := es.1.es[k].f) (by omega) (by omega) (by omega)) (fun _ => ?_)
      refine RL.nil ?_
      refine NX.seq ?_
      refine TR.seq ?_
      refine TR.region ?_
      refine RL.move rfl rfl rfl ?_
      refine RL.move rfl rfl rfl ?_
      refine RL.indexAddr rfl hb_tl45 hb_tz52 (congrArg (fun a => some (Value.slice a _ _)) hpe) rfl (by omega) (by omega) rfl ?_
      refine RL.fieldAddr rfl hb_tf52_1 rfl rfl ?_
      refine RL.loadF rfl rfl (fun w K hF => run_loadCell1 (j := ((k : Nat) : Int).toNat * 3 + 1) (v := I es.1.es[k].t) (hF (CellsF pe.1 pe.2 (edC es.1.es)) (.head _)) hb_ts3 (by rw [Int.toNat_natCast]; exact edC_at hk rfl)) rfl ?_
      refine RL.call rfl rfl Try.call27 rfl (wInt_spec (n := es.1.es[k].t) (by omega) (by omega) (by rw [List.length_append]; omega)) (fun _ => ?_)
      refine RL.nil ?_
      refine NX.seq ?_
      refine TR.region ?_
      refine RL.move rfl rfl rfl ?_
      refine RL.move rfl rfl rfl ?_
      refine RL.indexAddr rfl hb_tl45 hb_tz52 (congrArg (fun a => some (Value.slice a _ _)) hpe) rfl (by omega) (by omega) rfl ?_
      refine RL.fieldAddr rfl hb_tf52_2 rfl rfl ?_
      refine RL.loadF rfl rfl (fun w K hF => run_loadCell1 (j := ((k : Nat) : Int).toNat * 3 + 2) (v := S es.1.es[k].x) (hF (CellsF pe.1 pe.2 (edC es.1.es)) (.head _)) hb_ts9 (by rw [Int.toNat_natCast]; exact edC_at hk rfl)) rfl ?_
      refine RL.call rfl rfl Try.call28 rfl (wText_spec (by simp only [List.length_append]; omega) (by omega)) (fun _ => ?_)
      refine RL.nil ?_
      refine NX.off ?_
      refine NX.seq ?_
      refine TR.region ?_
      refine RL.move rfl rfl rfl ?_
      refine RL.bin rfl rfl rfl (BinV.add _ rfl (by omega) (by omega)) rfl ?_
      refine RL.assign rfl rfl rfl ?_
      refine RL.nil ?_
      refine NX.roundP (k + 1) (by omega) (by omega) ⟨rfl, rfl, rfl, rfl, rfl, rfl, rfl, rfl, rfl, rfl, rfl, trivial⟩ (fun w hw => (by have h9 := (hw.to 4 [0, 1, 2, 3] 3 [1, 2] rfl); rw [← hw2] at h9; exact h9))
    · skip
      have hk2 : k = es.1.es.length := by have := of_decide_eq_false h6; omega
      rw [wrL_all hk2]
      refine TR.exit ?_
      refine NX.exitThen ?_
      refine NX.exitThen ?_
      refine NX.exitHere ?_
      refine NX.seq ?_
      refine TR.seq ?_
      have hmap := hmap es.1.es
      refine TR.region ?_
      refine RL.move rfl rfl rfl ?_
      refine RL.call rfl rfl Try.call30 rfl (wDone_spec (l := encEs es.1.es) (by omega)) (fun wd => ?_)
      refine RL.weak (fun w hw => hw.keepSl) ?_
      rcases hx.2.1.2.2 with ⟨hlg, hdn⟩ | ⟨j, hj, hlg, hdn⟩
      · skip
        refine RL.call rfl rfl Try.call29 rfl (Ctr.pick 4 [2, 3, 0, 1] rfl (lapp_up (g := x.g) (s := x.s) (x := encEs es.1.es) hlg (.tail _ (.tail _ (.head _))) (.head _) (by omega) (by rw [List.length_map]; omega) (by omega))) (fun q => ?_)
        have hq := RpP.up (x := encEs es.1.es) hx.2.1.1 hx.2.1.2.1 (by omega) q.2
        refine RL.bin rfl rfl rfl BinV.eql rfl ?_
        refine RL.nil ?_
        refine NX.seq ?_
        refine TR.cond rfl (fun h7 => ?_) (fun h7 => ?_)
        · skip
          have hA := (hq.resolve_right fun e => by have h9 := of_decide_eq_true h7; rw [e.1] at h9; exact absurd h9 (by decide)).2
          rw [← hdn] at hA
          refine TR.region ?_
          refine RL.move rfl rfl rfl ?_
          refine RL.bin rfl rfl rfl (BinV.add _ rfl (by omega) (by omega)) rfl ?_
          refine RL.assign rfl rfl rfl ?_
          refine RL.nil ?_
          refine NX.off ?_
          refine NX.seq ?_
          refine TR.region ?_
          refine RL.move rfl rfl rfl ?_
          refine RL.bin rfl rfl rfl (BinV.add _ rfl (by omega) (by omega)) rfl ?_
          refine RL.assign rfl rfl rfl ?_
          refine RL.nil ?_
          refine NX.roundP ⟨q.1.2.1, q.1.2.2, x.dn + 1, x.ess ++ [es.1.es], x.ts ++ [(applyGo x.ts[x.ess.length] 0 es.1.es)], y.1, y.2⟩ ⟨by show (x.ess ++ [es.1.es]).length ≤ 4; rw [List.length_append]; show x.ess.length + 1 ≤ 4; omega, RpP.of (hA) hmap, hx.2.2.snoc (List.getElem?_eq_getElem htl) es.2⟩ (by show 4 - (x.ess ++ [es.1.es]).length < 4 - x.ess.length; rw [List.length_append]; show 4 - (x.ess.length + 1) < _; omega) ⟨rfl, rfl, rfl, rfl, rfl, ?_, ?_, ?_, trivial⟩ (fun w hw => ?_)
          · show some (Value.slice y.1 (x.ts.length + 1) y.2) = some (Value.slice y.1 (x.ts ++ [_]).length y.2)
            rw [List.length_append]; rfl
          · show some (I ((x.dn : Int) + 1)) = some (I ((x.dn + 1 : Nat) : Int)); congr 2
          · show some (I ((x.ess.length : Int) + 1)) = some (I (((x.ess ++ [_]).length : Nat) : Int))
            rw [List.length_append]; rfl
          · have h9 := (hw.to 4 [0, 1, 3] 4 [0] rfl)
            show St w (_ :: _ :: OwnSl 9 1 y.1 (x.ts ++ [_]).length y.2 (strsV (x.ts ++ [_])) :: M) _
            rw [List.length_append, strsV_snoc]
            exact h9
        · skip
          have hA := (hq.resolve_left fun e => by have h9 := of_decide_eq_false h7; exact h9 e.1).2
          rw [← hdn] at hA
          refine TR.skip ?_
          refine NX.off ?_
          refine NX.seq ?_
          refine TR.region ?_
          refine RL.move rfl rfl rfl ?_
          refine RL.bin rfl rfl rfl (BinV.add _ rfl (by omega) (by omega)) rfl ?_
          refine RL.assign rfl rfl rfl ?_
          refine RL.nil ?_
          refine NX.roundP ⟨q.1.2.1, q.1.2.2, x.dn, x.ess ++ [es.1.es], x.ts ++ [(applyGo x.ts[x.ess.length] 0 es.1.es)], y.1, y.2⟩ ⟨by show (x.ess ++ [es.1.es]).length ≤ 4; rw [List.length_append]; show x.ess.length + 1 ≤ 4; omega, RpP.of (hA) hmap, hx.2.2.snoc (List.getElem?_eq_getElem htl) es.2⟩ (by show 4 - (x.ess ++ [es.1.es]).length < 4 - x.ess.length; rw [List.length_append]; show 4 - (x.ess.length + 1) < _; omega) ⟨rfl, rfl, rfl, rfl, rfl, ?_, ?_, ?_, trivial⟩ (fun w hw => ?_)
          · show some (Value.slice y.1 (x.ts.length + 1) y.2) = some (Value.slice y.1 (x.ts ++ [_]).length y.2)
            rw [List.length_append]; rfl
          · rfl
          · show some (I ((x.ess.length : Int) + 1)) = some (I (((x.ess ++ [_]).length : Nat) : Int))
            rw [List.length_append]; rfl
          · have h9 := (hw.to 4 [0, 1, 3] 4 [0] rfl)
            show St w (_ :: _ :: OwnSl 9 1 y.1 (x.ts ++ [_]).length y.2 (strsV (x.ts ++ [_])) :: M) _
            rw [List.length_append, strsV_snoc]
            exact h9
      · skip
        refine RL.call rfl rfl Try.call29 rfl (Ctr.pick 4 [2, 3, 0, 1] rfl (lapp_dn (g := x.g) (s := x.s) (x := encEs es.1.es) hlg.dn (by rw [hlg.gf]; exact ⟨by decide, by decide⟩) (by rw [hlg.n, List.length_take, List.length_map]; omega) hlg.ok hlg.lft hlg.rm (.tail _ (.tail _ (.head _))) (.head _) (by omega))) (fun _ => ?_)
        refine RL.bin rfl rfl rfl (BinV.to (d := false) BinV.eql (decide_eq_false (by simp))) rfl ?_
        refine RL.nil ?_
        refine NX.seq ?_
        refine TR.condF rfl ?_
        refine TR.skip ?_
        refine NX.off ?_
        refine NX.seq ?_
        refine TR.region ?_
        refine RL.move rfl rfl rfl ?_
        refine RL.bin rfl rfl rfl (BinV.add _ rfl (by omega) (by omega)) rfl ?_
        refine RL.assign rfl rfl rfl ?_
        refine RL.nil ?_
        refine NX.roundP ⟨x.s, x.g, x.dn, x.ess ++ [es.1.es], x.ts ++ [(applyGo x.ts[x.ess.length] 0 es.1.es)], y.1, y.2⟩ ⟨by show (x.ess ++ [es.1.es]).length ≤ 4; rw [List.length_append]; show x.ess.length + 1 ≤ 4; omega, RpP.of (RpP.down hx.2.1.1 hx.2.1.2.1 hj hlg hdn) hmap, hx.2.2.snoc (List.getElem?_eq_getElem htl) es.2⟩ (by show 4 - (x.ess ++ [es.1.es]).length < 4 - x.ess.length; rw [List.length_append]; show 4 - (x.ess.length + 1) < _; omega) ⟨rfl, rfl, rfl, rfl, rfl, ?_, ?_, ?_, trivial⟩ (fun w hw => ?_)
        · show some (Value.slice y.1 (x.ts.length + 1) y.2) = some (Value.slice y.1 (x.ts ++ [_]).length y.2)
          rw [List.length_append]; rfl
        · rfl
        · show some (I ((x.ess.length : Int) + 1)) = some (I (((x.ess ++ [_]).length : Nat) : Int))
          rw [List.length_append]; rfl
        · have h9 := (hw.to 4 [0, 1, 3] 3 [2] rfl)
          show St w (_ :: _ :: OwnSl 9 1 y.1 (x.ts ++ [_]).length y.2 (strsV (x.ts ++ [_])) :: M) _
          rw [List.length_append, strsV_snoc]
          exact h9
  · skip
    have hi : x.ess.length = 4 := by have := of_decide_eq_false h2; have := hx.1; omega
    have hso := hx.2.1.some
    have hkl : ∀ y, y ∈ x.ess.map encEs → y.length ≤ 65536 := fun y hy => by
      obtain ⟨es, he, rfl⟩ := List.mem_map.1 hy
      obtain ⟨k, hk, rfl⟩ := List.getElem_of_mem he
      obtain ⟨t, h1, h2, h3⟩ := hx.2.2.ok k hk
      have h4 := h2.enc (by have := hx.2.2.short _ _ h1; omega)
      have := hx.2.2.short _ _ h1
      omega
    refine TR.exit ?_
    refine NX.exitThen ?_
    refine NX.exitThen ?_
    refine NX.exitHere ?_
    refine NX.seq ?_
    refine TR.seq ?_
    refine TR.region ?_
    refine RL.move rfl rfl rfl ?_
    refine RL.move rfl rfl rfl ?_
    refine RL.buildSlice rfl rfl (hb_bs22_1_0 _) rfl (fun b8 => ?_)
    refine RL.weak (fun w hw => St.boxArr (show St w (Box _ _ (ints [kp]) :: _) _ from hw)) ?_
    refine RL.call rfl rfl Try.call31 rfl (Ctr.pick 3 [1, 0, 2] rfl (crash_d (keep := [kp]) (flip := -1) hso.1 (.tail _ (.head _)) (.head _) ⟨by show 1 ≤ _; decide, fun v hv => by rw [List.mem_singleton.1 hv]; exact hk0⟩ (Nat.le_trans hso.2.2.1.used hso.2.2.1.room) ⟨by decide, by decide⟩)) (fun t => ?_)
    refine RL.nil ?_
    refine NX.seq ?_
    refine TR.seq ?_
    refine TR.region ?_
    refine RL.move rfl rfl rfl ?_
    refine RL.call rfl rfl Try.call22 rfl (open_d (f := 1) (s := t.1) t.2.calm (by decide) t.2.ok (t.2.lft hso.2.1) (t.2.rm hso.1 hso.2.2.1) (.head _)) (fun q2 => ?_)
    obtain ⟨m, hm1, hm2, hm3, hm4⟩ := hx.2.1.crash hkl (by rw [List.length_map]; omega) t.2
    have hre := q2.2.recs
    rw [hm4] at hre
    have hlen : q2.1.1.2.ps.length = m := by have h9 := congrArg List.length hre; rw [List.length_map, List.length_take] at h9; omega
    rw [List.length_map] at hm3
    refine RL.weak (fun w hw => (hw.front (i := 1) rfl).keepSl) ?_
    refine RL.move rfl rfl rfl ?_
    refine RL.extract rfl rfl rfl rfl ?_
    refine RL.extract rfl rfl rfl rfl ?_
    refine RL.extract rfl rfl rfl rfl ?_
    refine RL.assign rfl rfl rfl ?_
    refine RL.assign rfl rfl rfl ?_
    refine RL.assign rfl rfl rfl ?_
    refine RL.nil ?_
    refine NX.seq ?_
    refine TR.seq ?_
    refine TR.seq ?_
    refine TR.region ?_
    refine RL.move rfl rfl rfl ?_
    refine RL.bin rfl rfl rfl (BinV.to (d := false) BinV.neq (decide_eq_false (by simp))) rfl ?_
    refine RL.move rfl rfl rfl ?_
    refine RL.move rfl rfl rfl ?_
    refine RL.lenSlice rfl hb_tl27 rfl rfl ?_
    refine RL.move rfl rfl rfl ?_
    refine RL.bin rfl rfl rfl (BinV.to (d := false) BinV.lss (decide_eq_false (by omega))) rfl ?_
    refine RL.pickF rfl rfl rfl rfl ?_
    refine RL.move rfl rfl rfl ?_
    refine RL.move rfl rfl rfl ?_
    refine RL.lenSlice rfl hb_tl27 rfl rfl ?_
    refine RL.move rfl rfl rfl ?_
    refine RL.bin rfl rfl rfl (BinV.add _ rfl (by omega) (by omega)) rfl ?_
    refine RL.bin rfl rfl rfl (BinV.to (d := false) BinV.gtr (decide_eq_false (by omega))) rfl ?_
    refine RL.pickF rfl rfl rfl rfl ?_
    refine RL.move rfl rfl rfl ?_
    refine RL.move rfl rfl rfl ?_
    refine RL.lenSlice rfl hb_tl27 rfl rfl ?_
    refine RL.bin rfl rfl rfl (BinV.to (d := false) BinV.gtr (decide_eq_false (by omega))) rfl ?_
    refine RL.pickF rfl rfl rfl rfl ?_
    refine RL.nil ?_
    refine NX.seq ?_
    refine TR.condF rfl ?_
    refine TR.skip ?_
    refine NX.seq ?_
    refine TR.seq ?_
    refine TR.region ?_
    refine RL.move rfl rfl rfl ?_
    refine RL.assign rfl rfl rfl ?_
    refine RL.nil ?_
    refine NX.seq ?_
    refine TR.seq ?_
    refine TR.seq ?_
    refine TR.region ?_
    refine RL.assign rfl rfl rfl ?_
    refine RL.nil ?_
    refine NX.seq ?_
    refine TR.block ?_
    have hg0 : x.ts.getD 0 [] = start.1 := by rw [List.getD_eq_getElem?_getD, hx.2.2.first]; rfl
    refine TR.loopP (ι := Nat) (fun i => i ≤ q2.1.1.2.ps.length) (fun i => [(14, .slice x.oa x.ts.length x.c), (24, .slice q2.1.1.2.oa q2.1.1.2.ps.length q2.1.1.2.c), (26, S (x.ts.getD i [])), (27, I (i : Nat))]) (fun i => OwnSl 9 1 x.oa x.ts.length x.c (strsV x.ts) :: M) (fun i => ArrF q2.1.1.2.oa (listV q2.1.1.2.ps) :: AllB q2.1.1.2.ps :: F) (fun i => q2.1.1.2.ps.length - i) 0 (Nat.zero_le _) ⟨rfl, rfl, congrArg (fun z => some (S z)) hg0.symm, rfl, trivial⟩ (fun w hw => (hw.to 4 [3] 6 [0, 1] rfl)) (fun i hi0_ => ?_)
    refine TR.seq ?_
    refine TR.seq ?_
    refine TR.region ?_
    refine RL.move rfl rfl rfl ?_
    refine RL.move rfl rfl rfl ?_
    refine RL.lenSlice rfl hb_tl27 rfl rfl ?_
    refine RL.bin rfl rfl rfl BinV.lss rfl ?_
    refine RL.nil ?_
    refine NX.seq ?_
    refine TR.cond rfl (fun h9 => ?_) (fun h9 => ?_)
    · skip
      have hi : i < q2.1.1.2.ps.length := by have := of_decide_eq_true h9; omega
      have hie : i < x.ess.length := by omega
      have htl := hx.2.2.len
      obtain ⟨tk, htk, hek, hnk⟩ := hx.2.2.ok i hie
      have htk5 := hx.2.2.short _ _ htk
      have hen := hek.enc (by omega)
      have hal := hek.len
      have hel := hek.1
      have hcur : x.ts.getD i [] = tk := by rw [List.getD_eq_getElem?_getD, htk]; rfl
      have hrow : q2.1.1.2.ps[i].1 = encEs x.ess[i] := by
        have h9 : (q2.1.1.2.ps.map Prod.fst)[i]? = some (encEs x.ess[i]) := by rw [hre, List.getElem?_take, if_pos (by omega), List.getElem?_map, List.getElem?_eq_getElem hie]; rfl
        rw [List.getElem?_map, List.getElem?_eq_getElem hi] at h9
        exact Option.some.inj h9
      rw [hcur]
      refine TR.weak (fun w hw => hrow ▸ hw.allB_get (ps := q2.1.1.2.ps) (.tail _ (.head _)) (List.getElem_mem hi)) ?_
      refine TR.openP (open_arr (oa := q2.1.1.2.oa) (xs := listV q2.1.1.2.ps) (.tail _ (.head _)) (listV_ne hi)) (fun pr hpr => ?_)
      refine TR.skip ?_
      refine NX.seq ?_
      refine TR.seq ?_
      refine TR.block ?_
      refine TR.seq ?_
      refine TR.region ?_
      refine RL.move rfl rfl rfl ?_
      refine RL.move rfl rfl rfl ?_
      refine RL.indexAddr rfl hb_tl27 hb_tz23 (congrArg (fun a => some (Value.slice a _ _)) hpr) rfl (by omega) (by omega) rfl ?_
      refine RL.loadF rfl rfl (fun w K hF => run_loadCell1 (j := ((i : Nat) : Int).toNat * 1) (v := .slice q2.1.1.2.ps[i].2.oa (encEs x.ess[i]).length q2.1.1.2.ps[i].2.c) (hF (CellsF pr.1 pr.2 (listV q2.1.1.2.ps)) (.head _)) hb_ts23 (by rw [← hrow]; exact listV_get hi)) rfl ?_
      refine RL.call rfl rfl Try.call32 rfl (read_spec (l := encEs x.ess[i]) (.tail _ (.head _)) (by omega)) (fun rz => ?_)
      refine RL.assign rfl rfl rfl ?_
      refine RL.nil ?_
      refine NX.seq ?_
      refine TR.seq ?_
      refine TR.seq ?_
      refine TR.region ?_
      refine RL.move rfl rfl rfl ?_
      refine RL.bin rfl rfl rfl (BinV.eqlPtrNil hb_tp57) rfl ?_
      refine RL.nil ?_
      refine NX.seq ?_
      refine TR.condF rfl ?_
      refine TR.skip ?_
      refine NX.seq ?_
      refine TR.seq ?_
      refine TR.region ?_
      refine RL.assign rfl rfl rfl ?_
      refine RL.weak (fun w hw => OwnSl.nil_new 52 3 hw) ?_
      refine RL.nil ?_
      refine NX.seq ?_
      refine TR.seq ?_
      refine TR.region ?_
      refine RL.move rfl rfl rfl ?_
      refine RL.call rfl rfl Try.call33 rfl (Ctr.pick 3 [1, 0, 2] rfl (rInt_enc (n := ((x.ess[i].length : Nat) : Int)) (rest := encL x.ess[i]) (by omega) (by omega) (.head _) rz.2)) (fun z1 => ?_)
      refine RL.assign rfl rfl rfl ?_
      refine RL.nil ?_
      refine NX.seq ?_
      refine TR.seq ?_
      refine TR.seq ?_
      refine TR.region ?_
      refine RL.assign rfl rfl rfl ?_
      refine RL.nil ?_
      refine NX.seq ?_
      refine TR.block ?_
      refine TR.loopP (ι := RkX) (fun kr => kr.k ≤ x.ess[i].length ∧ (encL (x.ess[i].drop kr.k)).length ≤ kr.c) (fun kr => [(14, .slice x.oa x.ts.length x.c), (24, .slice q2.1.1.2.oa q2.1.1.2.ps.length q2.1.1.2.c), (26, S tk), (27, I (i : Nat)), (28, .pointer (some ⟨rz.1.1, 0, none⟩)), (29, .slice kr.la kr.k kr.lc), (30, I (x.ess[i].length : Nat)), (31, I (kr.k : Nat))]) (fun kr => OwnSl 52 3 kr.la kr.k kr.lc (edC (x.ess[i].take kr.k)) :: Box rz.1.1 105 [.slice kr.oa (encL (x.ess[i].drop kr.k)).length kr.c, I 0] :: OwnSl 9 1 x.oa x.ts.length x.c (strsV x.ts) :: M) (fun kr => ArrF kr.oa (bytesV (encL (x.ess[i].drop kr.k))) :: ArrF q2.1.1.2.oa (listV q2.1.1.2.ps) :: AllB q2.1.1.2.ps :: F) (fun kr => x.ess[i].length - kr.k) ⟨0, z1.1.oa, z1.1.c, none, 0⟩ ⟨Nat.zero_le _, z1.2⟩ ⟨rfl, rfl, rfl, rfl, rfl, rfl, rfl, rfl, trivial⟩ (fun w hw => (hw.to 3 [1, 0, 2] 6 [0, 4, 5] rfl)) (fun kr hk0_ => ?_)
      refine TR.seq ?_
      refine TR.seq ?_
      refine TR.region ?_
      refine RL.move rfl rfl rfl ?_
      refine RL.move rfl rfl rfl ?_
      refine RL.bin rfl rfl rfl BinV.lss rfl ?_
      refine RL.move rfl rfl rfl ?_
      refine RL.part (fun h10 => ?_) (fun h10 => ?_)
      · skip
        have hk : kr.k < x.ess[i].length := by have := of_decide_eq_true h10; omega
        have hdr := encL_drop hk
        have hdl := encL_dropLen x.ess[i] kr.k
        have hdn := congrArg List.length hdr
        simp only [List.length_append] at hdn
        have hkc := hk0_.2
        rw [hdr] at hkc ⊢
        have hxl : x.ess[i][kr.k].x.length ≤ (encR x.ess[i][kr.k].x).length := by unfold encR; rw [List.length_append]; omega
        obtain ⟨he1, he2, he3, he4⟩ := sound_ok (Int.le_refl 0) hek.2.1 _ (List.getElem_mem hk)
        refine RL.move rfl rfl rfl ?_
        refine RL.bin rfl rfl rfl (BinV.to (d := true) BinV.lss (decide_eq_true (by omega))) rfl ?_
        refine RL.pickT rfl rfl rfl rfl ?_
        refine RL.nil ?_
        refine NX.seq ?_
        refine TR.condT rfl ?_
        refine TR.skip ?_
        refine NX.seq ?_
        refine TR.seq ?_
        refine TR.block ?_
        refine TR.seq ?_
        refine TR.region ?_
        refine RL.move rfl rfl rfl ?_
        refine RL.call rfl rfl Try.call33 rfl (Ctr.pick 3 [1, 0, 2] rfl (rInt_enc (n := x.ess[i][kr.k].f) (rest := encU (zz x.ess[i][kr.k].t) ++ (encR x.ess[i][kr.k].x ++ encL (x.ess[i].drop (kr.k + 1)))) (by omega) (by omega) (.head _) hkc)) (fun z3 => ?_)
        refine RL.build rfl rfl (hb_bv52_0 _) rfl ?_
        refine RL.allocA rfl (Try.zeroValue52) rfl (fun b11 => ?_)
        refine RL.storeA 0 rfl rfl rfl rfl hb_tz52 rfl rfl ?_
        refine RL.nil ?_
        refine NX.seq ?_
        refine TR.seq ?_
        refine TR.region ?_
        refine RL.move rfl rfl rfl ?_
        refine RL.call rfl rfl Try.call33 rfl (Ctr.pick 4 [1, 0, 2, 3] rfl (rInt_enc (n := x.ess[i][kr.k].t) (rest := encR x.ess[i][kr.k].x ++ encL (x.ess[i].drop (kr.k + 1))) (by omega) (by omega) (.head _) z3.2)) (fun z4 => ?_)
        refine RL.fieldAddr rfl hb_tf52_1 rfl rfl ?_
        refine RL.store1 1 rfl hb_ts3 rfl rfl rfl rfl rfl ?_
        refine RL.nil ?_
        refine NX.seq ?_
        refine TR.seq ?_
        refine TR.region ?_
        refine RL.move rfl rfl rfl ?_
        refine RL.call rfl rfl Try.call34 rfl (rText_enc (x := x.ess[i][kr.k].x) (rest := encL (x.ess[i].drop (kr.k + 1))) (.head _) z4.2 (by rw [List.length_append]; omega) (by omega)) (fun z5 => ?_)
        refine RL.fieldAddr rfl hb_tf52_2 rfl rfl ?_
        refine RL.store1 1 rfl hb_ts9 rfl rfl rfl rfl rfl ?_
        refine RL.nil ?_
        refine NX.seq ?_
        refine TR.region ?_
        refine RL.move rfl rfl rfl ?_
        refine RL.loadA 1 rfl rfl rfl hb_ta52 rfl ?_
        refine RL.buildSlice rfl rfl (hb_bs45_1_0 _ _ _) rfl (fun b12 => ?_)
        refine RL.ofGV rfl rfl (GV.append (j := 3) hb_tl45 hb_ni45 hb_te52 rfl rfl rfl (src_box (i := 0) rfl rfl rfl) (by omega) (by omega)) (fun v => ?_)
        refine RL.assign rfl rfl rfl ?_
        refine RL.nil ?_
        refine NX.off ?_
        refine NX.seq ?_
        refine TR.region ?_
        refine RL.move rfl rfl rfl ?_
        refine RL.bin rfl rfl rfl (BinV.add _ rfl (by omega) (by omega)) rfl ?_
        refine RL.assign rfl rfl rfl ?_
        refine RL.nil ?_
        refine NX.roundP ⟨kr.k + 1, z5.1.oa, z5.1.c, v.1, v.2⟩ ⟨hk, z5.2⟩ (by show _ - (kr.k + 1) < _ - kr.k; omega) ⟨rfl, rfl, rfl, rfl, rfl, rfl, rfl, rfl, trivial⟩ (fun w hw => (by have h9 := (hw.to 5 [3, 1, 4] 6 [0, 4, 5] rfl); rw [← edC_take hk] at h9; exact h9))
      · skip
        have hk2 : kr.k = x.ess[i].length := by have := of_decide_eq_false h10; have := hk0_.1; omega
        rw [hk2, List.take_length, List.drop_length]
        refine RL.skip rfl rfl rfl ?_
        refine RL.skip rfl rfl rfl ?_
        refine RL.pickF rfl rfl rfl rfl ?_
        refine RL.nil ?_
        refine NX.seq ?_
        refine TR.condF rfl ?_
        refine TR.exit ?_
        refine NX.exitThen ?_
        refine NX.exitThen ?_
        refine NX.exitHere ?_
        refine NX.seq ?_
        refine TR.seq ?_
        refine TR.weak (fun w hw => hw.keepSl) ?_
        refine TR.region ?_
        refine RL.move rfl rfl rfl ?_
        refine RL.move rfl rfl rfl ?_
        refine RL.call rfl rfl Try.call26 rfl (apply_ok (s := tk) (x := applyGo tk 0 x.ess[i]) (es := x.ess[i]) (.head _) (by omega) hek.sound rfl (by omega)) (fun _ => ?_)
        refine RL.move rfl rfl rfl ?_
        refine RL.extract rfl rfl rfl rfl ?_
        refine RL.extract rfl rfl rfl rfl ?_
        refine RL.assign rfl rfl rfl ?_
        refine RL.assign rfl rfl rfl ?_
        refine RL.nil ?_
        refine NX.seq ?_
        refine TR.seq ?_
        refine TR.seq ?_
        refine TR.openP (fun w hw => own_at (i := 1) rfl (strsV_ne (show 0 < x.ts.length by omega)) hw) (fun gt hgt => ?_)
        refine TR.region ?_
        refine RL.move rfl rfl rfl ?_
        refine RL.call rfl rfl Try.call35 rfl (rEnd_spec) (fun _ => ?_)
        refine RL.bin rfl rfl rfl (BinV.to (d := false) BinV.neq (decide_eq_false (by simp [encL]))) rfl ?_
        refine RL.move rfl rfl rfl ?_
        refine RL.move rfl rfl rfl ?_
        refine RL.bin rfl rfl rfl (BinV.to (d := false) BinV.neq (decide_eq_false (by simp))) rfl ?_
        refine RL.pickF rfl rfl rfl rfl ?_
        refine RL.move rfl rfl rfl ?_
        refine RL.move rfl rfl rfl ?_
        refine RL.move rfl rfl rfl ?_
        refine RL.move rfl rfl rfl ?_
        refine RL.bin rfl rfl rfl (BinV.add ((i + 1 : Nat) : Int) (by omega) (by omega) (by omega)) rfl ?_
        refine RL.indexAddr rfl hb_tl43 hb_tz9 (congrArg (fun a => some (Value.slice a _ _)) hgt) rfl (by omega) (by omega) rfl ?_
        refine RL.loadS rfl rfl (own_one (i := 1) rfl hgt hb_ts9 (show (strsV x.ts)[0 + ((i + 1 : Nat) : Int).toNat * 1]? = some (S (applyGo tk 0 x.ess[i])) by rw [Nat.zero_add, strs_get (show i + 1 < x.ts.length by omega)]; exact congrArg (fun z => some (S z)) (Option.some.inj ((List.getElem?_eq_getElem _).symm.trans hnk)))) rfl ?_
        refine RL.bin rfl rfl rfl (BinV.to (d := false) BinV.neqS (decide_eq_false (by simp))) rfl ?_
        refine RL.pickF rfl rfl rfl rfl ?_
        refine RL.nil ?_
        refine NX.seq ?_
        refine TR.condF rfl ?_
        refine TR.skip ?_
        refine NX.seq ?_
        refine TR.region ?_
        refine RL.move rfl rfl rfl ?_
        refine RL.assign rfl rfl rfl ?_
        refine RL.nil ?_
        refine NX.off ?_
        refine NX.seq ?_
        refine TR.region ?_
        refine RL.move rfl rfl rfl ?_
        refine RL.bin rfl rfl rfl (BinV.add _ rfl (by omega) (by omega)) rfl ?_
        refine RL.assign rfl rfl rfl ?_
        refine RL.nil ?_
        have hg1 : x.ts.getD (i + 1) [] = applyGo tk 0 x.ess[i] := by rw [List.getD_eq_getElem?_getD, hnk]; rfl
        refine NX.roundP (i + 1) (by omega) (by omega) ⟨rfl, rfl, congrArg (fun z => some (S z)) hg1.symm, rfl, trivial⟩ (fun w hw => (hw.to 2 [1] 4 [2, 3] rfl))
    · skip
      refine TR.exit ?_
      refine NX.exitThen ?_
      refine NX.exitThen ?_
      refine NX.exitHere ?_
      refine NX.seq ?_
      refine TR.seq ?_
      refine TR.region ?_
      refine RL.call rfl rfl Try.call19 rfl (lives_spec) (fun _ => ?_)
      refine RL.assign rfl rfl rfl ?_
      refine RL.nil ?_
      refine NX.seq ?_
      refine TR.ret ?_
      exact NX.ret1 () rfl rfl rfl (fun w hw => (hw.to 1 [] 2 [] rfl))

end Go.Proofs.Ytdlpaojkkekdlaa

namespace Go.Proofs.Ytdlpaojkkekdlaa
open Go.ChangeShapes Go.WideShapes Go.ChangeAt Go.RowKit Go.GL Go.GL.Tree
theorem journalReplays_params : Try.f5.params = #[22, 22, 3, 3] := by kernel_rfl
set_option maxRecDepth 100000 in
theorem journalReplays_lifted (os : Os) (started : os.Started) (H : Type) (enc : TypeId × Value → H) :
    ReturnsInHanded {} Try.checked os 5 .any (Rows.journalReplaysSpec.pre6 enc Try.prog Try.f5 Rows.journalReplaysRow.domain false) (Rows.journalReplaysSpec.post enc Try.prog Try.f5 false true false false) := by
  refine returnsInHanded_of_change (C := Try.checked) own_ started (by kernel_rfl) Try.func5
    (ChangeSpec.witness6 (enc := enc) (C := Try.checked) false ⟨#[], #[.slice none 0 0, .slice none 0 0, .int .i64 0, .int .i64 0], []⟩ 8 (by kernel_rfl) (by kernel_rfl) (by kernel_rfl) (by kernel_rfl)) ?_
  intro W base args ds gs before hval0 hW _ _
  have hval : ∀ (j : Nat) t v, Try.f5.params[j]? = some t → args[j]? = some v → Value.okWide Try.prog W .any base t v := hval0
  have hW' := hW
  obtain ⟨p, q, hA0, hV, rfl, hfz, hnd⟩ := hW
  have hA : DataW.TrodAll enc Try.prog W 0 (fun _ => true) true Try.f5.params.toList args.toList ds p := hA0
  rw [journalReplays_params] at hA hval
  obtain ⟨v0, vs0, d0, ds0, p0, q0, hargs, rfl, rfl, h0, r0⟩ := trodAll_cons hA
  obtain ⟨v1, vs1, d1, ds1, p1, q1, rfl, rfl, rfl, h1, r1⟩ := trodAll_cons r0
  obtain ⟨v2, vs2, d2, ds2, p2, q2, rfl, rfl, rfl, h2, r2⟩ := trodAll_cons r1
  obtain ⟨v3, vs3, d3, ds3, p3, q3, rfl, rfl, rfl, h3, r3⟩ := trodAll_cons r2
  obtain ⟨rfl, rfl, rfl⟩ := trodAll_nil r3
  obtain rfl : args = #[v0, v1, v2, v3] := by cases args; simp_all
  obtain ⟨oa0, ca0, xs0, rfl, hxa0, hxl0, hxm0, hxr0⟩ := in_ints1 sl22 i64_3 one3 (hval 0 22 v0 rfl rfl) h0
  have hok0 : IntsOk xs0 := ⟨by simp [maxLen] at hxm0; omega, hxr0⟩
  obtain ⟨oa1, ca1, xs1, rfl, hxa1, hxl1, hxm1, hxr1⟩ := in_ints1 sl22 i64_3 one3 (hval 1 22 v1 rfl rfl) h1
  have hok1 : IntsOk xs1 := ⟨by simp [maxLen] at hxm1; omega, hxr1⟩
  obtain ⟨o2, rfl, _, _, ho2⟩ := open_int (isI64_is i64_3) (hval 2 3 v2 rfl rfl) h2
  have hoi2 : -9223372036854775808 ≤ o2 ∧ o2 ≤ 9223372036854775807 := by simpa [Lit.wf, IntKind.min, IntKind.max, IntKind.signed, IntKind.bits] using ho2
  obtain ⟨o3, rfl, _, _, ho3⟩ := open_int (isI64_is i64_3) (hval 3 3 v3 rfl rfl) h3
  have hoi3 : -9223372036854775808 ≤ o3 ∧ o3 ≤ 9223372036854775807 := by simpa [Lit.wf, IntKind.min, IntKind.max, IntKind.signed, IntKind.bits] using ho3
  have hwalk := law_run (W := W) (law_replays (ls := xs0) (ys := xs1) (wn := o2) (kp := o3) (oa := oa0) (ob := oa1) (ca := ca0) (cb := ca1) (M := []) (F := [OldF W, ArrF oa0 (ints xs0), ArrF oa1 (ints xs1)]) (.tail _ (.head _)) hok0 (.tail _ (.tail _ (.head _))) hok1 hxl1 hoi2 hoi3) (fun φ hφ => by
      rcases List.mem_cons.1 hφ with e | hφ
      · subst e; exact hxa0
      rcases List.mem_cons.1 hφ with e | hφ
      · subst e; exact hxa1
      cases hφ)
  exact hwalk.mono fun e W' ⟨he, hb⟩ => ⟨_, he, law_post (tb := 4) laidOut_ (by kernel_rfl) rfl (by kernel_rfl) (by kernel_rfl) rfl hW' hb⟩
theorem journalReplays_holds : Rows.JournalReplaysSaid :=
  OpenClaim.holds_of_wide 5 Try.f5 rfl rfl rfl rfl rfl rfl rfl ⟨rfl, rfl, rfl, rfl, rfl⟩ rfl rfl rfl rfl rfl (by kernel_rfl) Try.func5 (by kernel_rfl)
    (of_decide_eq_true (by kernel_rfl)) (by unfold Func.isWrapper; first | (rw [if_pos (by decide +kernel)]; kernel_rfl) | (rw [if_neg (by decide +kernel)]; exact ⟨rfl, rfl⟩))
    (fun os started H enc _ => journalReplays_lifted os started H enc)
end Go.Proofs.Ytdlpaojkkekdlaa
