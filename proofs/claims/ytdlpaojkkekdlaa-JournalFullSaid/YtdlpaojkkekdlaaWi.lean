/- Walks of functions of the program. Printed by sx.py. -/
import Derived.Test.YtdlpaojkkekdlaaWh
namespace Go.Proofs.Ytdlpaojkkekdlaa
open Go.GL
set_option linter.unusedVariables false
theorem wi_bs27_1_0 (x0 : Option Addr) (x0n x0c : Nat) : BuildSV Try.prog 27 23 1 [(0, .slice x0 x0n x0c)] [.slice x0 x0n x0c] := fun w => by kernel_rfl
theorem wi_bv121_0 (x0 : Option Addr) (x0n x0c : Nat) : BuildV Try.prog 121 [(0, .slice x0 x0n x0c)] (.agg #[.slice x0 x0n x0c, .int .i64 0]) := fun w => by kernel_rfl
theorem wi_ni27 : noInt Try.prog 27 = true := by kernel_rfl
theorem wi_te23 : tyElem Try.prog 23 1 24 = true := by kernel_rfl
theorem wi_tf121_1 : fieldOff Try.prog 121 1 1 = true := by kernel_rfl
theorem wi_tl23 : tySlice Try.prog 23 5 = true := by kernel_rfl
theorem wi_tl27 : tySlice Try.prog 27 23 = true := by kernel_rfl
theorem wi_ts39 : tyScalar Try.prog 39 = true := by kernel_rfl
theorem wi_tz5 : tySize Try.prog 5 1 = true := by kernel_rfl
theorem first_spec {i : Nat} {b : List UInt8} {oa : Option Addr} {c : Nat} {M : List HP} {F : List Fact} (ha : ArrF oa (bytesV b) ∈ F) (hc : b.length ≤ c) (hl : b.length ≤ 4398046511104) (hi : i ≤ 4611686018427387904) : Ctr Try.prog 50 [I (i : Int), .slice oa b.length c] M F {z : RdX // (fstJ i b).length ≤ z.c} (fun z => .tuple #[.slice z.1.oa (fstJ i b).length z.1.c, .bool (decide (okJ i b))]) (fun _ => M) (fun z => ArrF z.1.oa (bytesV (fstJ i b)) :: F) := by
  refine Ctr.body Try.func50 rfl rfl ?_
  refine TR.seq ?_
  refine TR.region ?_
  refine RL.assign rfl rfl rfl ?_
  refine RL.assign rfl rfl rfl ?_
  refine RL.nil ?_
  refine NX.seq ?_
  refine TR.seq ?_
  refine TR.region ?_
  refine RL.move rfl rfl rfl ?_
  refine RL.build rfl rfl (wi_bv121_0 _ _ _) rfl ?_
  refine RL.boxA rfl rfl rfl (fun b1 => ?_)
  refine RL.assign rfl rfl rfl ?_
  refine RL.nil ?_
  refine NX.seq ?_
  refine TR.seq ?_
  refine TR.region ?_
  refine RL.move rfl rfl rfl ?_
  refine RL.call rfl rfl Try.call79 rfl (rrRaw_spec (e := 0) ha hc (by omega)) (fun y2 => ?_)
  refine RL.assign rfl rfl rfl ?_
  refine RL.nil ?_
  refine NX.seq ?_
  refine TR.seq ?_
  refine TR.region ?_
  refine RL.move rfl rfl rfl ?_
  refine RL.build rfl rfl (wi_bv121_0 _ _ _) rfl ?_
  refine RL.boxA rfl rfl rfl (fun b2 => ?_)
  refine RL.assign rfl rfl rfl ?_
  refine RL.nil ?_
  refine NX.seq ?_
  refine TR.seq ?_
  refine TR.region ?_
  refine RL.move rfl rfl rfl ?_
  refine RL.call rfl rfl Try.call80 rfl (rrInt_spec (e := 0) (.head _) y2.2.2) (fun y4 => ?_)
  refine RL.nil ?_
  refine NX.seq ?_
  refine TR.seq ?_
  refine TR.region ?_
  refine RL.move rfl rfl rfl ?_
  refine RL.call rfl rfl Try.call79 rfl (rrRaw_spec (.head _) y4.2 (by have := refB_len (l := (rdRaw b 0).1) (e := 0); have := rdRaw_len (l := b) (e := 0); omega)) (fun y5 => ?_)
  refine RL.assign rfl rfl rfl ?_
  refine RL.nil ?_
  refine NX.seq ?_
  refine TR.seq ?_
  refine TR.seq ?_
  refine TR.region ?_
  have hxl : (rdRaw (refB (rdRaw b 0).1 0) (rdU (rdRaw b 0).1 0).2.2).1.length ≤ b.length := by have h1 := refB_len (l := (rdRaw b 0).1) (e := 0); have h2 := rdRaw_len (l := b) (e := 0); have h3 := rdRaw_len (l := refB (rdRaw b 0).1 0) (e := (rdU (rdRaw b 0).1 0).2.2); omega
  refine RL.move rfl rfl rfl ?_
  refine RL.nilCheck rfl rfl rfl ?_
  refine RL.fieldAddr rfl wi_tf121_1 rfl rfl ?_
  refine RL.load1 1 rfl wi_ts39 rfl rfl rfl rfl ?_
  refine RL.bin rfl rfl rfl BinV.neq rfl ?_
  refine RL.move rfl rfl rfl ?_
  refine RL.part (fun h3 => ?_) (fun h3 => ?_)
  · skip
    have hnone : fstOf b = none := by rw [fstOf_eq]; exact if_neg (fun h => (of_decide_eq_true h3) h.1)
    refine RL.skip rfl rfl rfl ?_
    refine RL.skip rfl rfl rfl ?_
    refine RL.skip rfl rfl rfl ?_
    refine RL.skip rfl rfl rfl ?_
    refine RL.skip rfl rfl rfl ?_
    refine RL.pickT rfl rfl rfl rfl ?_
    refine RL.nil ?_
    refine NX.seq ?_
    refine TR.condT rfl ?_
    refine TR.seq ?_
    refine TR.region ?_
    refine RL.assign rfl rfl rfl ?_
    refine RL.assign rfl rfl rfl ?_
    refine RL.nil ?_
    refine NX.seq ?_
    refine TR.ret ?_
    refine NX.retThen ?_
    have hno := okJ_none (i := i) (by omega) (by omega) hnone
    refine NX.ret2x rfl rfl rfl (fun w hw => ⟨⟨⟨none, 0⟩, by rw [fstJ_no hno]; exact Nat.zero_le _⟩, ?_, ?_⟩)
    · show _ = Value.tuple #[.slice none (fstJ i b).length 0, .bool (decide (okJ i b))]
      rw [fstJ_no hno, decide_eq_false hno]; rfl
    · show St w M (ArrF none (bytesV (fstJ i b)) :: F)
      rw [fstJ_no hno]
      exact ((hw.drop 0 rfl).tail.facts (fun φ h => by simp [h])).arr0
  · skip
    have hE1 : (rdRaw b 0).2.2 = 0 := by have := of_decide_eq_false h3; omega
    refine RL.move rfl rfl rfl ?_
    refine RL.nilCheck rfl rfl rfl ?_
    refine RL.fieldAddr rfl wi_tf121_1 rfl rfl ?_
    refine RL.load1 0 rfl wi_ts39 rfl rfl rfl rfl ?_
    refine RL.bin rfl rfl rfl BinV.neq rfl ?_
    refine RL.pickF rfl rfl rfl rfl ?_
    refine RL.nil ?_
    refine NX.seq ?_
    refine TR.cond rfl (fun h4 => ?_) (fun h4 => ?_)
    · skip
      have hnone : fstOf b = none := by rw [fstOf_eq]; exact if_neg (fun h => (of_decide_eq_true h4) h.2)
      refine TR.seq ?_
      refine TR.region ?_
      refine RL.assign rfl rfl rfl ?_
      refine RL.assign rfl rfl rfl ?_
      refine RL.nil ?_
      refine NX.seq ?_
      refine TR.ret ?_
      refine NX.retThen ?_
      have hno := okJ_none (i := i) (by omega) (by omega) hnone
      refine NX.ret2x rfl rfl rfl (fun w hw => ⟨⟨⟨none, 0⟩, by rw [fstJ_no hno]; exact Nat.zero_le _⟩, ?_, ?_⟩)
      · show _ = Value.tuple #[.slice none (fstJ i b).length 0, .bool (decide (okJ i b))]
        rw [fstJ_no hno, decide_eq_false hno]; rfl
      · show St w M (ArrF none (bytesV (fstJ i b)) :: F)
        rw [fstJ_no hno]
        exact ((hw.drop 0 rfl).tail.facts (fun φ h => by simp [h])).arr0
    · skip
      have hE2 : (rdRaw (refB (rdRaw b 0).1 0) (rdU (rdRaw b 0).1 0).2.2).2.2 = 0 := by have := of_decide_eq_false h4; omega
      have hsome : fstOf b = some (rdRaw (refB (rdRaw b 0).1 0) (rdU (rdRaw b 0).1 0).2.2).1 := by rw [fstOf_eq]; exact if_pos ⟨hE1, hE2⟩
      refine TR.skip ?_
      refine NX.seq ?_
      refine TR.seq ?_
      refine TR.region ?_
      refine RL.move rfl rfl rfl ?_
      refine RL.move rfl rfl rfl ?_
      refine RL.call rfl rfl Try.call14 rfl (rFrame_spec (i := (i : Int)) (x := (rdRaw (refB (rdRaw b 0).1 0) (rdU (rdRaw b 0).1 0).2.2).1) (.head _) (by omega) (by omega) (by omega)) (fun f => ?_)
      refine RL.weak (fun w hw => hw.keepSl) ?_
      have hfle := frameJ_len (i := (i : Int)) (x := (rdRaw (refB (rdRaw b 0).1 0) (rdU (rdRaw b 0).1 0).2.2).1) (by omega) (by omega) (by omega)
      refine RL.assign rfl rfl rfl ?_
      refine RL.nil ?_
      refine NX.seq ?_
      refine TR.seq ?_
      refine TR.seq ?_
      refine TR.region ?_
      refine RL.move rfl rfl rfl ?_
      refine RL.lenSlice rfl wi_tl23 rfl rfl ?_
      refine RL.move rfl rfl rfl ?_
      refine RL.lenSlice rfl wi_tl23 rfl rfl ?_
      refine RL.bin rfl rfl rfl BinV.gtr rfl ?_
      refine RL.move rfl rfl rfl ?_
      refine RL.part (fun h5 => ?_) (fun h5 => ?_)
      · skip
        have hgt : b.length < (frameJ (i : Int) (rdRaw (refB (rdRaw b 0).1 0) (rdU (rdRaw b 0).1 0).2.2).1).length := by have := of_decide_eq_true h5; omega
        have hnp : ¬ frameJ (i : Int) (rdRaw (refB (rdRaw b 0).1 0) (rdU (rdRaw b 0).1 0).2.2).1 <+: b := fun h => by have := h.length_le; omega
        refine RL.skip rfl rfl rfl ?_
        refine RL.skip rfl rfl rfl ?_
        refine RL.skip rfl rfl rfl ?_
        refine RL.skip rfl rfl rfl ?_
        refine RL.skip rfl rfl rfl ?_
        refine RL.skip rfl rfl rfl ?_
        refine RL.skip rfl rfl rfl ?_
        refine RL.pickT rfl rfl rfl rfl ?_
        refine RL.nil ?_
        refine NX.seq ?_
        refine TR.condT rfl ?_
        refine TR.seq ?_
        refine TR.region ?_
        refine RL.assign rfl rfl rfl ?_
        refine RL.assign rfl rfl rfl ?_
        refine RL.nil ?_
        refine NX.seq ?_
        refine TR.ret ?_
        refine NX.retThen ?_
        have hno := okJ_not (i := i) (by omega) (by omega) hsome hnp
        refine NX.ret2x rfl rfl rfl (fun w hw => ⟨⟨⟨none, 0⟩, by rw [fstJ_no hno]; exact Nat.zero_le _⟩, ?_, ?_⟩)
        · show _ = Value.tuple #[.slice none (fstJ i b).length 0, .bool (decide (okJ i b))]
          rw [fstJ_no hno, decide_eq_false hno]; rfl
        · show St w M (ArrF none (bytesV (fstJ i b)) :: F)
          rw [fstJ_no hno]
          exact ((hw.drop 0 rfl).tail.facts (fun φ h => by simp [h])).arr0
      · skip
        have hle : (frameJ (i : Int) (rdRaw (refB (rdRaw b 0).1 0) (rdU (rdRaw b 0).1 0).2.2).1).length ≤ b.length := by have := of_decide_eq_false h5; omega
        refine RL.move rfl rfl rfl ?_
        refine RL.move rfl rfl rfl ?_
        refine RL.move rfl rfl rfl ?_
        refine RL.lenSlice rfl wi_tl23 rfl rfl ?_
        refine RL.sliceToB (k := (frameJ (i : Int) (rdRaw (refB (rdRaw b 0).1 0) (rdU (rdRaw b 0).1 0).2.2).1).length) (cap := c) rfl wi_tl23 wi_tz5 rfl rfl (by rw [List.length_take, Nat.min_eq_left hle]) hc (by first | exact ha | exact .tail _ ha | exact .tail _ (.tail _ ha) | exact .tail _ (.tail _ (.tail _ ha)) | exact .tail _ (.tail _ (.tail _ (.tail _ ha))) | exact .tail _ (.tail _ (.tail _ (.tail _ (.tail _ ha)))) | exact .tail _ (.tail _ (.tail _ (.tail _ (.tail _ (.tail _ ha))))) | exact .tail _ (.tail _ (.tail _ (.tail _ (.tail _ (.tail _ (.tail _ ha)))))) | exact .tail _ (.tail _ (.tail _ (.tail _ (.tail _ (.tail _ (.tail _ (.tail _ ha)))))))) rfl ?_
        refine RL.call rfl rfl Try.call12 rfl (sameB_spec (xs := frameJ (i : Int) (rdRaw (refB (rdRaw b 0).1 0) (rdU (rdRaw b 0).1 0).2.2).1) (ys := b.take (frameJ (i : Int) (rdRaw (refB (rdRaw b 0).1 0) (rdU (rdRaw b 0).1 0).2.2).1).length) (.tail _ (.head _)) (.head _) (by omega)) (fun _ => ?_)
        refine RL.not rfl rfl rfl ?_
        refine RL.pickF rfl rfl rfl rfl ?_
        refine RL.nil ?_
        refine NX.seq ?_
        refine TR.cond rfl (fun h6 => ?_) (fun h6 => ?_)
        · skip
          have hnp : ¬ frameJ (i : Int) (rdRaw (refB (rdRaw b 0).1 0) (rdU (rdRaw b 0).1 0).2.2).1 <+: b := by
            have h9 := h6
            rw [pre_take hle] at h9
            simpa using h9
          refine TR.seq ?_
          refine TR.region ?_
          refine RL.assign rfl rfl rfl ?_
          refine RL.assign rfl rfl rfl ?_
          refine RL.nil ?_
          refine NX.seq ?_
          refine TR.ret ?_
          refine NX.retThen ?_
          have hno := okJ_not (i := i) (by omega) (by omega) hsome hnp
          refine NX.ret2x rfl rfl rfl (fun w hw => ⟨⟨⟨none, 0⟩, by rw [fstJ_no hno]; exact Nat.zero_le _⟩, ?_, ?_⟩)
          · show _ = Value.tuple #[.slice none (fstJ i b).length 0, .bool (decide (okJ i b))]
            rw [fstJ_no hno, decide_eq_false hno]; rfl
          · show St w M (ArrF none (bytesV (fstJ i b)) :: F)
            rw [fstJ_no hno]
            exact ((hw.drop 0 rfl).tail.facts (fun φ h => by simp [h])).arr0
        · skip
          have hpf : frameJ (i : Int) (rdRaw (refB (rdRaw b 0).1 0) (rdU (rdRaw b 0).1 0).2.2).1 <+: b := by
            have h9 := h6
            rw [pre_take hle] at h9
            simpa using h9
          refine TR.skip ?_
          refine NX.seq ?_
          refine TR.seq ?_
          refine TR.region ?_
          refine RL.move rfl rfl rfl ?_
          refine RL.assign rfl rfl rfl ?_
          refine RL.assign rfl rfl rfl ?_
          refine RL.nil ?_
          refine NX.seq ?_
          refine TR.ret ?_
          obtain ⟨hok, hxe⟩ := okJ_of (i := i) (by omega) (by omega) hsome hpf
          refine NX.ret2x rfl rfl rfl (fun w hw => ⟨⟨⟨y5.1.ro, y5.1.rc⟩, by rw [fstJ_yes hok, ← hxe]; exact y5.2.2⟩, ?_, ?_⟩)
          · show _ = Value.tuple #[.slice y5.1.ro (fstJ i b).length y5.1.rc, .bool (decide (okJ i b))]
            rw [fstJ_yes hok, decide_eq_true hok, ← hxe]
          · show St w M (ArrF y5.1.ro (bytesV (fstJ i b)) :: F)
            rw [fstJ_yes hok, ← hxe]
            exact (hw.drop 0 rfl).tail.facts (fun φ h => by
              rcases List.mem_cons.1 h with e1 | h
              · subst e1; simp
              · simp [h])

structure ScX where
  ps : List Rc
  oa : Option Addr
  c : Nat

theorem rScan_spec {b : List UInt8} {oa : Option Addr} {c : Nat} {M : List HP} {F : List Fact} (ha : ArrF oa (bytesV b) ∈ F) (hc : b.length ≤ c) (hl : b.length ≤ 4398046511104) : Ctr Try.prog 17 [.slice oa b.length c] M F {z : LsX // z.ps.map Prod.fst = scanJ 0 b ∧ ∀ p, p ∈ z.ps → p.1.length ≤ p.2.c} (fun z => .tuple #[.slice z.1.oa z.1.ps.length z.1.c, I ((framesJ 0 (scanJ 0 b)).length : Nat)]) (fun z => OwnSl 23 1 z.1.oa z.1.ps.length z.1.c (listV z.1.ps) :: M) (fun z => AllB z.1.ps :: F) := by
  refine Ctr.body Try.func17 rfl rfl ?_
  refine TR.seq ?_
  refine TR.region ?_
  refine RL.assign rfl rfl rfl ?_
  refine RL.assign rfl rfl rfl ?_
  refine RL.nil ?_
  refine NX.seq ?_
  refine TR.seq ?_
  refine TR.region ?_
  refine RL.assign rfl rfl rfl ?_
  refine RL.weak (fun w hw => OwnSl.nil_new 23 1 hw) ?_
  refine RL.nil ?_
  refine NX.seq ?_
  refine TR.seq ?_
  refine TR.region ?_
  refine RL.assign rfl rfl rfl ?_
  refine RL.nil ?_
  refine NX.seq ?_
  refine TR.seq ?_
  refine TR.block ?_
  refine TR.loopP (ι := ScX) (fun x => x.ps.map Prod.fst = (scanJ 0 b).take x.ps.length ∧ x.ps.length ≤ (scanJ 0 b).length ∧ (scanJ 0 b).drop x.ps.length = scanJ x.ps.length (b.drop (framesJ 0 ((scanJ 0 b).take x.ps.length)).length) ∧ (∀ p, p ∈ x.ps → p.1.length ≤ p.2.c) ∧ (framesJ 0 ((scanJ 0 b).take x.ps.length)).length ≤ b.length) (fun x => [(0, .slice oa b.length c), (4, .slice x.oa x.ps.length x.c), (5, I ((framesJ 0 ((scanJ 0 b).take x.ps.length)).length : Nat))]) (fun x => OwnSl 23 1 x.oa x.ps.length x.c (listV x.ps) :: M) (fun x => AllB x.ps :: F) (fun x => (scanJ 0 b).length - x.ps.length) ⟨[], none, 0⟩ ⟨by simp, Nat.zero_le _, by simp [framesJ], fun p hp => absurd hp (by simp), by simp [framesJ]⟩ ⟨rfl, rfl, rfl, trivial⟩ (fun w hw => hw.allB_nil) (fun x hx => ?_)
  refine TR.seq ?_
  refine TR.seq ?_
  refine TR.region ?_
  refine RL.move rfl rfl rfl ?_
  refine RL.move rfl rfl rfl ?_
  refine RL.lenSlice rfl wi_tl23 rfl rfl ?_
  refine RL.bin rfl rfl rfl BinV.lss rfl ?_
  refine RL.nil ?_
  refine NX.seq ?_
  refine TR.cond rfl (fun h1 => ?_) (fun h1 => ?_)
  · skip
    have hlt : (framesJ 0 ((scanJ 0 b).take x.ps.length)).length < b.length := by have := of_decide_eq_true h1; omega
    have hkl := framesJ_len2 (scanJ 0 b) x.ps.length hx.2.1
    refine TR.skip ?_
    refine NX.seq ?_
    refine TR.block ?_
    refine TR.seq ?_
    refine TR.region ?_
    refine RL.move rfl rfl rfl ?_
    refine RL.lenSlice rfl wi_tl27 rfl rfl ?_
    refine RL.move rfl rfl rfl ?_
    refine RL.move rfl rfl rfl ?_
    refine RL.sliceFromB (k := (framesJ 0 ((scanJ 0 b).take x.ps.length)).length) (cap := c) rfl wi_tl23 wi_tz5 rfl rfl (by omega) hc (.tail _ ha) rfl ?_
    refine RL.call rfl rfl Try.call50 rfl (first_spec (i := x.ps.length) (b := b.drop (framesJ 0 ((scanJ 0 b).take x.ps.length)).length) (.head _) (by rw [List.length_drop]; omega) (by rw [List.length_drop]; omega) (by omega)) (fun r => ?_)
    refine RL.move rfl rfl rfl ?_
    refine RL.extract rfl rfl rfl rfl ?_
    refine RL.extract rfl rfl rfl rfl ?_
    refine RL.assign rfl rfl rfl ?_
    refine RL.assign rfl rfl rfl ?_
    refine RL.nil ?_
    refine NX.seq ?_
    refine TR.seq ?_
    refine TR.seq ?_
    refine TR.region ?_
    refine RL.move rfl rfl rfl ?_
    refine RL.not rfl rfl rfl ?_
    refine RL.nil ?_
    refine NX.seq ?_
    refine TR.cond rfl (fun h2 => ?_) (fun h2 => ?_)
    · skip
      have hnp : ¬ frameJ (x.ps.length : Int) (recOf (b.drop (framesJ 0 ((scanJ 0 b).take x.ps.length)).length)) <+: b.drop (framesJ 0 ((scanJ 0 b).take x.ps.length)).length := by have h9 : ¬ okJ x.ps.length (b.drop (framesJ 0 ((scanJ 0 b).take x.ps.length)).length) := (by simpa using h2); exact h9
      have hk2 : x.ps.length = (scanJ 0 b).length := by have h9 := hx.2.2.1; rw [scanJ_no hnp] at h9; have := congrArg List.length h9; rw [List.length_drop, List.length_nil] at this; have := hx.2.1; omega
      refine TR.exit ?_
      refine NX.exitThen ?_
      refine NX.exitOn rfl ?_
      refine NX.exitThen ?_
      refine NX.exitHere ?_
      refine NX.seq ?_
      refine TR.seq ?_
      refine TR.region ?_
      refine RL.move rfl rfl rfl ?_
      refine RL.move rfl rfl rfl ?_
      refine RL.assign rfl rfl rfl ?_
      refine RL.assign rfl rfl rfl ?_
      refine RL.nil ?_
      refine NX.seq ?_
      refine TR.ret ?_
      refine NX.ret2x rfl rfl rfl (fun w hw => ⟨⟨⟨x.ps, x.oa, x.c⟩, ?_, hx.2.2.2.1⟩, ?_, ?_⟩)
      · show x.ps.map Prod.fst = scanJ 0 b
        rw [hx.1, hk2, List.take_length]
      · show Value.tuple #[.slice x.oa x.ps.length x.c, I ((framesJ 0 ((scanJ 0 b).take x.ps.length)).length : Nat)] = Value.tuple #[.slice x.oa x.ps.length x.c, I ((framesJ 0 (scanJ 0 b)).length : Nat)]
        rw [hk2, List.take_length]
      · exact hw.facts (F' := AllB x.ps :: F) (fun φ h => .tail _ (.tail _ h))
    · skip
      have hok : okJ x.ps.length (b.drop (framesJ 0 ((scanJ 0 b).take x.ps.length)).length) := by simpa using h2
      have hpf : frameJ (x.ps.length : Int) (recOf (b.drop (framesJ 0 ((scanJ 0 b).take x.ps.length)).length)) <+: b.drop (framesJ 0 ((scanJ 0 b).take x.ps.length)).length := hok
      have hfj : fstJ x.ps.length (b.drop (framesJ 0 ((scanJ 0 b).take x.ps.length)).length) = recOf (b.drop (framesJ 0 ((scanJ 0 b).take x.ps.length)).length) := fstJ_yes hok
      have hne : b.drop (framesJ 0 ((scanJ 0 b).take x.ps.length)).length ≠ [] := by intro e; have := congrArg List.length e; rw [List.length_drop, List.length_nil] at this; omega
      have hsc := hx.2.2.1
      rw [scanJ_yes hne hpf] at hsc
      have hk1 : x.ps.length < (scanJ 0 b).length := by have := congrArg List.length hsc; rw [List.length_drop, List.length_cons] at this; omega
      rw [List.drop_eq_getElem_cons hk1] at hsc
      have hxe : (scanJ 0 b)[x.ps.length] = recOf (b.drop (framesJ 0 ((scanJ 0 b).take x.ps.length)).length) := (List.cons.inj hsc).1
      have hrest := (List.cons.inj hsc).2
      have hfl := hpf.length_le
      rw [List.length_drop] at hfl
      have hrl := recOf_len (b := b.drop (framesJ 0 ((scanJ 0 b).take x.ps.length)).length)
      rw [List.length_drop] at hrl
      have hat : ((framesJ 0 ((scanJ 0 b).take (x.ps.length + 1))).length : Int) = (framesJ 0 ((scanJ 0 b).take x.ps.length)).length + (frameJ (x.ps.length : Int) (fstJ x.ps.length (b.drop (framesJ 0 ((scanJ 0 b).take x.ps.length)).length))).length := by
        rw [List.take_succ_eq_append_getElem hk1, framesJ_snoc, List.length_append, List.length_take, Nat.min_eq_left (by omega), Nat.zero_add, hfj, hxe]; omega
      have hfl2 : (fstJ x.ps.length (b.drop (framesJ 0 ((scanJ 0 b).take x.ps.length)).length)).length ≤ 17592186044416 := by rw [hfj]; omega
      have hfl3 : (frameJ (x.ps.length : Int) (fstJ x.ps.length (b.drop (framesJ 0 ((scanJ 0 b).take x.ps.length)).length))).length ≤ b.length := by rw [hfj]; omega
      refine TR.skip ?_
      refine NX.seq ?_
      refine TR.seq ?_
      refine TR.region ?_
      refine RL.move rfl rfl rfl ?_
      refine RL.move rfl rfl rfl ?_
      refine RL.lenSlice rfl wi_tl27 rfl rfl ?_
      refine RL.move rfl rfl rfl ?_
      refine RL.call rfl rfl Try.call14 rfl (rFrame_spec (i := (x.ps.length : Int)) (x := fstJ x.ps.length (b.drop (framesJ 0 ((scanJ 0 b).take x.ps.length)).length)) (.head _) (by omega) (by omega) (by omega)) (fun f => ?_)
      refine RL.weak (fun w hw => hw.drop 0 rfl) ?_
      refine RL.lenSlice rfl wi_tl23 rfl rfl ?_
      refine RL.bin rfl rfl rfl (BinV.add _ rfl (by omega) (by omega)) rfl ?_
      refine RL.assign rfl rfl rfl ?_
      refine RL.nil ?_
      refine NX.seq ?_
      refine TR.region ?_
      refine RL.move rfl rfl rfl ?_
      refine RL.move rfl rfl rfl ?_
      refine RL.buildSlice rfl rfl (wi_bs27_1_0 _ _ _) rfl (fun b3 => ?_)
      refine RL.ofGV rfl rfl (GV.append (j := 1) wi_tl27 wi_ni27 wi_te23 rfl rfl rfl (src_box (i := 0) rfl rfl rfl) (by omega) (by omega)) (fun y => ?_)
      refine RL.assign rfl rfl rfl ?_
      refine RL.nil ?_
      refine NX.off ?_
      have hps : (x.ps ++ [(fstJ x.ps.length (b.drop (framesJ 0 ((scanJ 0 b).take x.ps.length)).length), r.1)]).length = x.ps.length + 1 := by rw [List.length_append]; rfl
      refine NX.roundP ⟨x.ps ++ [(fstJ x.ps.length (b.drop (framesJ 0 ((scanJ 0 b).take x.ps.length)).length), r.1)], y.1, y.2⟩ ⟨?_, ?_, ?_, ?_, ?_⟩ ?_ ⟨rfl, ?_, ?_, trivial⟩ (fun w hw => ?_)
      · show (x.ps ++ [(fstJ x.ps.length (b.drop (framesJ 0 ((scanJ 0 b).take x.ps.length)).length), r.1)]).map Prod.fst = _
        rw [hps, List.take_succ_eq_append_getElem hk1, List.map_append, hx.1, hxe, ← hfj]; rfl
      · show (x.ps ++ [(fstJ x.ps.length (b.drop (framesJ 0 ((scanJ 0 b).take x.ps.length)).length), r.1)]).length ≤ _
        rw [hps]; exact hk1
      · show (scanJ 0 b).drop (x.ps ++ [(fstJ x.ps.length (b.drop (framesJ 0 ((scanJ 0 b).take x.ps.length)).length), r.1)]).length = scanJ (x.ps ++ [(fstJ x.ps.length (b.drop (framesJ 0 ((scanJ 0 b).take x.ps.length)).length), r.1)]).length (b.drop (framesJ 0 ((scanJ 0 b).take (x.ps ++ [(fstJ x.ps.length (b.drop (framesJ 0 ((scanJ 0 b).take x.ps.length)).length), r.1)]).length)).length)
        rw [hps]
        have e2 : b.drop (framesJ 0 ((scanJ 0 b).take (x.ps.length + 1))).length = (b.drop (framesJ 0 ((scanJ 0 b).take x.ps.length)).length).drop (frameJ (x.ps.length : Int) (recOf (b.drop (framesJ 0 ((scanJ 0 b).take x.ps.length)).length))).length := by
          rw [List.drop_drop, ← hfj]; congr 1; omega
        rw [e2]; exact hrest
      · intro q hq
        rcases List.mem_append.1 hq with h | h
        · exact hx.2.2.2.1 q h
        · rw [List.mem_singleton.1 h]; exact r.2
      · show (framesJ 0 ((scanJ 0 b).take (x.ps ++ [(fstJ x.ps.length (b.drop (framesJ 0 ((scanJ 0 b).take x.ps.length)).length), r.1)]).length)).length ≤ b.length
        rw [hps]; rw [hfj] at hat; omega
      · show (scanJ 0 b).length - (x.ps ++ [(fstJ x.ps.length (b.drop (framesJ 0 ((scanJ 0 b).take x.ps.length)).length), r.1)]).length < (scanJ 0 b).length - x.ps.length
        rw [hps]; omega
      · show some (Value.slice y.1 (x.ps.length + 1) y.2) = some (Value.slice y.1 (x.ps ++ [(fstJ x.ps.length (b.drop (framesJ 0 ((scanJ 0 b).take x.ps.length)).length), r.1)]).length y.2)
        rw [hps]
      · show some (I _) = some (I ((framesJ 0 ((scanJ 0 b).take (x.ps ++ [(fstJ x.ps.length (b.drop (framesJ 0 ((scanJ 0 b).take x.ps.length)).length), r.1)]).length)).length : Nat))
        rw [hps, hat]
      · have h9 := (hw.drop 0 rfl).allB_snoc (ps := x.ps) (p := (fstJ x.ps.length (b.drop (framesJ 0 ((scanJ 0 b).take x.ps.length)).length), r.1)) (.tail _ (.tail _ (.head _))) (.head _)
        show St w (OwnSl 23 1 y.1 (x.ps ++ [(fstJ x.ps.length (b.drop (framesJ 0 ((scanJ 0 b).take x.ps.length)).length), r.1)]).length y.2 (listV (x.ps ++ [(fstJ x.ps.length (b.drop (framesJ 0 ((scanJ 0 b).take x.ps.length)).length), r.1)])) :: M) (AllB (x.ps ++ [(fstJ x.ps.length (b.drop (framesJ 0 ((scanJ 0 b).take x.ps.length)).length), r.1)]) :: F)
        rw [hps, listV_append]
        exact h9.facts (fun φ h => by
          rcases List.mem_cons.1 h with e1 | h
          · subst e1; exact .head _
          · exact .tail _ (.tail _ (.tail _ (.tail _ h))))
  · skip
    have hend : b.drop (framesJ 0 ((scanJ 0 b).take x.ps.length)).length = [] := List.drop_of_length_le (by have := of_decide_eq_false h1; omega)
    have hk2 : x.ps.length = (scanJ 0 b).length := by have h9 := hx.2.2.1; rw [hend, scanJ_nil] at h9; have := congrArg List.length h9; rw [List.length_drop, List.length_nil] at this; have := hx.2.1; omega
    refine TR.exit ?_
    refine NX.exitThen ?_
    refine NX.exitThen ?_
    refine NX.exitHere ?_
    refine NX.seq ?_
    refine TR.seq ?_
    refine TR.region ?_
    refine RL.move rfl rfl rfl ?_
    refine RL.move rfl rfl rfl ?_
    refine RL.assign rfl rfl rfl ?_
    refine RL.assign rfl rfl rfl ?_
    refine RL.nil ?_
    refine NX.seq ?_
    refine TR.ret ?_
    refine NX.ret2x rfl rfl rfl (fun w hw => ⟨⟨⟨x.ps, x.oa, x.c⟩, ?_, hx.2.2.2.1⟩, ?_, ?_⟩)
    · show x.ps.map Prod.fst = scanJ 0 b
      rw [hx.1, hk2, List.take_length]
    · show Value.tuple #[.slice x.oa x.ps.length x.c, I ((framesJ 0 ((scanJ 0 b).take x.ps.length)).length : Nat)] = Value.tuple #[.slice x.oa x.ps.length x.c, I ((framesJ 0 (scanJ 0 b)).length : Nat)]
      rw [hk2, List.take_length]
    · exact hw

end Go.Proofs.Ytdlpaojkkekdlaa
