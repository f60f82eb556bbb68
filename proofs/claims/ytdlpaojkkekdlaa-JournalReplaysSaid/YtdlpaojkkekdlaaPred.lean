/- Lemmas and walks for the proof of ReplJ: texts one behind the other. No condition. -/
import Derived.Maps.RangeRun
import Derived.Maps.Keyed
import Derived.Carry
import Derived.DefersIn
import Derived.Laws.OwnMore
import Derived.Test.YtdlpaojkkekdlaaPrec
namespace Go.Proofs.Ytdlpaojkkekdlaa
open Go.GL
set_option linter.unusedVariables false
theorem wi_bs27_1_0 (x0 : Option Addr) (x0n x0c : Nat) : BuildSV Try.prog 27 23 1 [(0, .slice x0 x0n x0c)] [.slice x0 x0n x0c] := fun w => by kernel_rfl
theorem wi_bv121_0 (x0 : Option Addr) (x0n x0c : Nat) : BuildV Try.prog 121 [(0, .slice x0 x0n x0c)] (.agg #[.slice x0 x0n x0c, .int .i64 0]) := fun w => by kernel_rfl
theorem wi_ni27 : noInt Try.prog 27 = true := by kernel_rfl
theorem wi_te23 : tyElem Try.prog 23 1 24 = true := by kernel_rfl
theorem wi_tf121_1 : fieldOff Try.prog 121 1 1 = true := by kernel_rfl
theorem wi_tl23 : tySlice Try.prog 23 5 = true := by kernel_rfl
theorem wi_tl27 : tySlice Try.prog 27 23 = true := by kernel_rfl
theorem wi_ts39 : tyScalar Try.prog 39 = true := by kernel_rfl
theorem wi_tz5 : tySize Try.prog 5 1 = true := by kernel_rfl
theorem first_spec {i : Nat} {b : List UInt8} {oa : Option Addr} {c : Nat} {M : List HP} {F : List Fact} (ha : ArrF oa (bytesV b) ∈ F) (hc : b.length ≤ c) (hl : b.length ≤ 4398046511104) (hi : i ≤ 4611686018427387904) : Ctr Try.prog 50 [I (i : Int), .slice oa b.length c] M F {z : RdX // (fstJ i b).length ≤ z.c} (fun z => .tuple #[.slice z.1.oa (fstJ i b).length z.1.c, .bool (decide (okJ i b))]) (fun _ => M) (fun z => ArrF z.1.oa (bytesV (fstJ i b)) :: F) := by
  refine Ctr.body Try.func50 rfl rfl ?_
  refine TR.seq ?_
  refine TR.region ?_
  refine RL.assign rfl rfl rfl ?_
  refine RL.assign rfl rfl rfl ?_
  refine RL.nil ?_
  refine NX.seq ?_
  refine TR.seq ?_
  refine TR.region ?_
  refine RL.move rfl rfl rfl ?_
  refine RL.build rfl rfl (wi_bv121_0 _ _ _) rfl ?_
  refine RL.boxA rfl rfl rfl (fun b1 => ?_)
  refine RL.assign rfl rfl rfl ?_
  refine RL.nil ?_
  refine NX.seq ?_
  refine TR.seq ?_
  refine TR.region ?_
  refine RL.move rfl rfl rfl ?_
  refine RL.call rfl rfl Try.call79 rfl (rrRaw_spec (e := 0) ha hc (by omega)) (fun y2 => ?_)
  refine RL.assign rfl rfl rfl ?_
  refine RL.nil ?_
  refine NX.seq ?_
  refine TR.seq ?_
  refine TR.region ?_
  refine RL.move rfl rfl rfl ?_
  refine RL.build rfl rfl (wi_bv121_0 _ _ _) rfl ?_
  refine RL.boxA rfl rfl rfl (fun b2 => ?_)
  refine RL.assign rfl rfl rfl ?_
  refine RL.nil ?_
  refine NX.seq ?_
  refine TR.seq ?_
  refine TR.region ?_
  refine RL.move rfl rfl rfl ?_
  refine RL.call rfl rfl Try.call80 rfl (rrInt_spec (e := 0) (.head _) y2.2.2) (fun y4 => ?_)
  refine RL.nil ?_
  refine NX.seq ?_
  refine TR.seq ?_
  refine TR.region ?_
  refine RL.move rfl rfl rfl ?_
  refine RL.call rfl rfl Try.call79 rfl (rrRaw_spec (.head _) y4.2 (by have := refB_len (l := (rdRaw b 0).1) (e := 0); have := rdRaw_len (l := b) (e := 0); omega)) (fun y5 => ?_)
  refine RL.assign rfl rfl rfl ?_
  refine RL.nil ?_
  refine NX.seq ?_
  refine TR.seq ?_
  refine TR.seq ?_
  refine TR.region ?_
  have hxl : (rdRaw (refB (rdRaw b 0).1 0) (rdU (rdRaw b 0).1 0).2.2).1.length ≤ b.length := by have h1 := refB_len (l := (rdRaw b 0).1) (e := 0); have h2 := rdRaw_len (l := b) (e := 0); have h3 := rdRaw_len (l := refB (rdRaw b 0).1 0) (e := (rdU (rdRaw b 0).1 0).2.2); omega
  refine RL.move rfl rfl rfl ?_
  refine RL.nilCheck rfl rfl rfl ?_
  refine RL.fieldAddr rfl wi_tf121_1 rfl rfl ?_
  refine RL.load1 1 rfl wi_ts39 rfl rfl rfl rfl ?_
  refine RL.bin rfl rfl rfl BinV.neq rfl ?_
  refine RL.move rfl rfl rfl ?_
  refine RL.part (fun h3 => ?_) (fun h3 => ?_)
  · skip
    have hnone : fstOf b = none := by rw [fstOf_eq]; exact if_neg (fun h => (of_decide_eq_true h3) h.1)
    refine RL.skip rfl rfl rfl ?_
    refine RL.skip rfl rfl rfl ?_
    refine RL.skip rfl rfl rfl ?_
    refine RL.skip rfl rfl rfl ?_
    refine RL.skip rfl rfl rfl ?_
    refine RL.pickT rfl rfl rfl rfl ?_
    refine RL.nil ?_
    refine NX.seq ?_
    refine TR.condT rfl ?_
    refine TR.seq ?_
    refine TR.region ?_
    refine RL.assign rfl rfl rfl ?_
    refine RL.assign rfl rfl rfl ?_
    refine RL.nil ?_
    refine NX.seq ?_
    refine TR.ret ?_
    refine NX.retThen ?_
    have hno := okJ_none (i := i) (by omega) (by omega) hnone
    refine NX.ret2x rfl rfl rfl (fun w hw => ⟨⟨⟨none, 0⟩, by rw [fstJ_no hno]; exact Nat.zero_le _⟩, ?_, ?_⟩)
    · show _ = Value.tuple #[.slice none (fstJ i b).length 0, .bool (decide (okJ i b))]
      rw [fstJ_no hno, decide_eq_false hno]; rfl
    · show St w M (ArrF none (bytesV (fstJ i b)) :: F)
      rw [fstJ_no hno]
      exact ((hw.drop 0 rfl).tail.facts (fun φ h => by simp [h])).arr0
  · skip
    have hE1 : (rdRaw b 0).2.2 = 0 := by have := of_decide_eq_false h3; omega
    refine RL.move rfl rfl rfl ?_
    refine RL.nilCheck rfl rfl rfl ?_
    refine RL.fieldAddr rfl wi_tf121_1 rfl rfl ?_
    refine RL.load1 0 rfl wi_ts39 rfl rfl rfl rfl ?_
    refine RL.bin rfl rfl rfl BinV.neq rfl ?_
    refine RL.pickF rfl rfl rfl rfl ?_
    refine RL.nil ?_
    refine NX.seq ?_
    refine TR.cond rfl (fun h4 => ?_) (fun h4 => ?_)
    · skip
      have hnone : fstOf b = none := by rw [fstOf_eq]; exact if_neg (fun h => (of_decide_eq_true h4) h.2)
      refine TR.seq ?_
      refine TR.region ?_
      refine RL.assign rfl rfl rfl ?_
      refine RL.assign rfl rfl rfl ?_
      refine RL.nil ?_
      refine NX.seq ?_
      refine TR.ret ?_
      refine NX.retThen ?_
      have hno := okJ_none (i := i) (by omega) (by omega) hnone
      refine NX.ret2x rfl rfl rfl (fun w hw => ⟨⟨⟨none, 0⟩, by rw [fstJ_no hno]; exact Nat.zero_le _⟩, ?_, ?_⟩)
      · show _ = Value.tuple #[.slice none (fstJ i b).length 0, .bool (decide (okJ i b))]
        rw [fstJ_no hno, decide_eq_false hno]; rfl
      · show St w M (ArrF none (bytesV (fstJ i b)) :: F)
        rw [fstJ_no hno]
        exact ((hw.drop 0 rfl).tail.facts (fun φ h => by simp [h])).arr0
    · skip
      have hE2 : (rdRaw (refB (rdRaw b 0).1 0) (rdU (rdRaw b 0).1 0).2.2).2.2 = 0 := by have := of_decide_eq_false h4; omega
      have hsome : fstOf b = some (rdRaw (refB (rdRaw b 0).1 0) (rdU (rdRaw b 0).1 0).2.2).1 := by rw [fstOf_eq]; exact if_pos ⟨hE1, hE2⟩
      refine TR.skip ?_
      refine NX.seq ?_
      refine TR.seq ?_
      refine TR.region ?_
      refine RL.move rfl rfl rfl ?_
      refine RL.move rfl rfl rfl ?_
      refine RL.call rfl rfl Try.call14 rfl (rFrame_spec (i := (i : Int)) (x := (rdRaw (refB (rdRaw b 0).1 0) (rdU (rdRaw b 0).1 0).2.2).1) (.head _) (by omega) (by omega) (by omega)) (fun f => ?_)
      refine RL.weak (fun w hw => hw.keepSl) ?_
      have hfle := frameJ_len (i := (i : Int)) (x := (rdRaw (refB (rdRaw b 0).1 0) (rdU (rdRaw b 0).1 0).2.2).1) (by omega) (by omega) (by omega)
      refine RL.assign rfl rfl rfl ?_
      refine RL.nil ?_
      refine NX.seq ?_
      refine TR.seq ?_
      refine TR.seq ?_
      refine TR.region ?_
      refine RL.move rfl rfl rfl ?_
      refine RL.lenSlice rfl wi_tl23 rfl rfl ?_
      refine RL.move rfl rfl rfl ?_
      refine RL.lenSlice rfl wi_tl23 rfl rfl ?_
      refine RL.bin rfl rfl rfl BinV.gtr rfl ?_
      refine RL.move rfl rfl rfl ?_
      refine RL.part (fun h5 => ?_) (fun h5 => ?_)
      · skip
        have hgt : b.length < (frameJ (i : Int) (rdRaw (refB (rdRaw b 0).1 0) (rdU (rdRaw b 0).1 0).2.2).1).length := by have := of_decide_eq_true h5; omega
        have hnp : ¬ frameJ (i : Int) (rdRaw (refB (rdRaw b 0).1 0) (rdU (rdRaw b 0).1 0).2.2).1 <+: b := fun h => by have := h.length_le; omega
        refine RL.skip rfl rfl rfl ?_
        refine RL.skip rfl rfl rfl ?_
        refine RL.skip rfl rfl rfl ?_
        refine RL.skip rfl rfl rfl ?_
        refine RL.skip rfl rfl rfl ?_
        refine RL.skip rfl rfl rfl ?_
        refine RL.skip rfl rfl rfl ?_
        refine RL.pickT rfl rfl rfl rfl ?_
        refine RL.nil ?_
        refine NX.seq ?_
        refine TR.condT rfl ?_
        refine TR.seq ?_
        refine TR.region ?_
        refine RL.assign rfl rfl rfl ?_
        refine RL.assign rfl rfl rfl ?_
        refine RL.nil ?_
        refine NX.seq ?_
        refine TR.ret ?_
        refine NX.retThen ?_
        have hno := okJ_not (i := i) (by omega) (by omega) hsome hnp
        refine NX.ret2x rfl rfl rfl (fun w hw => ⟨⟨⟨none, 0⟩, by rw [fstJ_no hno]; exact Nat.zero_le _⟩, ?_, ?_⟩)
        · show _ = Value.tuple #[.slice none (fstJ i b).length 0, .bool (decide (okJ i b))]
          rw [fstJ_no hno, decide_eq_false hno]; rfl
        · show St w M (ArrF none (bytesV (fstJ i b)) :: F)
          rw [fstJ_no hno]
          exact ((hw.drop 0 rfl).tail.facts (fun φ h => by simp [h])).arr0
      · skip
        have hle : (frameJ (i : Int) (rdRaw (refB (rdRaw b 0).1 0) (rdU (rdRaw b 0).1 0).2.2).1).length ≤ b.length := by have := of_decide_eq_false h5; omega
        refine RL.move rfl rfl rfl ?_
        refine RL.move rfl rfl rfl ?_
        refine RL.move rfl rfl rfl ?_
        refine RL.lenSlice rfl wi_tl23 rfl rfl ?_
        refine RL.sliceToB (k := (frameJ (i : Int) (rdRaw (refB (rdRaw b 0).1 0) (rdU (rdRaw b 0).1 0).2.2).1).length) (cap := c) rfl wi_tl23 wi_tz5 rfl rfl (by rw [List.length_take, Nat.min_eq_left hle]) hc (by first | exact ha | exact .tail _ ha | exact .tail _ (.tail _ ha) | exact .tail _ (.tail _ (.tail _ ha)) | exact .tail _ (.tail _ (.tail _ (.tail _ ha))) | exact .tail _ (.tail _ (.tail _ (.tail _ (.tail _ ha)))) | exact .tail _ (.tail _ (.tail _ (.tail _ (.tail _ (.tail _ ha))))) | exact .tail _ (.tail _ (.tail _ (.tail _ (.tail _ (.tail _ (.tail _ ha)))))) | exact .tail _ (.tail _ (.tail _ (.tail _ (.tail _ (.tail _ (.tail _ (.tail _ ha)))))))) rfl ?_
        refine RL.call rfl rfl Try.call12 rfl (sameB_spec (xs := frameJ (i : Int) (rdRaw (refB (rdRaw b 0).1 0) (rdU (rdRaw b 0).1 0).2.2).1) (ys := b.take (frameJ (i : Int) (rdRaw (refB (rdRaw b 0).1 0) (rdU (rdRaw b 0).1 0).2.2).1).length) (.tail _ (.head _)) (.head _) (by omega)) (fun _ => ?_)
        refine RL.not rfl rfl rfl ?_
        refine RL.pickF rfl rfl rfl rfl ?_
        refine RL.nil ?_
        refine NX.seq ?_
        refine TR.cond rfl (fun h6 => ?_) (fun h6 => ?_)
        · skip
          have hnp : ¬ frameJ (i : Int) (rdRaw (refB (rdRaw b 0).1 0) (rdU (rdRaw b 0).1 0).2.2).1 <+: b := by
            have h9 := h6
            rw [pre_take hle] at h9
            simpa using h9
          refine TR.seq ?_
          refine TR.region ?_
          refine RL.assign rfl rfl rfl ?_
          refine RL.assign rfl rfl rfl ?_
          refine RL.nil ?_
          refine NX.seq ?_
          refine TR.ret ?_
          refine NX.retThen ?_
          have hno := okJ_not (i := i) (by omega) (by omega) hsome hnp
          refine NX.ret2x rfl rfl rfl (fun w hw => ⟨⟨⟨none, 0⟩, by rw [fstJ_no hno]; exact Nat.zero_le _⟩, ?_, ?_⟩)
          · show _ = Value.tuple #[.slice none (fstJ i b).length 0, .bool (decide (okJ i b))]
            rw [fstJ_no hno, decide_eq_false hno]; rfl
          · show St w M (ArrF none (bytesV (fstJ i b)) :: F)
            rw [fstJ_no hno]
            exact ((hw.drop 0 rfl).tail.facts (fun φ h => by simp [h])).arr0
        · skip
          have hpf : frameJ (i : Int) (rdRaw (refB (rdRaw b 0).1 0) (rdU (rdRaw b 0).1 0).2.2).1 <+: b := by
            have h9 := h6
            rw [pre_take hle] at h9
            simpa using h9
          refine TR.skip ?_
          refine NX.seq ?_
          refine TR.seq ?_
          refine TR.region ?_
          refine RL.move rfl rfl rfl ?_
          refine RL.assign rfl rfl rfl ?_
          refine RL.assign rfl rfl rfl ?_
          refine RL.nil ?_
          refine NX.seq ?_
          refine TR.ret ?_
          obtain ⟨hok, hxe⟩ := okJ_of (i := i) (by omega) (by omega) hsome hpf
          refine NX.ret2x rfl rfl rfl (fun w hw => ⟨⟨⟨y5.1.ro, y5.1.rc⟩, by rw [fstJ_yes hok, ← hxe]; exact y5.2.2⟩, ?_, ?_⟩)
          · show _ = Value.tuple #[.slice y5.1.ro (fstJ i b).length y5.1.rc, .bool (decide (okJ i b))]
            rw [fstJ_yes hok, decide_eq_true hok, ← hxe]
          · show St w M (ArrF y5.1.ro (bytesV (fstJ i b)) :: F)
            rw [fstJ_yes hok, ← hxe]
            exact (hw.drop 0 rfl).tail.facts (fun φ h => by
              rcases List.mem_cons.1 h with e1 | h
              · subst e1; simp
              · simp [h])

structure ScX where
  ps : List Rc
  oa : Option Addr
  c : Nat

theorem rScan_spec {b : List UInt8} {oa : Option Addr} {c : Nat} {M : List HP} {F : List Fact} (ha : ArrF oa (bytesV b) ∈ F) (hc : b.length ≤ c) (hl : b.length ≤ 4398046511104) : Ctr Try.prog 17 [.slice oa b.length c] M F {z : LsX // z.ps.map Prod.fst = scanJ 0 b ∧ ∀ p, p ∈ z.ps → p.1.length ≤ p.2.c} (fun z => .tuple #[.slice z.1.oa z.1.ps.length z.1.c, I ((framesJ 0 (scanJ 0 b)).length : Nat)]) (fun z => OwnSl 23 1 z.1.oa z.1.ps.length z.1.c (listV z.1.ps) :: M) (fun z => AllB z.1.ps :: F) := by
  refine Ctr.body Try.func17 rfl rfl ?_
  refine TR.seq ?_
  refine TR.region ?_
  refine RL.assign rfl rfl rfl ?_
  refine RL.assign rfl rfl rfl ?_
  refine RL.nil ?_
  refine NX.seq ?_
  refine TR.seq ?_
  refine TR.region ?_
  refine RL.assign rfl rfl rfl ?_
  refine RL.weak (fun w hw => OwnSl.nil_new 23 1 hw) ?_
  refine RL.nil ?_
  refine NX.seq ?_
  refine TR.seq ?_
  refine TR.region ?_
  refine RL.assign rfl rfl rfl ?_
  refine RL.nil ?_
  refine NX.seq ?_
  refine TR.seq ?_
  refine TR.block ?_
  refine TR.loopP (ι := ScX) (fun x => x.ps.map Prod.fst = (scanJ 0 b).take x.ps.length ∧ x.ps.length ≤ (scanJ 0 b).length ∧ (scanJ 0 b).drop x.ps.length = scanJ x.ps.length (b.drop (framesJ 0 ((scanJ 0 b).take x.ps.length)).length) ∧ (∀ p, p ∈ x.ps → p.1.length ≤ p.2.c) ∧ (framesJ 0 ((scanJ 0 b).take x.ps.length)).length ≤ b.length) (fun x => [(0, .slice oa b.length c), (4, .slice x.oa x.ps.length x.c), (5, I ((framesJ 0 ((scanJ 0 b).take x.ps.length)).length : Nat))]) (fun x => OwnSl 23 1 x.oa x.ps.length x.c (listV x.ps) :: M) (fun x => AllB x.ps :: F) (fun x => (scanJ 0 b).length - x.ps.length) ⟨[], none, 0⟩ ⟨by simp, Nat.zero_le _, by simp [framesJ], fun p hp => absurd hp (by simp), by simp [framesJ]⟩ ⟨rfl, rfl, rfl, trivial⟩ (fun w hw => hw.allB_nil) (fun x hx => ?_)
  refine TR.seq ?_
  refine TR.seq ?_
  refine TR.region ?_
  refine RL.move rfl rfl rfl ?_
  refine RL.move rfl rfl rfl ?_
  refine RL.lenSlice rfl wi_tl23 rfl rfl ?_
  refine RL.bin rfl rfl rfl BinV.lss rfl ?_
  refine RL.nil ?_
  refine NX.seq ?_
  refine TR.cond rfl (fun h1 => ?_) (fun h1 => ?_)
  · skip
    have hlt : (framesJ 0 ((scanJ 0 b).take x.ps.length)).length < b.length := by have := of_decide_eq_true h1; omega
    have hkl := framesJ_len2 (scanJ 0 b) x.ps.length hx.2.1
    refine TR.skip ?_
    refine NX.seq ?_
    refine TR.block ?_
    refine TR.seq ?_
    refine TR.region ?_
    refine RL.move rfl rfl rfl ?_
    refine RL.lenSlice rfl wi_tl27 rfl rfl ?_
    refine RL.move rfl rfl rfl ?_
    refine RL.move rfl rfl rfl ?_
    refine RL.sliceFromB (k := (framesJ 0 ((scanJ 0 b).take x.ps.length)).length) (cap := c) rfl wi_tl23 wi_tz5 rfl rfl (by omega) hc (.tail _ ha) rfl ?_
    refine RL.call rfl rfl Try.call50 rfl (first_spec (i := x.ps.length) (b := b.drop (framesJ 0 ((scanJ 0 b).take x.ps.length)).length) (.head _) (by rw [List.length_drop]; omega) (by rw [List.length_drop]; omega) (by omega)) (fun r => ?_)
    refine RL.move rfl rfl rfl ?_
    refine RL.extract rfl rfl rfl rfl ?_
    refine RL.extract rfl rfl rfl rfl ?_
    refine RL.assign rfl rfl rfl ?_
    refine RL.assign rfl rfl rfl ?_
    refine RL.nil ?_
    refine NX.seq ?_
    refine TR.seq ?_
    refine TR.seq ?_
    refine TR.region ?_
    refine RL.move rfl rfl rfl ?_
    refine RL.not rfl rfl rfl ?_
    refine RL.nil ?_
    refine NX.seq ?_
    refine TR.cond rfl (fun h2 => ?_) (fun h2 => ?_)
    · skip
      have hnp : ¬ frameJ (x.ps.length : Int) (recOf (b.drop (framesJ 0 ((scanJ 0 b).take x.ps.length)).length)) <+: b.drop (framesJ 0 ((scanJ 0 b).take x.ps.length)).length := by have h9 : ¬ okJ x.ps.length (b.drop (framesJ 0 ((scanJ 0 b).take x.ps.length)).length) := (by simpa using h2); exact h9
      have hk2 : x.ps.length = (scanJ 0 b).length := by have h9 := hx.2.2.1; rw [scanJ_no hnp] at h9; have := congrArg List.length h9; rw [List.length_drop, List.length_nil] at this; have := hx.2.1; omega
      refine TR.exit ?_
      refine NX.exitThen ?_
      refine NX.exitOn rfl ?_
      refine NX.exitThen ?_
      refine NX.exitHere ?_
      refine NX.seq ?_
      refine TR.seq ?_
      refine TR.region ?_
      refine RL.move rfl rfl rfl ?_
      refine RL.move rfl rfl rfl ?_
      refine RL.assign rfl rfl rfl ?_
      refine RL.assign rfl rfl rfl ?_
      refine RL.nil ?_
      refine NX.seq ?_
      refine TR.ret ?_
      refine NX.ret2x rfl rfl rfl (fun w hw => ⟨⟨⟨x.ps, x.oa, x.c⟩, ?_, hx.2.2.2.1⟩, ?_, ?_⟩)
      · show x.ps.map Prod.fst = scanJ 0 b
        rw [hx.1, hk2, List.take_length]
      · show Value.tuple #[.slice x.oa x.ps.length x.c, I ((framesJ 0 ((scanJ 0 b).take x.ps.length)).length : Nat)] = Value.tuple #[.slice x.oa x.ps.length x.c, I ((framesJ 0 (scanJ 0 b)).length : Nat)]
        rw [hk2, List.take_length]
      · exact hw.facts (F' := AllB x.ps :: F) (fun φ h => .tail _ (.tail _ h))
    · skip
      have hok : okJ x.ps.length (b.drop (framesJ 0 ((scanJ 0 b).take x.ps.length)).length) := by simpa using h2
      have hpf : frameJ (x.ps.length : Int) (recOf (b.drop (framesJ 0 ((scanJ 0 b).take x.ps.length)).length)) <+: b.drop (framesJ 0 ((scanJ 0 b).take x.ps.length)).length := hok
      have hfj : fstJ x.ps.length (b.drop (framesJ 0 ((scanJ 0 b).take x.ps.length)).length) = recOf (b.drop (framesJ 0 ((scanJ 0 b).take x.ps.length)).length) := fstJ_yes hok
      have hne : b.drop (framesJ 0 ((scanJ 0 b).take x.ps.length)).length ≠ [] := by intro e; have := congrArg List.length e; rw [List.length_drop, List.length_nil] at this; omega
      have hsc := hx.2.2.1
      rw [scanJ_yes hne hpf] at hsc
      have hk1 : x.ps.length < (scanJ 0 b).length := by have := congrArg List.length hsc; rw [List.length_drop, List.length_cons] at this; omega
      rw [List.drop_eq_getElem_cons hk1] at hsc
      have hxe : (scanJ 0 b)[x.ps.length] = recOf (b.drop (framesJ 0 ((scanJ 0 b).take x.ps.length)).length) := (List.cons.inj hsc).1
      have hrest := (List.cons.inj hsc).2
      have hfl := hpf.length_le
      rw [List.length_drop] at hfl
      have hrl := recOf_len (b := b.drop (framesJ 0 ((scanJ 0 b).take x.ps.length)).length)
      rw [List.length_drop] at hrl
      have hat : ((framesJ 0 ((scanJ 0 b).take (x.ps.length + 1))).length : Int) = (framesJ 0 ((scanJ 0 b).take x.ps.length)).length + (frameJ (x.ps.length : Int) (fstJ x.ps.length (b.drop (framesJ 0 ((scanJ 0 b).take x.ps.length)).length))).length := by
        rw [List.take_succ_eq_append_getElem hk1, framesJ_snoc, List.length_append, List.length_take, Nat.min_eq_left (by omega), Nat.zero_add, hfj, hxe]; omega
      have hfl2 : (fstJ x.ps.length (b.drop (framesJ 0 ((scanJ 0 b).take x.ps.length)).length)).length ≤ 17592186044416 := by rw [hfj]; omega
      have hfl3 : (frameJ (x.ps.length : Int) (fstJ x.ps.length (b.drop (framesJ 0 ((scanJ 0 b).take x.ps.length)).length))).length ≤ b.length := by rw [hfj]; omega
      refine TR.skip ?_
      refine NX.seq ?_
      refine TR.seq ?_
      refine TR.region ?_
      refine RL.move rfl rfl rfl ?_
      refine RL.move rfl rfl rfl ?_
      refine RL.lenSlice rfl wi_tl27 rfl rfl ?_
      refine RL.move rfl rfl rfl ?_
      refine RL.call rfl rfl Try.call14 rfl (rFrame_spec (i := (x.ps.length : Int)) (x := fstJ x.ps.length (b.drop (framesJ 0 ((scanJ 0 b).take x.ps.length)).length)) (.head _) (by omega) (by omega) (by omega)) (fun f => ?_)
      refine RL.weak (fun w hw => hw.drop 0 rfl) ?_
      refine RL.lenSlice rfl wi_tl23 rfl rfl ?_
      refine RL.bin rfl rfl rfl (BinV.add _ rfl (by omega) (by omega)) rfl ?_
      refine RL.assign rfl rfl rfl ?_
      refine RL.nil ?_
      refine NX.seq ?_
      refine TR.region ?_
      refine RL.move rfl rfl rfl ?_
      refine RL.move rfl rfl rfl ?_
      refine RL.buildSlice rfl rfl (wi_bs27_1_0 _ _ _) rfl (fun b3 => ?_)
      refine RL.ofGV rfl rfl (GV.append (j := 1) wi_tl27 wi_ni27 wi_te23 rfl rfl rfl (src_box (i := 0) rfl rfl rfl) (by omega) (by omega)) (fun y => ?_)
      refine RL.assign rfl rfl rfl ?_
      refine RL.nil ?_
      refine NX.off ?_
      have hps : (x.ps ++ [(fstJ x.ps.length (b.drop (framesJ 0 ((scanJ 0 b).take x.ps.length)).length), r.1)]).length = x.ps.length + 1 := by rw [List.length_append]; rfl
      refine NX.roundP ⟨x.ps ++ [(fstJ x.ps.length (b.drop (framesJ 0 ((scanJ 0 b).take x.ps.length)).length), r.1)], y.1, y.2⟩ ⟨?_, ?_, ?_, ?_, ?_⟩ ?_ ⟨rfl, ?_, ?_, trivial⟩ (fun w hw => ?_)
      · show (x.ps ++ [(fstJ x.ps.length (b.drop (framesJ 0 ((scanJ 0 b).take x.ps.length)).length), r.1)]).map Prod.fst = _
        rw [hps, List.take_succ_eq_append_getElem hk1, List.map_append, hx.1, hxe, ← hfj]; rfl
      · show (x.ps ++ [(fstJ x.ps.length (b.drop (framesJ 0 ((scanJ 0 b).take x.ps.length)).length), r.1)]).length ≤ _
        rw [hps]; exact hk1
      · show (scanJ 0 b).drop (x.ps ++ [(fstJ x.ps.length (b.drop (framesJ 0 ((scanJ 0 b).take x.ps.length)).length), r.1)]).length = scanJ (x.ps ++ [(fstJ x.ps.length (b.drop (framesJ 0 ((scanJ 0 b).take x.ps.length)).length), r.1)]).length (b.drop (framesJ 0 ((scanJ 0 b).take (x.ps ++ [(fstJ x.ps.length (b.drop (framesJ 0 ((scanJ 0 b).take x.ps.length)).length), r.1)]).length)).length)
        rw [hps]
        have e2 : b.drop (framesJ 0 ((scanJ 0 b).take (x.ps.length + 1))).length = (b.drop (framesJ 0 ((scanJ 0 b).take x.ps.length)).length).drop (frameJ (x.ps.length : Int) (recOf (b.drop (framesJ 0 ((scanJ 0 b).take x.ps.length)).length))).length := by
          rw [List.drop_drop, ← hfj]; congr 1; omega
        rw [e2]; exact hrest
      · intro q hq
        rcases List.mem_append.1 hq with h | h
        · exact hx.2.2.2.1 q h
        · rw [List.mem_singleton.1 h]; exact r.2
      · show (framesJ 0 ((scanJ 0 b).take (x.ps ++ [(fstJ x.ps.length (b.drop (framesJ 0 ((scanJ 0 b).take x.ps.length)).length), r.1)]).length)).length ≤ b.length
        rw [hps]; rw [hfj] at hat; omega
      · show (scanJ 0 b).length - (x.ps ++ [(fstJ x.ps.length (b.drop (framesJ 0 ((scanJ 0 b).take x.ps.length)).length), r.1)]).length < (scanJ 0 b).length - x.ps.length
        rw [hps]; omega
      · show some (Value.slice y.1 (x.ps.length + 1) y.2) = some (Value.slice y.1 (x.ps ++ [(fstJ x.ps.length (b.drop (framesJ 0 ((scanJ 0 b).take x.ps.length)).length), r.1)]).length y.2)
        rw [hps]
      · show some (I _) = some (I ((framesJ 0 ((scanJ 0 b).take (x.ps ++ [(fstJ x.ps.length (b.drop (framesJ 0 ((scanJ 0 b).take x.ps.length)).length), r.1)]).length)).length : Nat))
        rw [hps, hat]
      · have h9 := (hw.drop 0 rfl).allB_snoc (ps := x.ps) (p := (fstJ x.ps.length (b.drop (framesJ 0 ((scanJ 0 b).take x.ps.length)).length), r.1)) (.tail _ (.tail _ (.head _))) (.head _)
        show St w (OwnSl 23 1 y.1 (x.ps ++ [(fstJ x.ps.length (b.drop (framesJ 0 ((scanJ 0 b).take x.ps.length)).length), r.1)]).length y.2 (listV (x.ps ++ [(fstJ x.ps.length (b.drop (framesJ 0 ((scanJ 0 b).take x.ps.length)).length), r.1)])) :: M) (AllB (x.ps ++ [(fstJ x.ps.length (b.drop (framesJ 0 ((scanJ 0 b).take x.ps.length)).length), r.1)]) :: F)
        rw [hps, listV_append]
        exact h9.facts (fun φ h => by
          rcases List.mem_cons.1 h with e1 | h
          · subst e1; exact .head _
          · exact .tail _ (.tail _ (.tail _ (.tail _ h))))
  · skip
    have hend : b.drop (framesJ 0 ((scanJ 0 b).take x.ps.length)).length = [] := List.drop_of_length_le (by have := of_decide_eq_false h1; omega)
    have hk2 : x.ps.length = (scanJ 0 b).length := by have h9 := hx.2.2.1; rw [hend, scanJ_nil] at h9; have := congrArg List.length h9; rw [List.length_drop, List.length_nil] at this; have := hx.2.1; omega
    refine TR.exit ?_
    refine NX.exitThen ?_
    refine NX.exitThen ?_
    refine NX.exitHere ?_
    refine NX.seq ?_
    refine TR.seq ?_
    refine TR.region ?_
    refine RL.move rfl rfl rfl ?_
    refine RL.move rfl rfl rfl ?_
    refine RL.assign rfl rfl rfl ?_
    refine RL.assign rfl rfl rfl ?_
    refine RL.nil ?_
    refine NX.seq ?_
    refine TR.ret ?_
    refine NX.ret2x rfl rfl rfl (fun w hw => ⟨⟨⟨x.ps, x.oa, x.c⟩, ?_, hx.2.2.2.1⟩, ?_, ?_⟩)
    · show x.ps.map Prod.fst = scanJ 0 b
      rw [hx.1, hk2, List.take_length]
    · show Value.tuple #[.slice x.oa x.ps.length x.c, I ((framesJ 0 ((scanJ 0 b).take x.ps.length)).length : Nat)] = Value.tuple #[.slice x.oa x.ps.length x.c, I ((framesJ 0 (scanJ 0 b)).length : Nat)]
      rw [hk2, List.take_length]
    · exact hw

end Go.Proofs.Ytdlpaojkkekdlaa

namespace Go.Proofs.Ytdlpaojkkekdlaa
open Go.GL
set_option linter.unusedVariables false
theorem wj_bs23_1_0 (x0 : Int) : BuildSV Try.prog 23 5 1 [(0, .int .u8 x0)] [.int .u8 x0] := fun w => by kernel_rfl
theorem wj_bs27_1_0 (x0 : Option Addr) (x0n x0c : Nat) : BuildSV Try.prog 27 23 1 [(0, .slice x0 x0n x0c)] [.slice x0 x0n x0c] := fun w => by kernel_rfl
theorem wj_ni23 : noInt Try.prog 23 = true := by kernel_rfl
theorem wj_ni27 : noInt Try.prog 27 = true := by kernel_rfl
theorem wj_te23 : tyElem Try.prog 23 1 24 = true := by kernel_rfl
theorem wj_te5 : tyElem Try.prog 5 1 1 = true := by kernel_rfl
theorem wj_ti3 : tyInt Try.prog 3 .i64 = true := by kernel_rfl
theorem wj_ti5 : tyInt Try.prog 5 .u8 = true := by kernel_rfl
theorem wj_tl22 : tySlice Try.prog 22 3 = true := by kernel_rfl
theorem wj_tl23 : tySlice Try.prog 23 5 = true := by kernel_rfl
theorem wj_tl27 : tySlice Try.prog 27 23 = true := by kernel_rfl
theorem wj_ts23 : tyScalar Try.prog 23 = true := by kernel_rfl
theorem wj_ts3 : tyScalar Try.prog 3 = true := by kernel_rfl
theorem wj_tz23 : tySize Try.prog 23 1 = true := by kernel_rfl
theorem wj_tz3 : tySize Try.prog 3 1 = true := by kernel_rfl
theorem sameL_spec {ps qs : List Rc} {oa ob : Option Addr} {ca cb : Nat} {M : List HP} {F : List Fact} (ha : ArrF oa (listV ps) ∈ F) (hb : ArrF ob (listV qs) ∈ F) (hA : AllB ps ∈ F) (hB : AllB qs ∈ F) (hpl : ∀ p, p ∈ ps → p.1.length ≤ 4611686018427387904) (hn : ps.length ≤ 4611686018427387904) : Ctr Try.prog 18 [.slice oa ps.length ca, .slice ob qs.length cb] M F Unit (fun _ => .bool (decide (ps.map Prod.fst = qs.map Prod.fst))) (fun _ => M) (fun _ => F) := by
  refine Ctr.body Try.func18 rfl rfl ?_
  refine TR.seq ?_
  refine TR.region ?_
  refine RL.assign rfl rfl rfl ?_
  refine RL.nil ?_
  refine NX.seq ?_
  refine TR.seq ?_
  refine TR.seq ?_
  refine TR.region ?_
  refine RL.move rfl rfl rfl ?_
  refine RL.lenSlice rfl wj_tl27 rfl rfl ?_
  refine RL.move rfl rfl rfl ?_
  refine RL.lenSlice rfl wj_tl27 rfl rfl ?_
  refine RL.bin rfl rfl rfl BinV.neq rfl ?_
  refine RL.nil ?_
  refine NX.seq ?_
  refine TR.cond rfl (fun h1 => ?_) (fun h1 => ?_)
  · skip
    have hlen : ¬ ps.length = qs.length := by have := of_decide_eq_true h1; omega
    refine TR.seq ?_
    refine TR.region ?_
    refine RL.assign rfl rfl rfl ?_
    refine RL.nil ?_
    refine NX.seq ?_
    refine TR.ret ?_
    refine NX.retThen ?_
    refine NX.ret1 () rfl rfl (congrArg Value.bool (Eq.symm (decide_eq_false (fun e => hlen (by have := congrArg List.length e; rwa [List.length_map, List.length_map] at this))))) (fun w hw => hw)
  · skip
    have hlen : ps.length = qs.length := by have := of_decide_eq_false h1; omega
    refine TR.skip ?_
    refine NX.seq ?_
    refine TR.seq ?_
    refine TR.seq ?_
    refine TR.region ?_
    refine RL.assign rfl rfl rfl ?_
    refine RL.nil ?_
    refine NX.seq ?_
    refine TR.block ?_
    refine TR.loopP (ι := Nat) (fun k => k ≤ ps.length ∧ (ps.map Prod.fst).take k = (qs.map Prod.fst).take k) (fun k => [(0, .slice oa ps.length ca), (1, .slice ob qs.length cb), (5, I k)]) (fun _ => M) (fun _ => F) (fun k => ps.length - k) 0 ⟨Nat.zero_le _, rfl⟩ ⟨rfl, rfl, rfl, trivial⟩ (fun w hw => hw) (fun k hk => ?_)
    refine TR.seq ?_
    refine TR.seq ?_
    refine TR.region ?_
    refine RL.move rfl rfl rfl ?_
    refine RL.move rfl rfl rfl ?_
    refine RL.lenSlice rfl wj_tl27 rfl rfl ?_
    refine RL.bin rfl rfl rfl BinV.lss rfl ?_
    refine RL.nil ?_
    refine NX.seq ?_
    refine TR.cond rfl (fun h2 => ?_) (fun h2 => ?_)
    · skip
      have hk1 : k < ps.length := by simpa using h2
      have hk2 : k < qs.length := by omega
      refine TR.openP (open_arr ha (listV_ne hk1)) (fun x hx => ?_)
      refine TR.openP (open_arr (.tail _ hb) (listV_ne hk2)) (fun y hy => ?_)
      subst hx hy
      refine TR.weak (fun w hw => (hw.allB_get (.tail _ (.tail _ hA)) (List.getElem_mem hk1)).allB_get (.tail _ (.tail _ (.tail _ hB))) (List.getElem_mem hk2)) ?_
      refine TR.skip ?_
      refine NX.seq ?_
      refine TR.seq ?_
      refine TR.block ?_
      refine TR.seq ?_
      refine TR.sub (E' := [(0, _), (1, _), (5, _), (11, _), (12, _), (13, _), (14, _)]) ⟨rfl, rfl, rfl, rfl, rfl, rfl, rfl, trivial⟩ ?_
      refine TR.draw mixed ?_
      apply AR.more [(0, _), (1, _), (2, _), (3, _), (4, _), (5, _), (6, _), (7, _)]
      refine AR.eff [0, 1, 2, 3, 4, 5, 6, 7] 8 [0, 1, 2, 3, 4, 5, 6, 7, 8, 9] ⟨QOne.yes rfl rfl rfl (PV.move rfl), QOne.yes rfl rfl rfl (PV.move rfl), QOne.yes rfl rfl rfl (PV.indexAddr wj_tl27 wj_tz23 rfl rfl (by omega) (by omega)), QOne.yes rfl rfl rfl (PV.loadF rfl (fun w K hF => run_loadCell1 (j := (k : Int).toNat * 1) (v := .slice ps[k].2.oa ps[k].1.length ps[k].2.c) (hF _ (.tail _ (.tail _ (.tail _ (.head _))))) wj_ts23 (listV_get hk1))), QOne.yes rfl rfl rfl (PV.move rfl), QOne.yes rfl rfl rfl (PV.move rfl), QOne.yes rfl rfl rfl (PV.indexAddr wj_tl27 wj_tz23 rfl rfl (by omega) (by omega)), QOne.yes rfl rfl rfl (PV.loadF rfl (fun w K hF => run_loadCell1 (j := (k : Int).toNat * 1) (v := .slice qs[k].2.oa qs[k].1.length qs[k].2.c) (hF _ (.tail _ (.tail _ (.head _)))) wj_ts23 (listV_get hk2))), trivial⟩ rfl rfl rfl rfl rfl rfl rfl (EV.call rfl Try.call12 (sameB_spec (xs := ps[k].1) (ys := qs[k].1) (.tail _ (.head _)) (.head _) (hpl _ (List.getElem_mem hk1)))) (fun _ => ?_)
      refine AR.done [3, 7, 6, 2, 0, 1, 4, 5] rfl ?_
      apply AR.more [(9, _)]
      refine AR.last [9] [0, 1, 2, 3, 4, 5, 6, 7, 8, 9] ⟨QOne.yes rfl rfl rfl (PV.not rfl), trivial⟩ rfl rfl rfl ?_
      refine NX.sub (E' := [(0, _), (1, _), (5, _), (11, _), (12, _), (13, _), (14, _), (17, _), (18, _), (19, _), (20, _), (21, _), (22, _), (23, _), (24, _), (25, _), (26, _)]) ⟨rfl, rfl, rfl, rfl, rfl, rfl, rfl, rfl, rfl, rfl, rfl, rfl, rfl, rfl, rfl, rfl, rfl, trivial⟩ ?_
      refine NX.seq ?_
      refine TR.cond rfl (fun h3 => ?_) (fun h3 => ?_)
      · skip
        refine TR.seq ?_
        refine TR.region ?_
        refine RL.assign rfl rfl rfl ?_
        refine RL.nil ?_
        refine NX.seq ?_
        refine TR.ret ?_
        refine NX.retBlock ?_
        refine NX.retThen ?_
        refine NX.retThen ?_
        refine NX.retBlock ?_
        refine NX.retThen ?_
        have hne : ¬ ps[k].1 = qs[k].1 := by simpa using h3
        refine NX.ret1 () rfl rfl (congrArg Value.bool (Eq.symm (decide_eq_false (tk_ne (k := k) (by rw [List.length_map]; exact hk1) (by rw [List.length_map]; exact hk2) (by rw [List.getElem_map, List.getElem_map]; exact hne))))) (fun w hw => ?_)
        exact hw.facts (fun φ h => .tail _ (.tail _ (.tail _ (.tail _ (h)))))
      · skip
        refine TR.skip ?_
        refine NX.off ?_
        refine NX.seq ?_
        refine TR.region ?_
        refine RL.move rfl rfl rfl ?_
        refine RL.bin rfl rfl rfl (BinV.add _ rfl (by omega) (by omega)) rfl ?_
        refine RL.assign rfl rfl rfl ?_
        refine RL.nil ?_
        have heq : ps[k].1 = qs[k].1 := by simpa using h3
        refine NX.roundP (k + 1) ⟨by omega, tk_step hk.2 (by rw [List.length_map]; exact hk1) (by rw [List.length_map]; exact hk2) (by rw [List.getElem_map, List.getElem_map]; exact heq)⟩ (by omega) ⟨rfl, rfl, rfl, trivial⟩ (fun w hw => ?_)
        exact hw.facts (fun φ h => .tail _ (.tail _ (.tail _ (.tail _ (h)))))
    · skip
      refine TR.exit ?_
      refine NX.exitThen ?_
      refine NX.exitThen ?_
      refine NX.exitHere ?_
      refine NX.seq ?_
      refine TR.seq ?_
      refine TR.region ?_
      refine RL.assign rfl rfl rfl ?_
      refine RL.nil ?_
      refine NX.seq ?_
      refine TR.ret ?_
      refine NX.ret1 () rfl rfl (congrArg Value.bool (Eq.symm (decide_eq_true (tk_all hk.2 (by rw [List.length_map]; simpa using h2) (by rw [List.length_map, List.length_map]; exact hlen))))) (fun w hw => hw)

structure ReX where
  ps : List Rc
  oa : Option Addr
  c : Nat
structure RbX where
  l : List UInt8
  oa : Option Addr
  c : Nat

theorem records_spec2 {xs : List Int} {oa : Option Addr} {c : Nat} {M : List HP} {F : List Fact} (ha : ArrF oa (ints xs) ∈ F) (hxs : IntsOk xs) : Ctr Try.prog 15 [.slice oa xs.length c] M F {z : LsX // z.ps.length ≤ 6 ∧ ∀ p, p ∈ z.ps → p.1.length ≤ 11 ∧ p.1.length ≤ p.2.c} (fun z => .slice z.1.oa z.1.ps.length z.1.c) (fun z => OwnSl 23 1 z.1.oa z.1.ps.length z.1.c (listV z.1.ps) :: M) (fun z => AllB z.1.ps :: F) := by
  refine Ctr.body Try.func15 rfl rfl ?_
  refine TR.seq ?_
  refine TR.region ?_
  refine RL.assign rfl rfl rfl ?_
  refine RL.nil ?_
  refine NX.seq ?_
  refine TR.seq ?_
  refine TR.region ?_
  refine RL.assign rfl rfl rfl ?_
  refine RL.weak (fun w hw => OwnSl.nil_new 23 1 hw) ?_
  refine RL.nil ?_
  refine NX.seq ?_
  refine TR.seq ?_
  refine TR.seq ?_
  refine TR.region ?_
  refine RL.assign rfl rfl rfl ?_
  refine RL.nil ?_
  refine NX.seq ?_
  refine TR.block ?_
  refine TR.loopP (ι := ReX) (fun x => x.ps.length ≤ 6 ∧ ∀ p, p ∈ x.ps → p.1.length ≤ 11 ∧ p.1.length ≤ p.2.c) (fun x => [(0, .slice oa xs.length c), (3, .slice x.oa x.ps.length x.c), (4, I x.ps.length)]) (fun x => OwnSl 23 1 x.oa x.ps.length x.c (listV x.ps) :: M) (fun x => AllB x.ps :: F) (fun x => 6 - x.ps.length) ⟨[], none, 0⟩ ⟨Nat.zero_le _, fun p hp => absurd hp (by simp)⟩ ⟨rfl, rfl, rfl, trivial⟩ (fun w hw => hw.allB_nil) (fun x hx => ?_)
  refine TR.seq ?_
  refine TR.seq ?_
  refine TR.region ?_
  refine RL.move rfl rfl rfl ?_
  refine RL.move rfl rfl rfl ?_
  refine RL.lenSlice rfl wj_tl22 rfl rfl ?_
  refine RL.bin rfl rfl rfl BinV.lss rfl ?_
  refine RL.move rfl rfl rfl ?_
  refine RL.part (fun h1 => ?_) (fun h1 => ?_)
  · skip
    have hk0 := of_decide_eq_true h1
    refine RL.move rfl rfl rfl ?_
    refine RL.bin rfl rfl rfl BinV.lss rfl ?_
    refine RL.pickT rfl rfl rfl rfl ?_
    refine RL.nil ?_
    refine NX.seq ?_
    refine TR.cond rfl (fun h2 => ?_) (fun h2 => ?_)
    · skip
      have hk6 := of_decide_eq_true h2
      have hk1 : x.ps.length < xs.length := by omega
      have hr := hxs.2 _ (List.getElem_mem hk1)
      refine TR.openP (open_arr (oa := oa) (xs := ints xs) (.tail _ ha) (ints_ne (by omega))) (fun pq hpa => ?_)
      refine TR.skip ?_
      refine NX.seq ?_
      refine TR.seq ?_
      refine TR.block ?_
      refine TR.seq ?_
      refine TR.region ?_
      refine RL.move rfl rfl rfl ?_
      refine RL.move rfl rfl rfl ?_
      refine RL.indexAddr rfl wj_tl22 wj_tz3 (congrArg (fun a => some (Value.slice a _ _)) hpa) rfl (by omega) (by omega) rfl ?_
      refine RL.loadF rfl rfl (fun w K hF => run_loadCell1 (j := (x.ps.length : Int).toNat * 1) (v := I xs[x.ps.length]) (hF _ (.head _)) wj_ts3 (by simp [hk1])) rfl ?_
      refine RL.call rfl rfl Try.call20 rfl (around_spec (by omega) hr.1 hr.2) (fun n => ?_)
      refine RL.assign rfl rfl rfl ?_
      refine RL.nil ?_
      refine NX.seq ?_
      refine TR.seq ?_
      refine TR.region ?_
      have hn := n.2
      refine RL.assign rfl rfl rfl ?_
      refine RL.weak (fun w hw => OwnSl.nil_new 5 1 hw) ?_
      refine RL.nil ?_
      refine NX.seq ?_
      refine TR.seq ?_
      refine TR.seq ?_
      refine TR.region ?_
      refine RL.assign rfl rfl rfl ?_
      refine RL.nil ?_
      refine NX.seq ?_
      refine TR.block ?_
      refine TR.loopP (ι := RbX) (fun z => z.l.length ≤ 11 ∧ True) (fun z => [(0, .slice oa xs.length c), (3, .slice x.oa x.ps.length x.c), (4, I x.ps.length), (5, I n.1), (6, .slice z.oa z.l.length z.c), (7, I z.l.length)]) (fun z => OwnSl 5 1 z.oa z.l.length z.c (bytesV z.l) :: OwnSl 23 1 x.oa x.ps.length x.c (listV x.ps) :: M) (fun _ => CellsF pq.1 pq.2 (ints xs) :: AllB x.ps :: F) (fun z => 11 - z.l.length) ⟨[], none, 0⟩ ⟨Nat.zero_le _, trivial⟩ ⟨rfl, rfl, rfl, rfl, rfl, rfl, trivial⟩ (fun w hw => hw) (fun z hz => ?_)
      refine TR.seq ?_
      refine TR.seq ?_
      refine TR.region ?_
      refine RL.move rfl rfl rfl ?_
      refine RL.move rfl rfl rfl ?_
      refine RL.bin rfl rfl rfl (BinV.rem (by omega)) rfl ?_
      refine RL.bin rfl rfl rfl BinV.lss rfl ?_
      refine RL.nil ?_
      refine NX.seq ?_
      refine TR.cond rfl (fun h3 => ?_) (fun h3 => ?_)
      · skip
        have hj := of_decide_eq_true h3
        have hj2 : (n.1.tmod 11) < 11 := Int.tmod_lt_of_pos _ (by omega)
        have hj3 : (z.l.length : Int) ≤ 10 := by omega
        have hm1 : 0 ≤ (z.l.length : Int) * n.1 := Int.mul_nonneg (by omega) hn.1
        have hm2 : (z.l.length : Int) * n.1 ≤ 10 * 1000 := Int.mul_le_mul hj3 (by omega) hn.1 (by omega)
        refine TR.skip ?_
        refine NX.seq ?_
        refine TR.seq ?_
        refine TR.block ?_
        refine TR.region ?_
        refine RL.move rfl rfl rfl ?_
        refine RL.move rfl rfl rfl ?_
        refine RL.bin rfl rfl rfl (BinV.quo (by omega) (n.1 / 11) (Int.tdiv_eq_ediv_of_nonneg hn.1) (by omega) (by omega)) rfl ?_
        refine RL.move rfl rfl rfl ?_
        refine RL.move rfl rfl rfl ?_
        refine RL.bin rfl rfl rfl (BinV.mul _ rfl (by omega) (by omega)) rfl ?_
        refine RL.bin rfl rfl rfl (BinV.add _ rfl (by omega) (by omega)) rfl ?_
        refine RL.conv rfl rfl (ConvV.int wj_ti3 wj_ti5) rfl ?_
        refine RL.buildSlice rfl rfl (wj_bs23_1_0 _) rfl (fun b4 => ?_)
        refine RL.ofGV rfl rfl (GV.append (j := 1) wj_tl23 wj_ni23 wj_te5 rfl rfl rfl (src_box (i := 0) rfl rfl rfl) (by omega) (by omega)) (fun y => ?_)
        refine RL.assign rfl rfl rfl ?_
        refine RL.nil ?_
        refine NX.off ?_
        refine NX.seq ?_
        refine TR.region ?_
        refine RL.move rfl rfl rfl ?_
        refine RL.bin rfl rfl rfl (BinV.add _ rfl (by omega) (by omega)) rfl ?_
        refine RL.assign rfl rfl rfl ?_
        refine RL.nil ?_
        refine NX.roundP ⟨z.l ++ [UInt8.ofNat ((n.1 / 11 + (z.l.length : Int) * n.1) % 256).toNat], y.1, y.2⟩ ⟨?_, trivial⟩ ?_ ⟨rfl, rfl, rfl, rfl, ?_, ?_, trivial⟩ (fun w hw => ?_)
        · show (z.l ++ [_]).length ≤ 11; rw [List.length_append]; show z.l.length + 1 ≤ 11; omega
        · show 11 - (z.l ++ [_]).length < 11 - z.l.length; rw [List.length_append]; show 11 - (z.l.length + 1) < _; omega
        · show some (Value.slice y.1 (z.l.length + 1) y.2) = some (Value.slice y.1 (z.l ++ [_]).length y.2); rw [List.length_append]; rfl
        · show some (I ((z.l.length : Int) + 1)) = some (I ((z.l ++ [_]).length : Nat)); rw [List.length_append]; rfl
        · have h9 : St w (OwnSl 5 1 y.1 (z.l.length + 1) y.2 (bytesV z.l ++ [.int .u8 (IntKind.u8.wrap (n.1 / 11 + (z.l.length : Int) * n.1))]) :: OwnSl 23 1 x.oa x.ps.length x.c (listV x.ps) :: M) _ := hw.drop 0 rfl
          rw [u8_wrap, ← bytesV_snoc] at h9
          show St w (OwnSl 5 1 y.1 (z.l ++ [_]).length y.2 _ :: _) _
          rw [List.length_append]
          exact h9
      · skip
        refine TR.exit ?_
        refine NX.exitThen ?_
        refine NX.exitThen ?_
        refine NX.exitHere ?_
        refine NX.seq ?_
        refine TR.region ?_
        refine RL.open1 (fun w hw => ⟨hw.ownLen.2, hw⟩) (fun hzc => ?_)
        refine RL.move rfl rfl rfl ?_
        refine RL.move rfl rfl rfl ?_
        refine RL.weak (fun w hw => hw.keepSl) ?_
        refine RL.buildSlice rfl rfl (wj_bs27_1_0 _ _ _) rfl (fun b6 => ?_)
        refine RL.ofGV rfl rfl (GV.append (j := 1) wj_tl27 wj_ni27 wj_te23 rfl rfl rfl (src_box (i := 0) rfl rfl rfl) (by omega) (by omega)) (fun y => ?_)
        refine RL.assign rfl rfl rfl ?_
        refine RL.nil ?_
        refine NX.off ?_
        refine NX.seq ?_
        refine TR.region ?_
        refine RL.move rfl rfl rfl ?_
        refine RL.bin rfl rfl rfl (BinV.add _ rfl (by omega) (by omega)) rfl ?_
        refine RL.assign rfl rfl rfl ?_
        refine RL.nil ?_
        refine NX.roundP ⟨x.ps ++ [(z.l, ⟨z.oa, z.c⟩)], y.1, y.2⟩ ⟨?_, ?_⟩ ?_ ⟨rfl, ?_, ?_, trivial⟩ (fun w hw => ?_)
        · show (x.ps ++ [(z.l, (⟨z.oa, z.c⟩ : RdX))]).length ≤ 6; rw [List.length_append]; show x.ps.length + 1 ≤ 6; omega
        · intro q hq
          rcases List.mem_append.1 hq with h | h
          · exact hx.2 q h
          · rw [List.mem_singleton.1 h]; exact ⟨hz.1, hzc⟩
        · show 6 - (x.ps ++ [(z.l, (⟨z.oa, z.c⟩ : RdX))]).length < 6 - x.ps.length; rw [List.length_append]; show 6 - (x.ps.length + 1) < _; omega
        · show some (Value.slice y.1 (x.ps.length + 1) y.2) = some (Value.slice y.1 (x.ps ++ [(z.l, (⟨z.oa, z.c⟩ : RdX))]).length y.2); rw [List.length_append]; rfl
        · show some (I ((x.ps.length : Int) + 1)) = some (I ((x.ps ++ [(z.l, (⟨z.oa, z.c⟩ : RdX))]).length : Nat)); rw [List.length_append]; rfl
        · have h9 := (hw.drop 0 rfl).allB_snoc (ps := x.ps) (p := (z.l, ⟨z.oa, z.c⟩)) (.tail _ (.tail _ (.head _))) (.head _)
          show St w (OwnSl 23 1 y.1 (x.ps ++ [(z.l, (⟨z.oa, z.c⟩ : RdX))]).length y.2 (listV (x.ps ++ [(z.l, (⟨z.oa, z.c⟩ : RdX))])) :: M) (AllB (x.ps ++ [(z.l, (⟨z.oa, z.c⟩ : RdX))]) :: F)
          rw [List.length_append, listV_append]
          exact h9.facts (fun φ h => by
            rcases List.mem_cons.1 h with e1 | h
            · subst e1; exact .head _
            · exact .tail _ (.tail _ (.tail _ (.tail _ h))))
    · skip
      refine TR.exit ?_
      refine NX.exitThen ?_
      refine NX.exitThen ?_
      refine NX.exitHere ?_
      refine NX.seq ?_
      refine TR.seq ?_
      refine TR.region ?_
      refine RL.move rfl rfl rfl ?_
      refine RL.assign rfl rfl rfl ?_
      refine RL.nil ?_
      refine NX.seq ?_
      refine TR.ret ?_
      exact NX.ret1 (⟨⟨x.ps, x.oa, x.c⟩, hx.1, hx.2⟩ : {z : LsX // z.ps.length ≤ 6 ∧ ∀ p, p ∈ z.ps → p.1.length ≤ 11 ∧ p.1.length ≤ p.2.c}) rfl rfl rfl (fun w hw => hw)
  · skip
    refine RL.skip rfl rfl rfl ?_
    refine RL.skip rfl rfl rfl ?_
    refine RL.pickF rfl rfl rfl rfl ?_
    refine RL.nil ?_
    refine NX.seq ?_
    refine TR.condF rfl ?_
    refine TR.exit ?_
    refine NX.exitThen ?_
    refine NX.exitThen ?_
    refine NX.exitHere ?_
    refine NX.seq ?_
    refine TR.seq ?_
    refine TR.region ?_
    refine RL.move rfl rfl rfl ?_
    refine RL.assign rfl rfl rfl ?_
    refine RL.nil ?_
    refine NX.seq ?_
    refine TR.ret ?_
    exact NX.ret1 (⟨⟨x.ps, x.oa, x.c⟩, hx.1, hx.2⟩ : {z : LsX // z.ps.length ≤ 6 ∧ ∀ p, p ∈ z.ps → p.1.length ≤ 11 ∧ p.1.length ≤ p.2.c}) rfl rfl rfl (fun w hw => hw)

end Go.Proofs.Ytdlpaojkkekdlaa

namespace Go.Proofs.Ytdlpaojkkekdlaa
open Go.GL
set_option linter.unusedVariables false
theorem we_bs27_1_0 (x0 : Option Addr) (x0n x0c : Nat) : BuildSV Try.prog 27 23 1 [(0, .slice x0 x0n x0c)] [.slice x0 x0n x0c] := fun w => by kernel_rfl
theorem we_ni27 : noInt Try.prog 27 = true := by kernel_rfl
theorem we_te23 : tyElem Try.prog 23 1 24 = true := by kernel_rfl
theorem we_tl23 : tySlice Try.prog 23 5 = true := by kernel_rfl
theorem we_tl27 : tySlice Try.prog 27 23 = true := by kernel_rfl
theorem we_ts23 : tyScalar Try.prog 23 = true := by kernel_rfl
theorem we_ts27 : tyScalar Try.prog 27 = true := by kernel_rfl
theorem we_ts3 : tyScalar Try.prog 3 = true := by kernel_rfl
theorem we_tz5 : tySize Try.prog 5 1 = true := by kernel_rfl
theorem records_spec {b : List UInt8} {oa : Option Addr} {c : Nat} {M : List HP} {F : List Fact} : Ctr Try.prog 49 [.slice oa b.length c] M F Nat (fun d => .func (.func 76) #[] #[.pointer (some ⟨d, 0, none⟩)]) (fun _ => M) (fun d => CellsF d 0 [.slice oa b.length c] :: F) := by
  refine Ctr.body Try.func49 rfl rfl ?_
  refine TR.seq ?_
  refine TR.region ?_
  refine RL.box1 rfl rfl rfl rfl (fun b1 => ?_)
  refine RL.assign rfl rfl rfl ?_
  refine RL.nil ?_
  refine NX.seq ?_
  refine TR.seq ?_
  refine TR.region ?_
  refine RL.makeFunc rfl rfl rfl rfl ?_
  refine RL.assign rfl rfl rfl ?_
  refine RL.nil ?_
  refine NX.seq ?_
  refine TR.ret ?_
  exact NX.ret1 b1 rfl rfl rfl (fun w hw => hw.keep)

theorem records_iter {b : List UInt8} {oa : Option Addr} {c d : Nat} {F : List Fact} (ha : ArrF oa (bytesV b) ∈ F) (hb : CellsF d 0 [.slice oa b.length c] ∈ F) (hc : b.length ≤ c) (hl : b.length ≤ 17592186044416) : IterO Try.prog 76 [.pointer (some ⟨d, 0, none⟩)] (recEnc (scanJ 0 b)) (recOwn 5 (scanJ 0 b)) (List.range (scanJ 0 b).length) F := by
  intro l J hY Mi G hG
  refine Ctr.body Try.func76 rfl rfl ?_
  refine TR.seq ?_
  refine TR.region ?_
  refine RL.assign rfl rfl rfl ?_
  refine RL.nil ?_
  refine NX.seq ?_
  refine TR.seq ?_
  refine TR.region ?_
  refine RL.assign rfl rfl rfl ?_
  refine RL.nil ?_
  refine NX.seq ?_
  refine TR.block ?_
  refine TR.loopP (ι := Nat) (fun k => k ≤ (scanJ 0 b).length ∧ (scanJ 0 b).drop k = scanJ k (b.drop (framesJ 0 ((scanJ 0 b).take k)).length) ∧ (framesJ 0 ((scanJ 0 b).take k)).length ≤ b.length) (fun k => [(0, .func (.yield l) #[] #[]), (1, .pointer (some ⟨d, 0, none⟩)), (3, I ((framesJ 0 ((scanJ 0 b).take k)).length : Nat)), (4, I k)]) (fun k => J (List.range k) ++ Mi) (fun _ => G) (fun k => (scanJ 0 b).length - k) 0 ⟨Nat.zero_le _, by simp [framesJ], by simp [framesJ]⟩ ⟨rfl, rfl, rfl, rfl, trivial⟩ (fun w hw => hw) (fun k hk => ?_)
  refine TR.seq ?_
  refine TR.seq ?_
  refine TR.region ?_
  refine RL.move rfl rfl rfl ?_
  refine RL.loadF rfl rfl (fun w K hF => run_loadCell1 (j := 0) (hF _ (hG _ hb)) we_ts23 rfl) rfl ?_
  refine RL.lenSlice rfl we_tl23 rfl rfl ?_
  refine RL.bin rfl rfl rfl BinV.lss rfl ?_
  refine RL.nil ?_
  refine NX.seq ?_
  refine TR.cond rfl (fun h1 => ?_) (fun h1 => ?_)
  · skip
    have hlt : (framesJ 0 ((scanJ 0 b).take k)).length < b.length := by have := of_decide_eq_true h1; omega
    have hrl := recOf_len (b := b.drop (framesJ 0 ((scanJ 0 b).take k)).length)
    rw [List.length_drop] at hrl
    have hxl : (recOf (b.drop (framesJ 0 ((scanJ 0 b).take k)).length)).length ≤ 17592186044416 := by omega
    have hkl : k < 9223372036854775807 := by have := framesJ_len2 (scanJ 0 b) k hk.1; omega
    refine TR.skip ?_
    refine NX.seq ?_
    refine TR.seq ?_
    refine TR.block ?_
    refine TR.seq ?_
    refine TR.region ?_
    refine RL.loadF rfl rfl (fun w K hF => run_loadCell1 (j := 0) (hF _ (hG _ hb)) we_ts23 rfl) rfl ?_
    refine RL.move rfl rfl rfl ?_
    refine RL.sliceFromB (k := (framesJ 0 ((scanJ 0 b).take k)).length) (cap := c) rfl we_tl23 we_tz5 rfl rfl (by omega) hc (hG _ ha) rfl ?_
    refine RL.call rfl rfl Try.call77 rfl (record_spec (b := b.drop (framesJ 0 ((scanJ 0 b).take k)).length) (.head _) (by rw [List.length_drop]; omega) (by rw [List.length_drop]; omega)) (fun z => ?_)
    refine RL.assign rfl rfl rfl ?_
    refine RL.nil ?_
    refine NX.seq ?_
    refine TR.seq ?_
    refine TR.region ?_
    refine RL.move rfl rfl rfl ?_
    refine RL.move rfl rfl rfl ?_
    refine RL.call rfl rfl Try.call13 rfl (frame_spec (i := (k : Int)) (x := recOf (b.drop (framesJ 0 ((scanJ 0 b).take k)).length)) (rd_own (i := 0) rfl) (by omega) (by omega) hxl) (fun f => ?_)
    refine RL.weak (fun w hw => hw.keepSl) ?_
    refine RL.assign rfl rfl rfl ?_
    refine RL.nil ?_
    refine NX.seq ?_
    refine TR.seq ?_
    refine TR.seq ?_
    refine TR.region ?_
    refine RL.loadF rfl rfl (fun w K hF => run_loadCell1 (j := 0) (hF _ (by first | exact (hG _ hb) | exact .tail _ ((hG _ hb)) | exact .tail _ (.tail _ ((hG _ hb))) | exact .tail _ (.tail _ (.tail _ ((hG _ hb)))) | exact .tail _ (.tail _ (.tail _ (.tail _ ((hG _ hb))))))) we_ts23 rfl) rfl ?_
    refine RL.move rfl rfl rfl ?_
    refine RL.sliceFromB (k := (framesJ 0 ((scanJ 0 b).take k)).length) (cap := c) rfl we_tl23 we_tz5 rfl rfl (by omega) hc (by first | exact (hG _ ha) | exact .tail _ ((hG _ ha)) | exact .tail _ (.tail _ ((hG _ ha))) | exact .tail _ (.tail _ (.tail _ ((hG _ ha)))) | exact .tail _ (.tail _ (.tail _ (.tail _ ((hG _ ha)))))) rfl ?_
    refine RL.move rfl rfl rfl ?_
    refine RL.call rfl rfl Try.call78 rfl (hasPrefix_spec (b := b.drop (framesJ 0 ((scanJ 0 b).take k)).length) (f := frameJ (k : Int) (recOf (b.drop (framesJ 0 ((scanJ 0 b).take k)).length))) (.head _) (.tail _ (.head _)) (by rw [List.length_drop]; omega)) (fun _ => ?_)
    refine RL.not rfl rfl rfl ?_
    refine RL.nil ?_
    refine NX.seq ?_
    refine TR.cond rfl (fun h2 => ?_) (fun h2 => ?_)
    · skip
      have hnp : ¬ frameJ (k : Int) (recOf (b.drop (framesJ 0 ((scanJ 0 b).take k)).length)) <+: b.drop (framesJ 0 ((scanJ 0 b).take k)).length := by simpa using h2
      have hk2 : k = (scanJ 0 b).length := by have h9 := hk.2.1; rw [scanJ_no hnp] at h9; have := congrArg List.length h9; rw [List.length_drop, List.length_nil] at this; omega
      refine TR.ret ?_
      refine NX.retThen ?_
      refine NX.retBlock ?_
      refine NX.retThen ?_
      refine NX.retThen ?_
      refine NX.retBlock ?_
      refine NX.ret0 () rfl rfl (fun w hw => ?_)
      have h9 := (hw.drop 0 rfl).facts (F' := G) (fun φ h => .tail _ (.tail _ (.tail _ h)))
      rw [hk2] at h9
      exact h9
    · skip
      have hpf : frameJ (k : Int) (recOf (b.drop (framesJ 0 ((scanJ 0 b).take k)).length)) <+: b.drop (framesJ 0 ((scanJ 0 b).take k)).length := by simpa using h2
      have hne : b.drop (framesJ 0 ((scanJ 0 b).take k)).length ≠ [] := by intro e; have := congrArg List.length e; rw [List.length_drop, List.length_nil] at this; omega
      have hsc := hk.2.1
      rw [scanJ_yes hne hpf] at hsc
      have hk1 : k < (scanJ 0 b).length := by have := congrArg List.length hsc; rw [List.length_drop, List.length_cons] at this; omega
      rw [List.drop_eq_getElem_cons hk1] at hsc
      have hxe : (scanJ 0 b)[k] = recOf (b.drop (framesJ 0 ((scanJ 0 b).take k)).length) := (List.cons.inj hsc).1
      have hrest := (List.cons.inj hsc).2
      have hxk : recOf (b.drop (framesJ 0 ((scanJ 0 b).take k)).length) = (scanJ 0 b).getD k [] := by rw [getD_get hk1, hxe]
      have hfl := hpf.length_le
      rw [List.length_drop] at hfl
      have hat : ((framesJ 0 ((scanJ 0 b).take (k + 1))).length : Int) = (framesJ 0 ((scanJ 0 b).take k)).length + (frameJ (k : Int) ((scanJ 0 b).getD k [])).length := by
        rw [List.take_succ_eq_append_getElem hk1, framesJ_snoc, List.length_append, List.length_take, Nat.min_eq_left (by omega), Nat.zero_add, getD_get hk1]; omega
      refine TR.skip ?_
      refine NX.seq ?_
      refine TR.seq ?_
      refine TR.region ?_
      refine RL.move rfl rfl rfl ?_
      refine RL.move rfl rfl rfl ?_
      refine RL.lenSlice rfl we_tl23 rfl rfl ?_
      refine RL.bin rfl rfl rfl (BinV.add _ rfl (by omega) (by omega)) rfl ?_
      refine RL.assign rfl rfl rfl ?_
      refine RL.nil ?_
      refine NX.seq ?_
      refine TR.seq ?_
      refine TR.region ?_
      refine RL.move rfl rfl rfl ?_
      refine RL.move rfl rfl rfl ?_
      refine RL.move rfl rfl rfl ?_
      rw [hxk]
      refine RL.callYield rfl rfl rfl rfl (hY (List.range k) k ((List.range ((scanJ 0 b).length - (k + 1))).map (k + 1 + ·)) _ (range_split hk1) ⟨⟨z.1, z.2⟩, by rw [hat]⟩ _ _ (fun φ h => .tail _ (.tail _ (.tail _ (hG φ h))))) ?_
      refine RL.not rfl rfl rfl ?_
      refine RL.nil ?_
      refine NX.seq ?_
      refine TR.condF rfl ?_
      refine TR.skip ?_
      refine NX.off ?_
      refine NX.seq ?_
      refine TR.region ?_
      refine RL.move rfl rfl rfl ?_
      refine RL.bin rfl rfl rfl (BinV.add _ rfl (by omega) (by omega)) rfl ?_
      refine RL.assign rfl rfl rfl ?_
      refine RL.nil ?_
      refine NX.roundP (k + 1) ⟨hk1, ?_, ?_⟩ (by omega) ⟨rfl, rfl, congrArg (fun z => some (I z)) hat.symm, rfl, trivial⟩ (fun w hw => ?_)
      · have e2 : b.drop (framesJ 0 ((scanJ 0 b).take (k + 1))).length = (b.drop (framesJ 0 ((scanJ 0 b).take k)).length).drop (frameJ (k : Int) (recOf (b.drop (framesJ 0 ((scanJ 0 b).take k)).length))).length := by
          rw [List.drop_drop, hxk]; congr 1; omega
        rw [e2]; exact hrest
      · rw [hxk] at hfl; omega
      · rw [List.range_succ]
        exact hw.facts (fun φ h => .tail _ (.tail _ (.tail _ h)))
  · skip
    have hend : b.drop (framesJ 0 ((scanJ 0 b).take k)).length = [] := List.drop_of_length_le (by have := of_decide_eq_false h1; omega)
    have hk2 : k = (scanJ 0 b).length := by have h9 := hk.2.1; rw [hend, scanJ_nil] at h9; have := congrArg List.length h9; rw [List.length_drop, List.length_nil] at this; omega
    refine TR.exit ?_
    refine NX.exitThen ?_
    refine NX.exitThen ?_
    refine NX.exitHere ?_
    refine NX.end0 () rfl rfl (fun w hw => ?_)
    rw [hk2] at hw
    exact hw

theorem scan_spec {b : List UInt8} {oa : Option Addr} {c : Nat} {M : List HP} {F : List Fact} (ha : ArrF oa (bytesV b) ∈ F) (hc : b.length ≤ c) (hl : b.length ≤ 4398046511104) : Ctr Try.prog 16 [.slice oa b.length c] M F {z : LsX // z.ps.map Prod.fst = scanJ 0 b ∧ ∀ p, p ∈ z.ps → p.1.length ≤ p.2.c} (fun z => .tuple #[.slice z.1.oa z.1.ps.length z.1.c, I ((framesJ 0 (scanJ 0 b)).length : Nat)]) (fun z => OwnSl 23 1 z.1.oa z.1.ps.length z.1.c (listV z.1.ps) :: M) (fun z => AllB z.1.ps :: F) := by
  refine Ctr.bodyM Try.func16 rfl rfl ?_
  refine TR.seq ?_
  refine TR.region ?_
  refine RL.assign rfl rfl rfl ?_
  refine RL.assign rfl rfl rfl ?_
  refine RL.nil ?_
  refine NX.seq ?_
  refine TR.seq ?_
  refine TR.region ?_
  refine RL.alloc1 rfl (Try.zeroValue27) rfl rfl (fun b1 => ?_)
  refine RL.weak (fun w hw => St.recsNew (e0 := 23) (e := 5) hw) ?_
  refine RL.nil ?_
  refine NX.seq ?_
  refine TR.seq ?_
  refine TR.region ?_
  refine RL.alloc1 rfl (Try.zeroValue3) rfl rfl (fun b2 => ?_)
  refine RL.store1 0 rfl we_ts3 rfl rfl rfl rfl rfl ?_
  refine RL.nil ?_
  refine NX.seq ?_
  refine TR.seq ?_
  refine TR.seq ?_
  refine TR.region ?_
  refine RL.move rfl rfl rfl ?_
  refine RL.call rfl rfl Try.call49 rfl (records_spec) (fun bc => ?_)
  refine RL.nil ?_
  refine NX.seq ?_
  refine TR.block ?_
  refine TR.rangeFuncO (κ := Unit) (xs := (List.range (scanJ 0 b).length)) rfl Try.call76 (by simp) (recEnc_len _) (records_iter (.tail _ ha) (.head _) hc (by omega)) (fun pre => [RecsB 27 23 5 b1 ((scanJ 0 b).take pre.length), Box b2 3 [I ((framesJ 0 ((scanJ 0 b).take pre.length)).length : Nat)]]) M (fun w hw => hw.swap) (fun pre x args b => [(4, .pointer (some ⟨b1, 0, none⟩)), (5, .pointer (some ⟨b2, 0, none⟩)), (6, args.getD 0 undef), (7, args.getD 1 undef)]) (fun pre x args _ => recOwn 5 (scanJ 0 b) x args ++ [RecsB 27 23 5 b1 ((scanJ 0 b).take pre.length), Box b2 3 [I ((framesJ 0 ((scanJ 0 b).take pre.length)).length : Nat)]]) ?as0 ?bd0 ?ki0
  case as0 =>
    intro l pre x suf args hx he Mi G hG
    obtain ⟨r, rfl⟩ := he
    refine TR.seq ?_
    refine TR.region ?_
    refine RL.assign rfl rfl rfl ?_
    refine RL.nil ?_
    refine NX.seq ?_
    refine TR.region ?_
    refine RL.assign rfl rfl rfl ?_
    refine RL.nil ?_
    exact NX.meet () ⟨rfl, rfl, rfl, rfl, trivial⟩ (fun w hw => hw)
  case bd0 =>
    intro l pre x suf args i hx he Mi G hG
    obtain ⟨r, rfl⟩ := he
    refine TR.block ?_
    refine TR.seq ?_
    refine TR.region ?_
    have hk := range_pre hx
    refine RL.open (fun w hw => St.exOpen (hw.swap)) (fun i0 => ?_)
    obtain ⟨⟨ps, ro, rcc⟩, hps⟩ := i0
    have hps : ps.map Prod.fst = (scanJ 0 b).take pre.length := hps
    have hpl := congrArg List.length hps
    rw [List.length_map, List.length_take, hk.1, Nat.min_eq_left (by omega)] at hpl
    have hnl := framesJ_len2 (scanJ 0 b) (scanJ 0 b).length (Nat.le_refl _)
    rw [List.take_length] at hnl
    obtain ⟨rst, hrst⟩ := scanJ_split b.length b 0 (Nat.le_refl _)
    have hrl := congrArg List.length hrst
    rw [List.length_append] at hrl
    refine RL.load1 0 rfl we_ts27 rfl rfl rfl rfl ?_
    refine RL.move rfl rfl rfl ?_
    refine RL.buildSlice rfl rfl (we_bs27_1_0 _ _ _) rfl (fun b3 => ?_)
    refine RL.ofGV rfl rfl (GV.append (j := 2) we_tl27 we_ni27 we_te23 rfl rfl rfl (src_box (i := 0) rfl rfl rfl) (show ps.length + 1 ≤ 9223372036854775807 by omega) (show (ps.length + 1) * 24 ≤ 140737488355328 by omega)) (fun y => ?_)
    refine RL.store1 1 rfl we_ts27 rfl rfl rfl rfl rfl ?_
    refine RL.weak (M' := RecsB 27 23 5 b1 ((scanJ 0 b).take pre.length ++ [(scanJ 0 b).getD x []]) :: Box b2 3 [I ((framesJ 0 ((scanJ 0 b).take pre.length)).length : Nat)] :: Mi) (F' := G) (fun w hw => by
      have h9 : St w (Box b1 27 [.slice y.1 (ps.length + 1) y.2] :: OwnSl 23 1 y.1 (ps.length + 1) y.2 (listV ps ++ [.slice r.oa ((scanJ 0 b).getD x []).length r.c]) :: (ps.map (ownR 5) ++ (OwnSl 5 1 r.oa ((scanJ 0 b).getD x []).length r.c (bytesV ((scanJ 0 b).getD x [])) :: Box b2 3 [I ((framesJ 0 ((scanJ 0 b).take pre.length)).length : Nat)] :: Mi))) G := hw.drop 0 rfl
      exact St.recsSnoc (r := r) hps h9) ?_
    refine RL.nil ?_
    refine NX.seq ?_
    refine TR.region ?_
    refine RL.move rfl rfl rfl ?_
    refine RL.store1 1 rfl we_ts3 rfl rfl rfl rfl rfl ?_
    refine RL.nil ?_
    refine NX.off ?_
    exact fun aa w _ hw => by
      have e9 : (scanJ 0 b).take (pre ++ [x]).length = (scanJ 0 b).take pre.length ++ [(scanJ 0 b).getD x []] := by
        rw [List.length_append, hk.1, getD_get hk.2]; exact List.take_succ_eq_append_getElem hk.2
      show St w (RecsB 27 23 5 b1 ((scanJ 0 b).take (pre ++ [x]).length) :: Box b2 3 [I ((framesJ 0 ((scanJ 0 b).take (pre ++ [x]).length)).length : Nat)] :: Mi) G
      have e8 : (scanJ 0 b).take (pre ++ [x]).length = (scanJ 0 b).take (x + 1) := by rw [List.length_append, hk.1]; rfl
      rw [show framesJ 0 ((scanJ 0 b).take (pre ++ [x]).length) = framesJ 0 ((scanJ 0 b).take (x + 1)) from by rw [e8], e9]
      exact hw
  case ki0 =>
    intro D
    refine NX.off ?_
    refine NX.seq ?_
    refine TR.seq ?_
    refine TR.openP (fun w hw => St.recsOpen hw.swap) (fun z hz => ?_)
    refine TR.sub (E' := [(4, _), (5, _)]) ⟨rfl, rfl, trivial⟩ ?_
    refine TR.draw mixed ?_
    apply AR.more [(0, _), (1, _), (2, _), (3, _)]
    refine AR.last [0, 1, 2, 3] [0, 1, 2, 3] ⟨QOne.yes rfl rfl rfl (PV.load1 0 we_ts27 rfl rfl rfl), QOne.yes rfl rfl rfl (PV.load1 3 we_ts3 rfl rfl rfl), QOne.yes rfl rfl rfl (PV.assign rfl), QOne.yes rfl rfl rfl (PV.assign rfl), trivial⟩ rfl rfl rfl ?_
    refine NX.sub (E' := [(2, _), (3, _)]) ⟨rfl, rfl, trivial⟩ ?_
    refine NX.seq ?_
    refine TR.ret ?_
    refine NX.retM2 2 (⟨z, hz.1.trans (by rw [List.length_range, List.take_length]), hz.2⟩ : {z : LsX // z.ps.map Prod.fst = scanJ 0 b ∧ ∀ p, p ∈ z.ps → p.1.length ≤ p.2.c}) rfl rfl rfl rfl ?_ (fun w hw => ?_)
    · show Value.tuple #[Value.slice z.oa z.ps.length z.c, I ((framesJ 0 ((scanJ 0 b).take (List.range (scanJ 0 b).length).length)).length : Nat)] = Value.tuple #[Value.slice z.oa z.ps.length z.c, I ((framesJ 0 (scanJ 0 b)).length : Nat)]
      rw [List.length_range, List.take_length]
    · exact ((hw.drop 0 rfl).drop 1 rfl).facts (fun φ h => by
        rcases List.mem_cons.1 h with e | h
        · subst e; exact .head _
        · exact .tail _ (.tail _ h))

end Go.Proofs.Ytdlpaojkkekdlaa

namespace Go.GL
set_option linter.unusedVariables false
theorem core07 : coreJ 0 [7] = [0, 1, 7] := by
  unfold coreJ encR
  rw [show zz 0 = 0 from rfl, encU_small (by decide), show ([7] : List UInt8).length = 1 from rfl, encU_small (by decide)]
  rfl
theorem live_frame : [] ++ encR [0, 1, 7] ++ encU (hashN jl [0, 1, 7]) = frameJ 0 [7] := by
  unfold frameJ
  rw [core07, List.nil_append]
theorem encR3 : encR [0, 1, 7] = [3, 0, 1, 7] := by
  unfold encR
  rw [show ([0, 1, 7] : List UInt8).length = 3 from rfl, encU_small (by decide)]
  rfl
theorem live_len : 4 < (frameJ 0 [7]).length := by
  rw [← live_frame, encR3]
  have := encU_pos (hashN jl [0, 1, 7])
  rw [List.nil_append, List.length_append]
  show 4 < 4 + _
  omega
theorem rec301 : recOf [3, 0, 1] = [] := by decide +kernel
theorem live_no : ¬ frameJ (1 : Nat) (recOf [3, 0, 1]) <+: [3, 0, 1] := by
  rw [rec301]
  intro h
  have e : coreJ ((1 : Nat) : Int) [] = [2, 0] := by
    unfold coreJ encR
    rw [show zz ((1 : Nat) : Int) = 2 from rfl, encU_small (by decide), show ([] : List UInt8).length = 0 from rfl, encU_small (by decide)]
    rfl
  unfold frameJ at h
  rw [e] at h
  have e2 : encR [2, 0] = [2, 2, 0] := by
    unfold encR
    rw [show ([2, 0] : List UInt8).length = 2 from rfl, encU_small (by decide)]
    rfl
  rw [e2, List.cons_append] at h
  have := (List.cons_prefix_cons.1 h).1
  exact absurd this (by decide)
theorem live_scan : scanJ 0 (frameJ 0 [7] ++ [3, 0, 1]) = [[7]] := by
  have h := scanJ_frames [[7]] 0 [3, 0, 1] ⟨by decide, fun x hx => by rw [List.mem_singleton.1 hx]; decide⟩
  rw [show framesJ 0 [[7]] = frameJ 0 [7] from by rw [framesJ, framesJ, List.append_nil]; rfl] at h
  rw [h, show (0 + ([[7]] : List (List UInt8)).length : Nat) = 1 from rfl, scanJ_no live_no]
  rfl
theorem live_end : (framesJ 0 (scanJ 0 (frameJ 0 [7] ++ [3, 0, 1]))).length = (frameJ 0 [7]).length := by
  rw [live_scan, framesJ, framesJ, List.append_nil]; rfl
theorem St.boxBytes {w : World} {M : List HP} {F : List Fact} {b t : Nat} {cs : List Value} (l : List UInt8) (e : cs = bytesV l) (h : St w (Box b t cs :: M) F) : St w M (ArrF (some ⟨b, 0, none⟩) (bytesV l) :: F) := by subst e; exact h.boxArr
theorem Ctr.boolT {P : Program} {f : FuncId} {args : List Value} {M : List HP} {F : List Fact} {ι : Type} {b : Bool} {M' : ι → List HP} {F' : ι → List Fact} (e : b = true) (h : Ctr P f args M F ι (fun _ => .bool b) M' F') : Ctr P f args M F ι (fun _ => .bool true) M' F' := by subst e; exact h
theorem St.allB_one {w : World} {M : List HP} {F : List Fact} {p : Rc} (hp : ArrF p.2.oa (bytesV p.1) ∈ F) (h : St w M F) : St w M (AllB [p] :: F) := h.derive fun K hf q hq => by rw [List.mem_singleton.1 hq]; exact hf _ hp
theorem map_fst_len {ps : List Rc} {l : List (List UInt8)} (h : ps.map Prod.fst = l) : ps.length = l.length := by rw [← h, List.length_map]
theorem map_fst_le {ps : List Rc} {l : List (List UInt8)} {n : Nat} (h : ps.map Prod.fst = l) (hl : ∀ x, x ∈ l → x.length ≤ n) : ∀ p, p ∈ ps → p.1.length ≤ n := fun p hp => hl _ (by rw [← h]; exact List.mem_map_of_mem hp)
end Go.GL

namespace Go.Proofs.Ytdlpaojkkekdlaa
open Go.GL
set_option linter.unusedVariables false
theorem wk_bs23_1_0 (x0 : Int) : BuildSV Try.prog 23 5 1 [(0, .int .u8 x0)] [.int .u8 x0] := fun w => by kernel_rfl
theorem wk_bs23_3_0_1_2 (x0 : Int) (x1 : Int) (x2 : Int) : BuildSV Try.prog 23 5 3 [(0, .int .u8 x0), (1, .int .u8 x1), (2, .int .u8 x2)] [.int .u8 x0, .int .u8 x1, .int .u8 x2] := fun w => by kernel_rfl
theorem wk_bs27_1_0 (x0 : Option Addr) (x0n x0c : Nat) : BuildSV Try.prog 27 23 1 [(0, .slice x0 x0n x0c)] [.slice x0 x0n x0c] := fun w => by kernel_rfl
theorem wk_ni23 : noInt Try.prog 23 = true := by kernel_rfl
theorem wk_te5 : tyElem Try.prog 5 1 1 = true := by kernel_rfl
theorem wk_tl23 : tySlice Try.prog 23 5 = true := by kernel_rfl
theorem lives_spec {M : List HP} {F : List Fact} : Ctr Try.prog 19 [] M F Unit (fun _ => .bool true) (fun _ => M) (fun _ => F) := by
  refine Ctr.body Try.func19 rfl rfl ?_
  refine TR.seq ?_
  refine TR.region ?_
  refine RL.assign rfl rfl rfl ?_
  refine RL.nil ?_
  refine NX.seq ?_
  refine TR.seq ?_
  refine TR.region ?_
  have hfl : (frameJ 0 [7]).length ≤ 1 + 40 := (frameJ_len (i := 0) (x := [7]) (by decide) (by decide) (by decide)).1
  refine RL.buildSlice rfl rfl (wk_bs23_1_0 _) rfl (fun b1 => ?_)
  refine RL.weak (fun w hw => hw.boxBytes [7] rfl) ?_
  refine RL.call rfl rfl Try.call13 rfl (frame_spec (i := 0) (x := [7]) (rd_fact (.head _)) (by decide) (by decide) (by decide)) (fun f => ?_)
  refine RL.assign rfl rfl rfl ?_
  refine RL.nil ?_
  refine NX.seq ?_
  refine TR.seq ?_
  refine TR.region ?_
  refine RL.allocA rfl (Try.zeroValue50) rfl (fun b2 => ?_)
  refine RL.weak (fun w hw => St.wrNew (e := 5) hw) ?_
  refine RL.nil ?_
  refine NX.seq ?_
  refine TR.seq ?_
  refine TR.region ?_
  refine RL.buildSlice rfl rfl (wk_bs23_3_0_1_2 _ _ _) rfl (fun b3 => ?_)
  refine RL.weak (fun w hw => hw.boxBytes [0, 1, 7] rfl) ?_
  refine RL.call rfl rfl Try.call36 rfl (wRaw_spec (x := [0, 1, 7]) (l := []) (rd_fact (.head _)) (by decide) (by decide)) (fun _ => ?_)
  refine RL.nil ?_
  refine NX.seq ?_
  refine TR.seq ?_
  refine TR.region ?_
  refine RL.buildSlice rfl rfl (wk_bs23_3_0_1_2 _ _ _) rfl (fun b4 => ?_)
  refine RL.weak (fun w hw => hw.boxBytes [0, 1, 7] rfl) ?_
  refine RL.call rfl rfl Try.call40 rfl (hBytes_spec (lb := jl) (b := [0, 1, 7]) (.head _) (by decide) (by decide)) (fun _ => ?_)
  refine RL.call rfl rfl Try.call37 rfl (wUint_spec (l := [] ++ encR [0, 1, 7]) hashN_lt (by rw [encR3]; decide)) (fun _ => ?_)
  refine RL.nil ?_
  refine NX.seq ?_
  refine TR.seq ?_
  refine TR.region ?_
  refine RL.move rfl rfl rfl ?_
  refine RL.lenSlice rfl wk_tl23 rfl rfl ?_
  refine RL.assign rfl rfl rfl ?_
  refine RL.nil ?_
  refine NX.seq ?_
  refine TR.seq ?_
  refine TR.region ?_
  refine RL.move rfl rfl rfl ?_
  refine RL.buildSlice rfl rfl (wk_bs23_3_0_1_2 _ _ _) rfl (fun b5 => ?_)
  refine RL.ofGV rfl rfl (GV.appendK (j := 2) wk_tl23 wk_ni23 wk_te5 rfl rfl rfl (src_box (i := 0) rfl rfl rfl) (by omega) (by omega)) (fun y => ?_)
  refine RL.sub (E' := [(1, .slice f.1 (frameJ 0 [7]).length f.2), (2, .pointer (some ⟨b2, 0, none⟩)), (3, I ((frameJ 0 [7]).length : Nat)), (18, .slice y.1.1 (frameJ 0 [7] ++ [3, 0, 1]).length y.1.2)]) ⟨rfl, rfl, rfl, by rw [List.length_append]; rfl, trivial⟩ ?_
  refine RL.weak (fun w hw => by
    have h9 := hw.drop 0 rfl
    have e9 : bytesV (frameJ 0 [7] ++ [3, 0, 1]) = bytesV (frameJ 0 [7]) ++ [.int .u8 3, .int .u8 0, .int .u8 1] := bytesV_append _ _
    rw [← e9] at h9
    exact h9) ?_
  refine RL.call rfl rfl Try.call16 rfl (scan_spec (b := (frameJ 0 [7] ++ [3, 0, 1])) (.head _) (by rw [List.length_append]; exact y.2) (by rw [List.length_append]; have := hfl; show _ + 3 ≤ _; omega)) (fun r => ?_)
  refine RL.weak (fun w hw => hw.keepSl) ?_
  refine RL.move rfl rfl rfl ?_
  refine RL.extract rfl rfl rfl rfl ?_
  refine RL.extract rfl rfl rfl rfl ?_
  refine RL.assign rfl rfl rfl ?_
  refine RL.assign rfl rfl rfl ?_
  refine RL.nil ?_
  refine NX.seq ?_
  refine TR.seq ?_
  refine TR.region ?_
  refine RL.move rfl rfl rfl ?_
  refine RL.call rfl rfl Try.call30 rfl (wDone_spec (l := [] ++ encR [0, 1, 7] ++ encU (hashN jl [0, 1, 7])) (by rw [live_frame]; omega)) (fun d => ?_)
  refine RL.weak (fun w hw => hw.keepSl.drop 0 rfl) ?_
  refine RL.call rfl rfl Try.call12 rfl (Ctr.boolT (decide_eq_true live_frame.symm) (sameB_spec (xs := frameJ 0 [7]) (ys := [] ++ encR [0, 1, 7] ++ encU (hashN jl [0, 1, 7])) (by first | exact .head _ | exact .tail _ (.head _) | exact .tail _ (.tail _ (.head _)) | exact .tail _ (.tail _ (.tail _ (.head _))) | exact .tail _ (.tail _ (.tail _ (.tail _ (.head _)))) | exact .tail _ (.tail _ (.tail _ (.tail _ (.tail _ (.head _))))) | exact .tail _ (.tail _ (.tail _ (.tail _ (.tail _ (.tail _ (.head _)))))) | exact .tail _ (.tail _ (.tail _ (.tail _ (.tail _ (.tail _ (.tail _ (.head _))))))) | exact .tail _ (.tail _ (.tail _ (.tail _ (.tail _ (.tail _ (.tail _ (.tail _ (.head _)))))))) | exact .tail _ (.tail _ (.tail _ (.tail _ (.tail _ (.tail _ (.tail _ (.tail _ (.tail _ (.head _)))))))))) (.head _) (by omega))) (fun _ => ?_)
  refine RL.move rfl rfl rfl ?_
  refine RL.move rfl rfl rfl ?_
  refine RL.bin rfl rfl rfl (BinV.to (d := true) BinV.gtr (decide_eq_true (by have := live_len; omega))) rfl ?_
  refine RL.pickT rfl rfl rfl rfl ?_
  refine RL.move rfl rfl rfl ?_
  refine RL.move rfl rfl rfl ?_
  refine RL.move rfl rfl rfl ?_
  refine RL.bin rfl rfl rfl (BinV.to (d := true) BinV.eql (decide_eq_true (by rw [live_end]))) rfl ?_
  refine RL.pickT rfl rfl rfl rfl ?_
  refine RL.move rfl rfl rfl ?_
  refine RL.move rfl rfl rfl ?_
  refine RL.buildSlice rfl rfl (wk_bs23_1_0 _) rfl (fun b6 => ?_)
  refine RL.weak (fun w hw => hw.boxBytes [7] rfl) ?_
  refine RL.buildSlice rfl rfl (wk_bs27_1_0 _ _ _) rfl (fun b7 => ?_)
  refine RL.weak (fun w hw => (show St w _ (ArrF _ (listV [([7], ⟨some ⟨b6, 0, none⟩, 1⟩)]) :: _) from hw.boxArr).allB_one (p := ([7], ⟨some ⟨b6, 0, none⟩, 1⟩)) (.tail _ (.head _))) ?_
  refine RL.call rfl rfl Try.call18 rfl (Ctr.boolT (decide_eq_true (by rw [r.2.1, live_scan]; rfl)) (sameL_spec (ps := r.1.ps) (qs := [([7], ⟨some ⟨b6, 0, none⟩, 1⟩)]) (by first | exact .head _ | exact .tail _ (.head _) | exact .tail _ (.tail _ (.head _)) | exact .tail _ (.tail _ (.tail _ (.head _))) | exact .tail _ (.tail _ (.tail _ (.tail _ (.head _)))) | exact .tail _ (.tail _ (.tail _ (.tail _ (.tail _ (.head _))))) | exact .tail _ (.tail _ (.tail _ (.tail _ (.tail _ (.tail _ (.head _)))))) | exact .tail _ (.tail _ (.tail _ (.tail _ (.tail _ (.tail _ (.tail _ (.head _))))))) | exact .tail _ (.tail _ (.tail _ (.tail _ (.tail _ (.tail _ (.tail _ (.tail _ (.head _)))))))) | exact .tail _ (.tail _ (.tail _ (.tail _ (.tail _ (.tail _ (.tail _ (.tail _ (.tail _ (.head _)))))))))) (by first | exact .head _ | exact .tail _ (.head _) | exact .tail _ (.tail _ (.head _)) | exact .tail _ (.tail _ (.tail _ (.head _))) | exact .tail _ (.tail _ (.tail _ (.tail _ (.head _)))) | exact .tail _ (.tail _ (.tail _ (.tail _ (.tail _ (.head _))))) | exact .tail _ (.tail _ (.tail _ (.tail _ (.tail _ (.tail _ (.head _)))))) | exact .tail _ (.tail _ (.tail _ (.tail _ (.tail _ (.tail _ (.tail _ (.head _))))))) | exact .tail _ (.tail _ (.tail _ (.tail _ (.tail _ (.tail _ (.tail _ (.tail _ (.head _)))))))) | exact .tail _ (.tail _ (.tail _ (.tail _ (.tail _ (.tail _ (.tail _ (.tail _ (.tail _ (.head _)))))))))) (by first | exact .head _ | exact .tail _ (.head _) | exact .tail _ (.tail _ (.head _)) | exact .tail _ (.tail _ (.tail _ (.head _))) | exact .tail _ (.tail _ (.tail _ (.tail _ (.head _)))) | exact .tail _ (.tail _ (.tail _ (.tail _ (.tail _ (.head _))))) | exact .tail _ (.tail _ (.tail _ (.tail _ (.tail _ (.tail _ (.head _)))))) | exact .tail _ (.tail _ (.tail _ (.tail _ (.tail _ (.tail _ (.tail _ (.head _))))))) | exact .tail _ (.tail _ (.tail _ (.tail _ (.tail _ (.tail _ (.tail _ (.tail _ (.head _)))))))) | exact .tail _ (.tail _ (.tail _ (.tail _ (.tail _ (.tail _ (.tail _ (.tail _ (.tail _ (.head _)))))))))) (.head _) (map_fst_le r.2.1 (by rw [live_scan]; intro x hx; rw [List.mem_singleton.1 hx]; decide)) (by rw [map_fst_len r.2.1, live_scan]; decide))) (fun _ => ?_)
  refine RL.pickT rfl rfl rfl rfl ?_
  refine RL.assign rfl rfl rfl ?_
  refine RL.nil ?_
  refine NX.seq ?_
  refine TR.ret ?_
  exact NX.ret1 () rfl rfl rfl (fun w hw => hw.facts (fun φ h => .tail _ (.tail _ (.tail _ (.tail _ (.tail _ (.tail _ (.tail _ (.tail _ (.tail _ (.tail _ (.tail _ (h)))))))))))))

end Go.Proofs.Ytdlpaojkkekdlaa

namespace Go.GL
set_option linter.unusedVariables false
theorem frameJ_has (i : Int) (x : List UInt8) : x.length ≤ (frameJ i x).length := by
  unfold frameJ coreJ encR
  simp only [List.length_append]; omega
theorem framesJ_mem : ∀ (xs : List (List UInt8)) (i : Nat) (x : List UInt8), x ∈ xs → x.length ≤ (framesJ i xs).length
  | [], _, _, h => absurd h (by simp)
  | y :: ys, i, x, h => by
    rw [framesJ, List.length_append]
    rcases List.mem_cons.1 h with e | h
    · subst e; have := frameJ_has (i : Int) x; omega
    · have := framesJ_mem ys (i + 1) x h; omega
theorem scanJ_mem {b x : List UInt8} {i : Nat} (h : x ∈ scanJ i b) : x.length ≤ b.length := by
  obtain ⟨r, hr⟩ := scanJ_split b.length b i (Nat.le_refl _)
  have := framesJ_mem _ i x h
  have h2 := congrArg List.length hr
  rw [List.length_append] at h2; omega
theorem scanJ_len {b : List UInt8} {i : Nat} : (scanJ i b).length ≤ b.length := by
  obtain ⟨r, hr⟩ := scanJ_split b.length b i (Nat.le_refl _)
  have := framesJ_len (scanJ i b) i
  have h2 := congrArg List.length hr
  rw [List.length_append] at h2; omega
theorem framesJ_bound {m : Nat} : ∀ (xs : List (List UInt8)) (i : Nat), i + xs.length ≤ 9223372036854775807 → (∀ x, x ∈ xs → x.length ≤ m) → m ≤ 4611686018427387000 → (framesJ i xs).length ≤ (m + 40) * xs.length
  | [], _, _, _, _ => by simp [framesJ]
  | x :: xs, i, h, hx, hm => by
    rw [List.length_cons] at h
    have h1 := framesJ_bound xs (i + 1) (by omega) (fun y hy => hx y (.tail _ hy)) hm
    have h2 := (frameJ_len (i := (i : Int)) (x := x) (by omega) (by omega) (Nat.le_trans (hx x (.head _)) hm)).1
    have h3 := hx x (.head _)
    rw [framesJ, List.length_append, List.length_cons, Nat.mul_succ]
    omega
theorem scan_end {xs : List (List UInt8)} {rest : List UInt8} (h : FitJ 0 xs) : (framesJ 0 xs).length ≤ (framesJ 0 (scanJ 0 (framesJ 0 xs ++ rest))).length := by
  rw [scanJ_frames xs 0 rest h, framesJ_append, List.length_append]; omega
theorem framesJ_next {xs : List (List UInt8)} {k : Nat} (h : k < xs.length) : framesJ 0 (xs.take (k + 1)) = framesJ 0 (xs.take k) ++ frameJ (k : Int) xs[k] := by
  rw [List.take_succ_eq_append_getElem h, framesJ_snoc, List.length_take, Nat.min_eq_left (by omega), Nat.zero_add]
theorem St.cutL {w : World} {M : List HP} {F : List Fact} {oa : Option Addr} {cap : Nat} {ps : List Rc} (k : Nat) (hc : ps.length ≤ cap) (hF : ArrF oa (listV ps) ∈ F) (hA : AllB ps ∈ F) (h : St w M F) : St w M (ArrF (cutA oa 0 cap 1) (listV (ps.take k)) :: AllB (ps.take k) :: F) := by
  have h1 : St w M (AllB (ps.take k) :: F) := h.derive fun K hf p hp => hf _ hA p (List.mem_of_mem_take hp)
  refine h1.derive fun K hf => ?_
  have h9 := ArrAt.cut (size := 1) (cap := cap) (n := ps.length) (hf _ (.tail _ hF)) 0 (min k ps.length) (by rw [listV_length, Nat.mul_one]) (Nat.min_le_right _ _) hc
  simp only [Nat.mul_one, List.drop_zero] at h9
  show ArrAt _ _ _ _
  have e : listV (ps.take k) = (listV ps).take (min k ps.length) := by
    rw [show listV (ps.take k) = (listV ps).take k from by simp [listV]]
    rcases Nat.le_total k ps.length with h1 | h1
    · rw [Nat.min_eq_left h1]
    · rw [Nat.min_eq_right h1, List.take_of_length_le (by rw [listV_length]; omega), List.take_of_length_le (by rw [listV_length]; omega)]
  rw [e]
  exact h9
section
variable {P : Program} {r : Option Nat} {N : Nat} {ops : Array Oper} {rest : List Oper} {Q : Exit → Act → World → Prop} {E : Env} {ds : List Deferred} {M : List HP} {F : List Fact}
variable {d : Nat} {ty : TypeId} {pos : String} {aft : Array Edge} {gd : Option (Nat × Bool)}
theorem RL.sliceToL {T e : TypeId} {x o : Operand} {oa : Option Addr} {cap k : Nat} {v : Int} {ik : IntKind} {ps : List Rc} (hg : wantedG ops E gd = some true) (ht : tySlice P T e = true) (hz : tySize P e 1 = true) (hx : evalO E x = some (.slice oa ps.length cap))
    (ho : evalO E o = some (.int ik v)) (hv : v = ((ps.take k).length : Int)) (hc : ps.length ≤ cap) (hF : ArrF oa (listV ps) ∈ F) (hA : AllB ps ∈ F) (hN : Nat.ble (d + 1) N = true) (kk : RL P r N ops rest Q ((d, .slice (cutA oa 0 cap 1) (ps.take k).length cap) :: E) ds M (ArrF (cutA oa 0 cap 1) (listV (ps.take k)) :: AllB (ps.take k) :: F)) : RL P r N ops (⟨some d, .slice T x none (some o) none, ty, pos, aft, gd⟩ :: rest) Q E ds M F := by
  subst hv
  refine RL.weak (fun w hw => hw.cutL k hc hF hA) ?_
  exact RL.sliceToU hg ht hz hx ho (by rw [List.length_take]; omega) hN kk
end
end Go.GL

namespace Go.GL
set_option linter.unusedVariables false
theorem bytesV_set {l : List UInt8} {r : Int} {q : Int} (h0 : 0 ≤ q) (h1 : q ≤ 255) (hr : r.toNat < l.length) : bytesV (l.set r.toNat (UInt8.ofNat q.toNat)) = (bytesV l).take (0 + r.toNat * 1) ++ [.int .u8 q] ++ (bytesV l).drop (0 + r.toNat * 1 + 1) := by
  have e : (Value.int .u8 q : Value) = .int .u8 ((UInt8.ofNat q.toNat).toNat : Int) := by
    rw [u8_ofNat (by omega)]; congr 1; omega
  rw [e, Nat.zero_add, Nat.mul_one, List.set_eq_take_append_cons_drop, if_pos hr]
  simp [bytesV]
end Go.GL

namespace Go.GL
open Go.ChangeMaps (setBlock)
open Go.Maps (Keyed)
set_option linter.unusedVariables false
abbrev KV := List (Int × Value)
def tyMap (P : Program) (t k e : TypeId) : Bool := match P.underlying t, P.underlying k with | some (.map k' e'), some (.int .i64) => decide (k' = k ∧ e' = e) | _, _ => false
theorem tyMap_is {P : Program} {t k e : TypeId} (h : tyMap P t k e = true) : P.underlying t = some (.map k e) ∧ P.underlying k = some (.int .i64) := by
  unfold tyMap at h
  split at h
  · rename_i k' e' h1 h2
    have := of_decide_eq_true h
    obtain ⟨rfl, rfl⟩ := this
    exact ⟨h1, h2⟩
  · cases h
theorem tyMap_keyed {P : Program} {t k e : TypeId} (h : tyMap P t k e = true) : Keyed P k := Maps.int_keyed (tyMap_is h).2
def I64 (n : Int) : Prop := -9223372036854775808 ≤ n ∧ n ≤ 9223372036854775807
theorem i64_wf {n : Int} (h : I64 n) : (Lit.int .i64 n).wf = true := by
  simp [Lit.wf, IntKind.min, IntKind.max, IntKind.signed, IntKind.bits]
  exact ⟨h.1, h.2⟩
/-! ### Lists of entries -/
def kvGet : KV → Int → Option Value
  | [], _ => none
  | p :: l, k => if p.1 = k then some p.2 else kvGet l k
def kvSet : KV → Int → Value → KV
  | [], k, v => [(k, v)]
  | p :: l, k, v => if p.1 = k then (k, v) :: l else p :: kvSet l k v
def kvDel : KV → Int → KV
  | [], _ => []
  | p :: l, k => if p.1 = k then l else p :: kvDel l k
theorem kvGet_none : ∀ {l : KV} {k : Int}, (∀ p, p ∈ l → p.1 ≠ k) → kvGet l k = none
  | [], _, _ => rfl
  | p :: l, k, h => by rw [kvGet, if_neg (h p (.head _))]; exact kvGet_none fun q hq => h q (.tail _ hq)
theorem kvSet_new : ∀ {l : KV} {k : Int} {v : Value}, (∀ p, p ∈ l → p.1 ≠ k) → kvSet l k v = l ++ [(k, v)]
  | [], _, _, _ => rfl
  | p :: l, k, v, h => by rw [kvSet, if_neg (h p (.head _)), kvSet_new fun q hq => h q (.tail _ hq)]; rfl
theorem kvDel_none : ∀ {l : KV} {k : Int}, (∀ p, p ∈ l → p.1 ≠ k) → kvDel l k = l
  | [], _, _ => rfl
  | p :: l, k, h => by rw [kvDel, if_neg (h p (.head _)), kvDel_none fun q hq => h q (.tail _ hq)]
theorem kv_at : ∀ {l : KV} {k : Int} {j : Nat} {v0 : Value}, (l.map Prod.fst).Nodup → l[j]? = some (k, v0) → kvGet l k = some v0 ∧ (∀ v, kvSet l k v = l.set j (k, v)) ∧ kvDel l k = l.eraseIdx j
  | [], _, _, _, _, h => by simp at h
  | p :: l, k, 0, v0, _, h => by
    simp at h; subst h
    exact ⟨by rw [kvGet, if_pos rfl], fun v => by rw [kvSet, if_pos rfl]; rfl, by rw [kvDel, if_pos rfl]; rfl⟩
  | p :: l, k, j + 1, v0, hn, h => by
    have h1 : l[j]? = some (k, v0) := by simpa using h
    rw [List.map_cons, List.nodup_cons] at hn
    have hne : p.1 ≠ k := fun e => hn.1 (e ▸ List.mem_map_of_mem (f := Prod.fst) (List.mem_of_getElem? h1))
    obtain ⟨a, b, c⟩ := kv_at hn.2 h1
    exact ⟨by rw [kvGet, if_neg hne, a], fun v => by rw [kvSet, if_neg hne, b]; rfl, by rw [kvDel, if_neg hne, c]; rfl⟩
/-! ### The map's block -/
structure MpOk (es : Array MapEntry) (clock : Nat) (kvs : KV) : Prop where
  kv : es.toList.map (fun e => (e.key, e.val)) = kvs.map fun p => (Value.int .i64 p.1, p.2)
  keys : (kvs.map Prod.fst).Nodup
  fits : ∀ p, p ∈ kvs → I64 p.1
  born : (es.toList.map (·.born)).Nodup
  past : ∀ e, e ∈ es.toList → e.born < clock
def MpB (b : Nat) (kvs : KV) : HP := Ex (ι := {z : Array MapEntry × Nat // MpOk z.1 z.2 kvs}) fun z => [Pts b (.map z.1.1 z.1.2)]
theorem MpOk.len {es : Array MapEntry} {clock : Nat} {kvs : KV} (h : MpOk es clock kvs) : es.size = kvs.length := by
  have := congrArg List.length h.kv
  simpa using this
theorem MpOk.at {es : Array MapEntry} {clock : Nat} {kvs : KV} (h : MpOk es clock kvs) {j : Nat} {e : MapEntry} (he : es.toList[j]? = some e) : ∃ n, e.key = .int .i64 n ∧ kvs[j]? = some (n, e.val) := by
  have h1 := congrArg (fun l : List (Value × Value) => l[j]?) h.kv
  simp only [List.getElem?_map, he, Option.map_some] at h1
  cases hk : kvs[j]? with
  | none => rw [hk] at h1; cases h1
  | some p =>
    rw [hk] at h1
    simp only [Option.map_some, Option.some.injEq, Prod.mk.injEq] at h1
    exact ⟨p.1, h1.1, by rw [h1.2]⟩
theorem MpOk.back {es : Array MapEntry} {clock : Nat} {kvs : KV} (h : MpOk es clock kvs) {p : Int × Value} (hp : p ∈ kvs) : ∃ e, e ∈ es.toList ∧ e.key = .int .i64 p.1 ∧ e.val = p.2 := by
  have h1 : (Value.int .i64 p.1, p.2) ∈ es.toList.map (fun e => (e.key, e.val)) := by rw [h.kv]; exact List.mem_map_of_mem (f := fun p : Int × Value => (Value.int .i64 p.1, p.2)) hp
  obtain ⟨e, he, h2⟩ := List.mem_map.1 h1
  simp only [Prod.mk.injEq] at h2
  exact ⟨e, he, h2.1, h2.2⟩
theorem MpOk.find {P : Program} {w : World} {t k e : TypeId} {es : Array MapEntry} {clock : Nat} {kvs : KV} (h : MpOk es clock kvs) (ht : tyMap P t k e = true) {n : Int} (hn : I64 n) :
    ((Instr.findKey k (.int .i64 n) es.toList).run P w = .ok none w ∧ ∀ p, p ∈ kvs → p.1 ≠ n) ∨ ∃ j e0, (Instr.findKey k (.int .i64 n) es.toList).run P w = .ok (some (j, e0.val)) w ∧ es.toList[j]? = some e0 ∧ e0.key = .int .i64 n ∧ kvs[j]? = some (n, e0.val) := by
  obtain ⟨hm, hk⟩ := tyMap_is ht
  have hx := Maps.keyOf_int_mk hk (i64_wf hn)
  have hes : ∀ e ∈ es.toList, ∃ l, keyOf P k e.key = some l := by
    intro e0 he
    obtain ⟨j, hj⟩ := List.mem_iff_getElem?.1 he
    obtain ⟨m, h1, h2⟩ := h.at hj
    exact ⟨_, by rw [h1]; exact Maps.keyOf_int_mk hk (i64_wf (h.fits _ (List.mem_of_getElem? h2)))⟩
  rcases (tyMap_keyed ht).find w hx es.toList hes with ⟨h1, h2⟩ | ⟨j, e0, h1, h2, h3⟩
  · refine .inl ⟨h1, fun p hp e => ?_⟩
    obtain ⟨e0, he, h3, _⟩ := h.back hp
    exact h2 e0 he (by rw [h3, e])
  · obtain ⟨m, h4, h5⟩ := h.at h2
    have : m = n := by rw [h3] at h4; cases h4; rfl
    subst this
    exact .inr ⟨j, e0, h1, h2, h3, h5⟩
theorem MpOk.nil : MpOk #[] 0 [] := ⟨rfl, List.nodup_nil, fun p hp => absurd hp (by simp), List.nodup_nil, fun e he => absurd he (by simp)⟩
theorem MpOk.push {es : Array MapEntry} {clock : Nat} {kvs : KV} (h : MpOk es clock kvs) {n : Int} {v : Value} (hn : I64 n) (hnew : ∀ p, p ∈ kvs → p.1 ≠ n) : MpOk (es.push ⟨.int .i64 n, v, clock⟩) (clock + 1) (kvSet kvs n v) := by
  rw [kvSet_new hnew]
  refine ⟨by rw [Array.toList_push, List.map_append, List.map_append, h.kv]; rfl, ?_, ?_, ?_, ?_⟩
  · rw [List.map_append, List.nodup_append]
    refine ⟨h.keys, by simp, fun a ha b hb => ?_⟩
    obtain ⟨p, hp, rfl⟩ := List.mem_map.1 ha
    simp at hb; subst hb
    exact hnew p hp
  · intro p hp
    rcases List.mem_append.1 hp with h1 | h1
    · exact h.fits p h1
    · simp at h1; subst h1; exact hn
  · rw [Array.toList_push, List.map_append, List.nodup_append]
    refine ⟨h.born, by simp, fun a ha b hb => ?_⟩
    obtain ⟨x, hx, rfl⟩ := List.mem_map.1 ha
    simp at hb; subst hb
    have := h.past x hx; omega
  · intro e he
    rw [Array.toList_push] at he
    rcases List.mem_append.1 he with h1 | h1
    · have := h.past e h1; omega
    · simp at h1; subst h1; show clock < clock + 1; omega
theorem map_set_fst {l : KV} {j : Nat} {n : Int} {v0 v : Value} (h : l[j]? = some (n, v0)) : (l.set j (n, v)).map Prod.fst = l.map Prod.fst := by
  rw [List.map_set]
  refine List.ext_getElem? fun i => ?_
  rw [List.getElem?_set]
  split
  · rename_i e; subst e
    split
    · rw [List.getElem?_map, h]; rfl
    · rename_i h2; rw [List.getElem?_eq_none (by omega)]
  · rfl
theorem MpOk.modify {es : Array MapEntry} {clock : Nat} {kvs : KV} (h : MpOk es clock kvs) {j : Nat} {e0 : MapEntry} {n : Int} {v : Value} (hj : es.toList[j]? = some e0) (hk : e0.key = .int .i64 n) (hkv : kvs[j]? = some (n, e0.val)) :
    (es.modify j fun e => { e with key := .int .i64 n, val := v }).toList = es.toList.set j ⟨.int .i64 n, v, e0.born⟩ ∧ MpOk (es.modify j fun e => { e with key := .int .i64 n, val := v }) clock (kvSet kvs n v) := by
  have hl : (es.modify j fun e => { e with key := .int .i64 n, val := v }).toList = es.toList.set j ⟨.int .i64 n, v, e0.born⟩ := by
    rw [Array.toList_modify]
    refine List.ext_getElem? fun i => ?_
    rw [List.getElem?_modify, List.getElem?_set]
    by_cases e : j = i
    · subst e
      rw [hj, if_pos rfl, if_pos (List.getElem?_eq_some_iff.1 hj).1]; simp
    · simp [e]
  have hs := (kv_at h.keys hkv).2.1 v
  refine ⟨hl, ⟨?_, ?_, ?_, ?_, ?_⟩⟩
  · rw [hl, hs, List.map_set, List.map_set, h.kv]
  · rw [hs, map_set_fst hkv]; exact h.keys
  · intro p hp
    rw [hs] at hp
    rcases List.mem_or_eq_of_mem_set hp with h1 | h1
    · exact h.fits p h1
    · subst h1; exact h.fits (n, e0.val) (List.mem_of_getElem? hkv)
  · rw [hl]
    have : (es.toList.set j ⟨.int .i64 n, v, e0.born⟩).map (·.born) = es.toList.map (·.born) := by
      rw [List.map_set]
      refine List.ext_getElem? fun i => ?_
      rw [List.getElem?_set]
      split
      · rename_i e; subst e
        split
        · rw [List.getElem?_map, hj]; rfl
        · rename_i h2; rw [List.getElem?_eq_none (by omega)]
      · rfl
    rw [this]; exact h.born
  · intro e he
    rw [hl] at he
    rcases List.mem_or_eq_of_mem_set he with h1 | h1
    · exact h.past e h1
    · subst h1; exact h.past e0 (List.mem_of_getElem? hj)
theorem MpOk.erase {es : Array MapEntry} {clock : Nat} {kvs : KV} (h : MpOk es clock kvs) {j : Nat} {e0 : MapEntry} {n : Int} (hj : es.toList[j]? = some e0) (hkv : kvs[j]? = some (n, e0.val)) : MpOk (es.eraseIdxIfInBounds j) clock (kvDel kvs n) := by
  have hl : (es.eraseIdxIfInBounds j).toList = es.toList.eraseIdx j := by
    have hlt := (List.getElem?_eq_some_iff.1 hj).1
    simp at hlt
    simp [Array.eraseIdxIfInBounds, hlt]
  have hs := (kv_at h.keys hkv).2.2
  rw [hs]
  refine ⟨?_, ?_, fun p hp => h.fits p (List.mem_of_mem_eraseIdx hp), ?_, ?_⟩
  · rw [hl, ChangeMaps.map_eraseIdx, ChangeMaps.map_eraseIdx, h.kv]
  · rw [ChangeMaps.map_eraseIdx]; exact h.keys.sublist (List.eraseIdx_sublist _ _)
  · rw [hl, ChangeMaps.map_eraseIdx]; exact h.born.sublist (List.eraseIdx_sublist _ _)
  · intro e he; rw [hl] at he; exact h.past e (List.mem_of_mem_eraseIdx he)
end Go.GL

namespace Go.GL
open Go.ChangeMaps (setBlock)
open Go.Maps (Keyed)
set_option linter.unusedVariables false
theorem mp_at {w : World} {M : List HP} {F : List Fact} {b i : Nat} {kvs : KV} (hw : St w M F) (hi : M[i]? = some (MpB b kvs)) : ∃ es clock, MpOk es clock kvs ∧ w.heap[b]? = some (.map es clock) := by
  obtain ⟨z, h⟩ := (hw.front hi).exOpen
  exact ⟨z.1.1, z.1.2, z.2, h.heap (i := 0) rfl⟩
theorem mp_turn {w : World} {M : List HP} {F : List Fact} {b i : Nat} {kvs kvs' : KV} {es' : Array MapEntry} {clock' : Nat} (hw : St w M F) (hi : M[i]? = some (MpB b kvs)) (h : MpOk es' clock' kvs') : St (setBlock w b (.map es' clock')) (M.set i (MpB b kvs')) F := by
  obtain ⟨z, h1⟩ := (hw.front hi).exOpen
  have hb : w.heap[b]? = some (.map z.1.1 z.1.2) := h1.heap (i := 0) rfl
  have hset := MapKept.heap_set (o' := .map es' clock') hb
  have h2 : St (setBlock w b (.map es' clock')) (Pts b (.map es' clock') :: M.eraseIdx i) F := St.putHeap (i := 0) (b := b) (o := .map z.1.1 z.1.2) h1 rfl rfl rfl rfl (by simp [setBlock]) hset.1 hset.2
  exact St.back hi (St.exClose (⟨(es', clock'), h⟩ : {z : Array MapEntry × Nat // MpOk z.1 z.2 kvs'}) h2)
theorem run_mapUpdate_ok {P : Program} {w : World} {t k e : TypeId} {es : Array MapEntry} {clock b : Nat} {kvs : KV} (h : MpOk es clock kvs) (hb : w.heap[b]? = some (.map es clock)) (ht : tyMap P t k e = true) {n : Int} (hn : I64 n) (v : Value) :
    ∃ es' clock', (Instr.mapUpdate t (.map (some b)) (.int .i64 n) v).run P w = .ok () (setBlock w b (.map es' clock')) ∧ MpOk es' clock' (kvSet kvs n v) ∧ ((∃ p, p ∈ kvs ∧ p.1 = n) → ∃ j e0, es.toList[j]? = some e0 ∧ e0.key = .int .i64 n ∧ es'.toList = es.toList.set j ⟨.int .i64 n, v, e0.born⟩ ∧ clock' = clock) := by
  obtain ⟨hm, hk⟩ := tyMap_is ht
  have hx := Maps.keyOf_int_mk hk (i64_wf hn)
  have K := tyMap_keyed ht
  rcases h.find (w := w) ht hn with ⟨h1, h2⟩ | ⟨j, e0, h1, h2, h3, h4⟩
  · refine ⟨es.push ⟨.int .i64 n, v, clock⟩, clock + 1, ?_, h.push hn h2, fun ⟨p, hp, e⟩ => absurd e (h2 p hp)⟩
    simp [Instr.mapUpdate, run_underlying hm, MapKept.run_getObj_map hb, K.check w false hx, h1, MapKept.run_setObj_map _ hb, Result.andThen, setBlock]
  · have hj : es[j]? = some e0 := by simpa using h2
    obtain ⟨hl, hok⟩ := h.modify (v := v) h2 h3 h4
    refine ⟨_, clock, ?_, hok, fun _ => ⟨j, e0, h2, h3, hl, rfl⟩⟩
    simp [Instr.mapUpdate, run_underlying hm, MapKept.run_getObj_map hb, K.check w false hx, h1, hj, h3, K.stays w hx, MapKept.run_setObj_map _ hb, Result.andThen, setBlock]
theorem run_delete_ok {P : Program} {w : World} {t k e : TypeId} {es : Array MapEntry} {clock b : Nat} {kvs : KV} (h : MpOk es clock kvs) (hb : w.heap[b]? = some (.map es clock)) (ht : tyMap P t k e = true) {n : Int} (hn : I64 n) (ts : Array TypeId) (hts : ts[0]? = some t) (ty : TypeId) :
    ∃ es', (Builtin.delete_ ts ty #[.map (some b), .int .i64 n]).run P w = .ok (.tuple #[]) (setBlock w b (.map es' clock)) ∧ MpOk es' clock (kvDel kvs n) := by
  obtain ⟨hm, hk⟩ := tyMap_is ht
  have hx := Maps.keyOf_int_mk hk (i64_wf hn)
  have K := tyMap_keyed ht
  rcases h.find (w := w) ht hn with ⟨h1, h2⟩ | ⟨j, e0, h1, h2, h3, h4⟩
  · refine ⟨es, ?_, by rw [kvDel_none h2]; exact h⟩
    simp [Builtin.delete_, hts, run_underlying hm, MapKept.run_getObj_map hb, K.check w _ hx, h1, MapKept.run_setObj_map _ hb, Result.andThen, setBlock]
  · refine ⟨_, ?_, h.erase h2 h4⟩
    simp [Builtin.delete_, hts, run_underlying hm, MapKept.run_getObj_map hb, K.check w _ hx, h1, MapKept.run_setObj_map _ hb, Result.andThen, setBlock]
theorem run_lookup_ok {P : Program} {w : World} {t k e : TypeId} {es : Array MapEntry} {clock b : Nat} {kvs : KV} (h : MpOk es clock kvs) (hb : w.heap[b]? = some (.map es clock)) (ht : tyMap P t k e = true) {n : Int} (hn : I64 n) {z : Value} (hz : (zeroValue e).run P w = .ok z w) :
    (Instr.lookup t (.map (some b)) (.int .i64 n) false).run P w = .ok ((kvGet kvs n).getD z) w := by
  obtain ⟨hm, hk⟩ := tyMap_is ht
  have hx := Maps.keyOf_int_mk hk (i64_wf hn)
  have K := tyMap_keyed ht
  rcases h.find (w := w) ht hn with ⟨h1, h2⟩ | ⟨j, e0, h1, h2, h3, h4⟩
  · rw [kvGet_none h2]
    simp [Instr.lookup, run_underlying hm, MapKept.run_getObj_map hb, K.check w _ hx, h1, hz, Result.andThen]
  · rw [(kv_at h.keys h4).1]
    simp [Instr.lookup, run_underlying hm, MapKept.run_getObj_map hb, K.check w _ hx, h1, Result.andThen]
/-! ### A range -/
structure RgOk (es : Array MapEntry) (clock since : Nat) (seen : Array Nat) (c0 : Nat) (kvs : KV) (left : List Int) (cur : Option Int) : Prop where
  ok : MpOk es clock kvs
  old : ∀ e, e ∈ es.toList → e.born < since
  sc : since ≤ c0
  sk : since ≤ clock
  rest : (leftOf es seen).toList.map (·.key) = left.map (Value.int .i64 ·)
  now : ∀ k, cur = some k → ∃ (e : MapEntry) (seen0 : Array Nat), e ∈ es.toList ∧ e.key = .int .i64 k ∧ seen = seen0.push e.born ∧ c0 = clock
structure RgX where
  es : Array MapEntry
  clock : Nat
  since : Nat
  seen : Array Nat
  c0 : Nat
def RgB (b r : Nat) (kvs : KV) (left : List Int) (cur : Option Int) : HP := Ex (ι := {z : RgX // RgOk z.es z.clock z.since z.seen z.c0 kvs left cur}) fun z => [Pts b (.map z.1.es z.1.clock), Pts r (.mapIter (some b) z.1.since z.1.seen z.1.c0)]
theorem ints_inj : ∀ {a b : List Int}, a.map (Value.int .i64 ·) = b.map (Value.int .i64 ·) → a = b
  | [], [], _ => rfl
  | [], _ :: _, h => by simp at h
  | _ :: _, [], h => by simp at h
  | x :: a, y :: b, h => by
    simp only [List.map_cons, List.cons.injEq, Value.int.injEq, true_and] at h
    rw [h.1, ints_inj h.2]
theorem rg_at {w : World} {M : List HP} {F : List Fact} {b r i : Nat} {kvs : KV} {left : List Int} {cur : Option Int} (hw : St w M F) (hi : M[i]? = some (RgB b r kvs left cur)) :
    ∃ z : RgX, RgOk z.es z.clock z.since z.seen z.c0 kvs left cur ∧ w.heap[b]? = some (.map z.es z.clock) ∧ w.heap[r]? = some (.mapIter (some b) z.since z.seen z.c0) ∧ St w (Pts b (.map z.es z.clock) :: Pts r (.mapIter (some b) z.since z.seen z.c0) :: M.eraseIdx i) F := by
  obtain ⟨z, h⟩ := (hw.front hi).exOpen
  exact ⟨z.1, z.2, h.heap (i := 0) rfl, h.heap (i := 1) rfl, h⟩
theorem rg_close {w : World} {M : List HP} {F : List Fact} {b r i : Nat} {p : HP} {kvs : KV} {left : List Int} {cur : Option Int} {z : RgX} (hi : M[i]? = some p) (hz : RgOk z.es z.clock z.since z.seen z.c0 kvs left cur) (h : St w (Pts b (.map z.es z.clock) :: Pts r (.mapIter (some b) z.since z.seen z.c0) :: M.eraseIdx i) F) : St w (M.set i (RgB b r kvs left cur)) F :=
  St.back hi (St.exClose (⟨z, hz⟩ : {z : RgX // RgOk z.es z.clock z.since z.seen z.c0 kvs left cur}) h)
theorem born_key {es : Array MapEntry} {clock : Nat} {kvs : KV} (h : MpOk es clock kvs) {x y : MapEntry} (hx : x ∈ es.toList) (hy : y ∈ es.toList) : x.born = y.born ↔ x.key = y.key := by
  obtain ⟨i, hi⟩ := List.mem_iff_getElem?.1 hx
  obtain ⟨j, hj⟩ := List.mem_iff_getElem?.1 hy
  constructor
  · intro e
    have h1 : (es.toList.map (·.born))[i]? = some x.born := by rw [List.getElem?_map, hi]; rfl
    have h2 : (es.toList.map (·.born))[j]? = some y.born := by rw [List.getElem?_map, hj]; rfl
    have := (List.getElem?_inj (List.getElem?_eq_some_iff.1 h1).1 h.born).1 (h1.trans ((congrArg some e).trans h2.symm))
    subst this
    rw [hi] at hj; cases hj; rfl
  · intro e
    obtain ⟨n, a1, a2⟩ := h.at hi
    obtain ⟨m, b1, b2⟩ := h.at hj
    have : n = m := by rw [a1, b1] at e; cases e; rfl
    subst this
    have h1 : (kvs.map Prod.fst)[i]? = some n := by rw [List.getElem?_map, a2]; rfl
    have h2 : (kvs.map Prod.fst)[j]? = some n := by rw [List.getElem?_map, b2]; rfl
    have := (List.getElem?_inj (List.getElem?_eq_some_iff.1 h1).1 h.keys).1 (h1.trans h2.symm)
    subst this
    rw [hi] at hj; cases hj; rfl
theorem mem_leftOf {es : Array MapEntry} {seen : Array Nat} {e : MapEntry} : e ∈ (leftOf es seen).toList ↔ e ∈ es.toList ∧ seen.contains e.born = false := by
  unfold leftOf
  rw [Array.toList_filter, List.mem_filter]
  simp
def keyIs (n : Int) : Value → Bool
  | .int .i64 m => decide (m = n)
  | _ => false
theorem keyIs_iff {n : Int} {v : Value} : keyIs n v = true ↔ v = .int .i64 n := by
  unfold keyIs
  split
  · simp
  · rename_i h
    simp only [Bool.false_eq_true, false_iff]
    exact fun e => h n e
theorem left_push {es : Array MapEntry} {clock : Nat} {kvs : KV} (h : MpOk es clock kvs) {seen : Array Nat} {e : MapEntry} {left : List Int} {n : Int} (he : e ∈ (leftOf es seen).toList) (hn : e.key = .int .i64 n) (hl : (leftOf es seen).toList.map (·.key) = left.map (Value.int .i64 ·)) :
    (leftOf es (seen.push e.born)).toList.map (·.key) = (left.filter fun x => !decide (x = n)).map (Value.int .i64 ·) := by
  have e1 : (leftOf es (seen.push e.born)).toList = (leftOf es seen).toList.filter fun x => !keyIs n x.key := by
    unfold leftOf
    rw [Array.toList_filter, Array.toList_filter, List.filter_filter]
    refine List.filter_congr fun x hx => ?_
    have hk := born_key h hx (mem_leftOf.1 he).1
    rw [hn, ← keyIs_iff] at hk
    have hc : (seen.push e.born).contains x.born = (seen.contains x.born || (x.born == e.born)) := by
      rw [Bool.eq_iff_iff]
      simp [Array.mem_push]
    rw [hc]
    have hb : (x.born == e.born) = keyIs n x.key := by
      rw [Bool.eq_iff_iff, ← hk]; simp
    rw [hb]
    cases seen.contains x.born <;> cases keyIs n x.key <;> rfl
  rw [e1]
  have e2 : ((leftOf es seen).toList.filter fun x => !keyIs n x.key).map (·.key) = ((leftOf es seen).toList.map (·.key)).filter fun v => !keyIs n v := by
    rw [List.filter_map]; rfl
  rw [e2, hl, List.filter_map]
  rfl
end Go.GL

namespace Go.GL
open Go.ChangeMaps (setBlock)
set_option linter.unusedVariables false
theorem rg_next {P : Program} {w : World} {M : List HP} {F : List Fact} {b r i : Nat} {kvs : KV} {left : List Int} {cur : Option Int} (ty : TypeId) (hw : St w M F) (hi : M[i]? = some (RgB b r kvs left cur)) :
    ∃ (o : {o : Option (Int × Value) // match o with | none => left = [] | some p => p.1 ∈ left ∧ p ∈ kvs}) (w' : World), (Instr.next (.pointer (some ⟨r, 0, none⟩)) false ty).run P w = .ok (match o.1 with | none => .tuple #[.bool false] | some p => .tuple #[.bool true, .int .i64 p.1, p.2]) w' ∧
      St w' (M.set i (match o.1 with | none => MpB b kvs | some p => RgB b r kvs (left.filter fun x => !decide (x = p.1)) (some p.1))) F := by
  obtain ⟨z, hz, hb, hr, hst⟩ := rg_at hw hi
  rcases run_next_at (P := P) w ty r b z.since z.c0 z.seen z.es z.clock hr hb hz.old hz.sc with ⟨h0, hrun⟩ | ⟨e, he, w1, hal, hrun⟩
  · have hl : left = [] := by
      have h1 := congrArg List.length hz.rest
      rw [List.length_map, List.length_map, Array.length_toList, h0] at h1
      exact List.eq_nil_of_length_eq_zero h1.symm
    refine ⟨⟨none, hl⟩, w, hrun, ?_⟩
    exact St.back hi (St.exClose (⟨(z.es, z.clock), hz.ok⟩ : {z : Array MapEntry × Nat // MpOk z.1 z.2 kvs}) (hst.drop 1 rfl))
  · have hem := (mem_leftOf.1 he).1
    obtain ⟨j, hj⟩ := List.mem_iff_getElem?.1 hem
    obtain ⟨n, hk, hkv⟩ := hz.ok.at hj
    have hnl : n ∈ left := by
      have h1 : e.key ∈ (leftOf z.es z.seen).toList.map (·.key) := List.mem_map_of_mem (f := fun x : MapEntry => x.key) he
      rw [hz.rest, hk] at h1
      obtain ⟨m, hm, e1⟩ := List.mem_map.1 h1
      simp only [Value.int.injEq, true_and] at e1
      exact e1 ▸ hm
    refine ⟨⟨some (n, e.val), hnl, List.mem_of_getElem? hkv⟩, _, by rw [hk] at hrun; exact hrun, ?_⟩
    have hst1 : St w1 (Pts b (.map z.es z.clock) :: Pts r (.mapIter (some b) z.since z.seen z.c0) :: M.eraseIdx i) F := by
      rcases hal with rfl | rfl
      · exact hst
      · exact hst.drew
    have hr1 : w1.heap[r]? = some (.mapIter (some b) z.since z.seen z.c0) := hst1.heap (i := 1) rfl
    have hset := MapKept.heap_set (o' := .mapIter (some b) z.since (z.seen.push e.born) z.clock) hr1
    have h2 : St (setBlock w1 r (.mapIter (some b) z.since (z.seen.push e.born) z.clock)) (Pts b (.map z.es z.clock) :: Pts r (.mapIter (some b) z.since (z.seen.push e.born) z.clock) :: M.eraseIdx i) F :=
      St.putHeap (i := 1) (b := r) (o := .mapIter (some b) z.since z.seen z.c0) hst1 rfl rfl rfl rfl (by simp [setBlock]) hset.1 hset.2
    exact rg_close (z := ⟨z.es, z.clock, z.since, z.seen.push e.born, z.clock⟩) hi ⟨hz.ok, hz.old, hz.sk, hz.sk, left_push hz.ok he hk hz.rest, fun k hk2 => by cases hk2; exact ⟨e, z.seen, hem, hk, rfl, rfl⟩⟩ h2
theorem rg_entry {P : Program} {w : World} {M : List HP} {F : List Fact} {b r i : Nat} {kvs : KV} {left : List Int} {n : Int} {v : Value} (hw : St w M F) (hi : M[i]? = some (RgB b r kvs left (some n))) (hv : (n, v) ∈ kvs) :
    (Instr.entry (.pointer (some ⟨r, 0, none⟩))).run P w = .ok (.tuple #[.int .i64 n, v]) w := by
  obtain ⟨z, hz, hb, hr, _⟩ := rg_at hw hi
  obtain ⟨e, seen0, he, hk, hs, hc⟩ := hz.now n rfl
  rw [hs, hc] at hr
  have h1 := run_entry_at (P := P) w r b z.since seen0 z.es z.clock e hr hb he hz.ok.born
  have hval : e.val = v := by
    obtain ⟨j, hj⟩ := List.mem_iff_getElem?.1 he
    obtain ⟨m, a1, a2⟩ := hz.ok.at hj
    have : m = n := by rw [hk] at a1; cases a1; rfl
    subst this
    obtain ⟨j2, hj2⟩ := List.mem_iff_getElem?.1 hv
    have e1 := (kv_at hz.ok.keys a2).1
    have e2 := (kv_at hz.ok.keys hj2).1
    rw [e1] at e2
    exact Option.some.inj e2
  rw [hk, hval] at h1
  exact h1
theorem rg_store {P : Program} {w : World} {M : List HP} {F : List Fact} {b r i : Nat} {t k e : TypeId} {kvs : KV} {left : List Int} {cur : Option Int} {n : Int} (ht : tyMap P t k e = true) (hn : I64 n) (hw : St w M F) (hi : M[i]? = some (RgB b r kvs left cur)) (hv : ∃ p, p ∈ kvs ∧ p.1 = n) (v : Value) :
    ∃ w', (Instr.mapUpdate t (.map (some b)) (.int .i64 n) v).run P w = .ok () w' ∧ St w' (M.set i (RgB b r (kvSet kvs n v) left none)) F := by
  obtain ⟨z, hz, hb, hr, hst⟩ := rg_at hw hi
  obtain ⟨es', clock', hrun, hok, hsame⟩ := run_mapUpdate_ok hz.ok hb ht hn v
  obtain ⟨j, e0, hj, hk0, hl, hc⟩ := hsame hv
  refine ⟨_, hrun, ?_⟩
  have hset := MapKept.heap_set (o' := .map es' clock') hb
  have h2 : St (setBlock w b (.map es' clock')) (Pts b (.map es' clock') :: Pts r (.mapIter (some b) z.since z.seen z.c0) :: M.eraseIdx i) F :=
    St.putHeap (i := 0) (b := b) (o := .map z.es z.clock) hst rfl rfl rfl rfl (by simp [setBlock]) hset.1 hset.2
  have hmem : ∀ x, x ∈ es'.toList → ∃ y, y ∈ z.es.toList ∧ y.born = x.born := by
    intro x hx
    rw [hl] at hx
    rcases List.mem_or_eq_of_mem_set hx with h | h
    · exact ⟨x, h, rfl⟩
    · subst h; exact ⟨e0, List.mem_of_getElem? hj, rfl⟩
  have hrest : (leftOf es' z.seen).toList.map (·.key) = (leftOf z.es z.seen).toList.map (·.key) := by
    unfold leftOf
    rw [Array.toList_filter, Array.toList_filter, hl]
    have aux : ∀ (l : List MapEntry) (j : Nat), l[j]? = some e0 → ((l.set j ⟨.int .i64 n, v, e0.born⟩).filter fun e => !z.seen.contains e.born).map (·.key) = (l.filter fun e => !z.seen.contains e.born).map (·.key) := by
      intro l
      induction l with
      | nil => intro j h; simp at h
      | cons x l ih =>
        intro j h
        cases j with
        | zero =>
          simp at h; subst h
          rw [List.set_cons_zero, List.filter_cons, List.filter_cons]
          show List.map _ (if (!z.seen.contains x.born) = true then _ else _) = _
          split
          · rw [List.map_cons, List.map_cons, hk0]
          · rfl
        | succ j =>
          rw [List.set_cons_succ, List.filter_cons, List.filter_cons]
          have := ih j (by simpa using h)
          split
          · rw [List.map_cons, List.map_cons, this]
          · exact this
    exact aux _ _ hj
  refine rg_close (z := ⟨es', clock', z.since, z.seen, z.c0⟩) hi ⟨hok, fun x hx => ?_, hz.sc, by show z.since ≤ clock'; rw [hc]; exact hz.sk, by rw [hrest]; exact hz.rest, fun k hk => by cases hk⟩ h2
  obtain ⟨y, hy, hb2⟩ := hmem x hx
  rw [← hb2]; exact hz.old y hy
section
variable {P : Program} {r : Option Nat} {N : Nat} {ops : Array Oper} {rest : List Oper} {Q : Exit → Act → World → Prop} {E : Env} {ds : List Deferred} {M : List HP} {F : List Fact}
variable {d : Nat} {ty : TypeId} {pos : String} {aft : Array Edge} {gd : Option (Nat × Bool)}
theorem GV.makeMap {t : TypeId} : GV P E M F ⟨some d, .makeMap t none, ty, pos, aft, gd⟩ Nat (fun b => .map (some b)) (fun b => MpB b [] :: M) (fun _ => F) := ⟨rfl, fun ρ hρ w hw => by
  have hrun : (Instr.makeMap t none).run P w = .ok (.map (some w.heap.size)) (w.alloc (.map #[] 0)) := rfl
  refine ⟨w.heap.size, w.alloc (.map #[] 0), by simp [execOp, hrun], ?_⟩
  exact St.exClose (⟨(#[], 0), MpOk.nil⟩ : {z : Array MapEntry × Nat // MpOk z.1 z.2 []}) (hw.alloc (.map #[] 0))⟩
theorem PV.lookup {t k e : TypeId} {x y : Operand} {b : Nat} {n : Int} {z : Value} {kvs : KV} (i : Nat) (ht : tyMap P t k e = true) (hx : evalO E x = some (.map (some b))) (hy : evalO E y = some (I n)) (hn : I64 n) (hi : M[i]? = some (MpB b kvs)) (hz : ∀ w, (zeroValue e).run P w = .ok z w) :
    PV P E M F ⟨some d, .lookup t x y false, ty, pos, aft, gd⟩ ((kvGet kvs n).getD z) := ⟨rfl, fun ρ hρ w hw => by
  obtain ⟨es, clock, h, hb⟩ := mp_at hw hi
  have h1 := run_lookup_ok h hb ht hn (hz w)
  simp [execOp, hρ _ _ hx, hρ _ _ hy, h1]⟩
theorem RL.lookup {t k e : TypeId} {x y : Operand} {b : Nat} {n : Int} {z : Value} {kvs : KV} (i : Nat) (hg : wantedG ops E gd = some true) (ht : tyMap P t k e = true) (hx : evalO E x = some (.map (some b))) (hy : evalO E y = some (I n)) (hn : I64 n) (hi : M[i]? = some (MpB b kvs)) (hz : ∀ w, (zeroValue e).run P w = .ok z w) (hN : Nat.ble (d + 1) N = true)
    (k : RL P r N ops rest Q ((d, (kvGet kvs n).getD z) :: E) ds M F) : RL P r N ops (⟨some d, .lookup t x y false, ty, pos, aft, gd⟩ :: rest) Q E ds M F :=
  RL.val rfl hg hN (PV.lookup i ht hx hy hn hi hz).2 k
theorem EV.mapUpdate {t k e : TypeId} {x y u : Operand} {b : Nat} {n : Int} {v : Value} {kvs : KV} (i : Nat) (ht : tyMap P t k e = true) (hx : evalO E x = some (.map (some b))) (hy : evalO E y = some (I n)) (hu : evalO E u = some v) (hn : I64 n) (hi : M[i]? = some (MpB b kvs)) :
    EV P r Q E M F ⟨none, .mapUpdate t x y u, ty, pos, aft, gd⟩ Unit (fun _ => undef) (fun _ => M.set i (MpB b (kvSet kvs n v))) (fun _ => F) :=
  EV.of_eff rfl fun ρ hρ w hw => by
    obtain ⟨es, clock, h, hb⟩ := mp_at hw hi
    obtain ⟨es', clock', hrun, hok, _⟩ := run_mapUpdate_ok h hb ht hn v
    exact ⟨_, by simp [execOp, hρ _ _ hx, hρ _ _ hy, hρ _ _ hu, hrun], mp_turn hw hi hok⟩
theorem EV.rangeUpdate {t k e : TypeId} {x y u : Operand} {b q : Nat} {n : Int} {v : Value} {kvs : KV} {left : List Int} {cur : Option Int} (i : Nat) (ht : tyMap P t k e = true) (hx : evalO E x = some (.map (some b))) (hy : evalO E y = some (I n)) (hu : evalO E u = some v) (hn : I64 n) (hi : M[i]? = some (RgB b q kvs left cur)) (hv : ∃ p, p ∈ kvs ∧ p.1 = n) :
    EV P r Q E M F ⟨none, .mapUpdate t x y u, ty, pos, aft, gd⟩ Unit (fun _ => undef) (fun _ => M.set i (RgB b q (kvSet kvs n v) left none)) (fun _ => F) :=
  EV.of_eff rfl fun ρ hρ w hw => by
    obtain ⟨w', hrun, hst⟩ := rg_store ht hn hw hi hv v
    exact ⟨_, by simp [execOp, hρ _ _ hx, hρ _ _ hy, hρ _ _ hu, hrun], hst⟩
theorem EV.delete {t k e : TypeId} {aty : Array TypeId} {x y : Operand} {b : Nat} {n : Int} {kvs : KV} (i : Nat) (ht : tyMap P t k e = true) (hx : evalO E x = some (.map (some b))) (hy : evalO E y = some (I n)) (hn : I64 n) (hi : M[i]? = some (MpB b kvs)) (hT : aty[0]? = some t := by rfl) :
    EV P r Q E M F ⟨none, .call ⟨.builtin .delete, #[x, y], aty⟩, ty, pos, aft, gd⟩ Unit (fun _ => .tuple #[]) (fun _ => M.set i (MpB b (kvDel kvs n))) (fun _ => F) :=
  EV.of_gen rfl fun ρ hρ w hw => by
    obtain ⟨es, clock, h, hb⟩ := mp_at hw hi
    obtain ⟨es', hrun, hok⟩ := run_delete_ok h hb ht hn aty hT ty
    exact ⟨(), _, by simp [execOp, resolve, hρ _ _ hx, hρ _ _ hy, invoke, builtin, hrun], mp_turn hw hi hok⟩
theorem GV.range {t k e : TypeId} {x : Operand} {b : Nat} {kvs : KV} (i : Nat) (ht : tyMap P t k e = true) (hx : evalO E x = some (.map (some b))) (hi : M[i]? = some (MpB b kvs)) :
    GV P E M F ⟨some d, .range t x, ty, pos, aft, gd⟩ Nat (fun q => .pointer (some ⟨q, 0, none⟩)) (fun q => M.set i (RgB b q kvs (kvs.map Prod.fst) none)) (fun _ => F) := ⟨rfl, fun ρ hρ w hw => by
  obtain ⟨z, h1⟩ := (hw.front hi).exOpen
  have hb : w.heap[b]? = some (.map z.1.1 z.1.2) := h1.heap (i := 0) rfl
  have hrun := run_range_map (P := P) w t k e b z.1.1 z.1.2 (tyMap_is ht).1 hb
  refine ⟨w.heap.size, w.alloc (.mapIter (some b) z.1.2 #[] z.1.2), by simp [execOp, hρ _ _ hx, hrun], ?_⟩
  have h2 := h1.alloc (.mapIter (some b) z.1.2 #[] z.1.2)
  have h3 : St _ (Pts b (.map z.1.1 z.1.2) :: Pts w.heap.size (.mapIter (some b) z.1.2 #[] z.1.2) :: M.eraseIdx i) F := h2.perm (.swap _ _ _)
  refine rg_close (z := ⟨z.1.1, z.1.2, z.1.2, #[], z.1.2⟩) hi ⟨z.2, z.2.past, Nat.le_refl _, Nat.le_refl _, ?_, fun k hk => by cases hk⟩ h3
  have e1 : (leftOf z.1.1 #[]).toList = z.1.1.toList := by unfold leftOf; simp
  have e2 := congrArg (List.map Prod.fst) z.2.kv
  rw [List.map_map, List.map_map] at e2
  rw [e1, List.map_map]
  exact e2⟩
theorem GV.next {x : Operand} {b q : Nat} {kvs : KV} {left : List Int} {cur : Option Int} (i : Nat) (hx : evalO E x = some (.pointer (some ⟨q, 0, none⟩))) (hi : M[i]? = some (RgB b q kvs left cur)) :
    GV P E M F ⟨some d, .next x false, ty, pos, aft, gd⟩ {o : Option (Int × Value) // match o with | none => left = [] | some p => p.1 ∈ left ∧ p ∈ kvs} (fun o => match o.1 with | none => .tuple #[.bool false] | some p => .tuple #[.bool true, .int .i64 p.1, p.2])
      (fun o => M.set i (match o.1 with | none => MpB b kvs | some p => RgB b q kvs (left.filter fun x => !decide (x = p.1)) (some p.1))) (fun _ => F) := ⟨rfl, fun ρ hρ w hw => by
  obtain ⟨o, w', hrun, hst⟩ := rg_next (P := P) ty hw hi
  exact ⟨o, w', by simp [execOp, hρ _ _ hx, hrun], hst⟩⟩
theorem RL.entry {x : Operand} {b q : Nat} {kvs : KV} {left : List Int} {n : Int} {v : Value} (i : Nat) (hg : wantedG ops E gd = some true) (hx : evalO E x = some (.pointer (some ⟨q, 0, none⟩))) (hi : M[i]? = some (RgB b q kvs left (some n))) (hv : (n, v) ∈ kvs) (hN : Nat.ble (d + 1) N = true)
    (k : RL P r N ops rest Q ((d, .tuple #[I n, v]) :: E) ds M F) : RL P r N ops (⟨some d, .entry x, ty, pos, aft, gd⟩ :: rest) Q E ds M F :=
  RL.val rfl hg hN (fun ρ hρ w hw => by
    have h1 := rg_entry (P := P) hw hi hv
    simp [execOp, hρ _ _ hx, h1]) k
end
end Go.GL

namespace Go.GL
set_option linter.unusedVariables false
/-- the contract of a function that runs as a deferred call -/
def CtrD (P : Program) (f : FuncId) (args : List Value) (M : List HP) (F : List Fact) (ι : Type) (M' : ι → List HP) (F' : ι → List Fact) : Prop :=
  ∀ (u : FrameMode) (w : World), St w M F → CallsDIn (Wd none) 0 P f args.toArray u w fun e u' w' => u' = u ∧ Post (fun _ : ι => .tuple #[]) M' F' e w'
theorem CtrD.body {P : Program} {f : FuncId} {fn : Func} {c : Code} {args : List Value} {M : List HP} {F : List Fact} {ι : Type} {M' : ι → List HP} {F' : ι → List Fact} {N : Nat}
    (hf : P.funcs[f]? = some fn) (hb : fn.body = some c) (hN : fn.ntmps = N) (h : TR P none N c (bodyPost P fn (Post (fun _ : ι => .tuple #[]) M' F')) (envOf 0 args) [] M F) : CtrD P f args M F ι M' F' := fun u w hw => by
  refine callsDIn_of_wp hf hb trivial (h _ w ?_ hw)
  subst hN
  refine ⟨by simp; omega, rfl, fun k v hk => ?_⟩
  obtain ⟨_, h2⟩ := look_envOf args 0 k v hk
  have hlt : k < args.length := (List.getElem?_eq_some_iff.1 h2).1
  rw [Array.getElem?_append_left (by simpa using hlt)]
  simpa using h2
theorem Ctr.bodyD {P : Program} {f : FuncId} {fn : Func} {c : Code} {args : List Value} {M : List HP} {F : List Fact} {ι : Type} {val : ι → Value} {M' : ι → List HP} {F' : ι → List Fact} {N : Nat}
    (hf : P.funcs[f]? = some fn) (hb : fn.body = some c) (hN : fn.ntmps = N) (h : TR P none N c (bodyPostDIn (Wd none) 0 P fn (Post val M' F')) (envOf 0 args) [] M F) : Ctr P f args M F ι val M' F' := fun w hw => by
  refine callsIn_of_wp_defers hf hb trivial (h _ w ?_ hw)
  subst hN
  refine ⟨by simp; omega, rfl, fun k v hk => ?_⟩
  obtain ⟨_, h2⟩ := look_envOf args 0 k v hk
  have hlt : k < args.length := (List.getElem?_eq_some_iff.1 h2).1
  rw [Array.getElem?_append_left (by simpa using hlt)]
  simpa using h2
section
variable {P : Program} {r : Option Nat} {N : Nat} {ops : Array Oper} {rest : List Oper} {Q : Exit → Act → World → Prop} {E : Env} {ds : List Deferred} {M : List HP} {F : List Fact}
variable {ty : TypeId} {pos : String} {aft : Array Edge} {gd : Option (Nat × Bool)}
theorem RL.defer {cal : Operand} {asx : List Operand} {ats : Array TypeId} {vs fst cap : List Value} {f : FuncId} (hg : wantedG ops E gd = some true) (hc : evalO E cal = some (.func (.func f) fst.toArray cap.toArray)) (ha : evalArgs E asx = some vs)
    (k : RL P none N ops rest Q E ({ target := .fn (.func f) cap.toArray, args := (fst ++ vs).toArray } :: ds) M F) : RL P none N ops (⟨none, .defer ⟨.value cal, asx.toArray, ats⟩, ty, pos, aft, gd⟩ :: rest) Q E ds M F := fun a w hs hw => by
  unfold wpListIn
  rw [hs.wanted hg, if_pos rfl]
  refine ⟨fun _ _ => trivial, ?_⟩
  have e1 : (Oper.semAt (Wd none).round a.eval ⟨none, .defer ⟨.value cal, asx.toArray, ats⟩, ty, pos, aft, gd⟩).run P w = .ok (.defer { target := .fn (.func f) cap.toArray, args := (fst ++ vs).toArray }) w := by
    rw [show (Wd none).round = none from rfl, Oper.semAt_none]
    simp [execOp, resolve, hs.eval hc, hs.args ha, Deferred.ofValue]
  rw [e1]
  exact k _ w ⟨hs.size, by show _ :: a.defers = _; rw [hs.defers], hs.get⟩ hw
/-- a return with one deferred call, the result in a cell -/
theorem NX.retD {fn : Func} {f : FuncId} {cap dargs : List Value} {t T b i : Nat} {ι κ : Type} {val : ι → Value} {M' : ι → List HP} {F' : ι → List Fact} {M1 : κ → List HP} {F1 : κ → List Fact} {v : κ → Value} {bt : Nat}
    (hr : fn.results = #[.cell t T]) (ht : look E t = some (.pointer (some ⟨b, 0, none⟩))) (hT : tyScalar P T = true) (hcall : ∀ args w, (callFunc f args).run P w = .ok (.enter f args) w) (h : CtrD P f (dargs ++ cap) M F κ M1 F1)
    (hi : ∀ k, (M1 k)[i]? = some (Box b bt [v k])) (g : κ → ι) (hv : ∀ k, v k = val (g k)) (hS : ∀ k w, St w (M1 k) (F1 k) → St w (M' (g k)) (F' (g k))) :
    NX N .ret (bodyPostDIn (Wd none) 0 P fn (Post val M' F')) E [{ target := .fn (.func f) cap.toArray, args := dargs.toArray }] M F := fun a w ha hw => by
  show LeavesIn _ _ _ _ _ _ a.defers .returning w
  rw [ha.defers]
  refine leavesIn_cons (by simp) (by simp [Wd]) (f := f) (args := (dargs ++ cap).toArray) (by simp [invoke, hcall]) (fun _ _ => trivial) ?_
  refine (h .returning w hw).mono ?_
  rintro e u' w' ⟨rfl, k, rfl, hst⟩
  have hb := hst.heap (hi k)
  have h1 : (loadVar T ⟨b, 0, none⟩).run P w' = .ok (v k) w' := run_loadVar_scalar hT (by rw [cell_of_box hb]; rfl)
  refine ⟨v k, ?_, g k, by rw [hv], hS k w' hst⟩
  unfold results
  rw [hr]
  have h2 := ha.get t _ ht
  simp [h2, asAddr, h1]
/-- a return with nothing deferred, the result in a cell -/
theorem NX.retCD {fn : Func} {t T b i : Nat} {ι : Type} {val : ι → Value} {M' : ι → List HP} {F' : ι → List Fact} {v : Value} {bt : Nat} (j : ι)
    (hr : fn.results = #[.cell t T]) (ht : look E t = some (.pointer (some ⟨b, 0, none⟩))) (hT : tyScalar P T = true) (hi : M[i]? = some (Box b bt [v])) (hv : v = val j) (hS : ∀ w, St w M F → St w (M' j) (F' j)) :
    NX N .ret (bodyPostDIn (Wd none) 0 P fn (Post val M' F')) E [] M F := fun a w ha hw => by
  show LeavesIn _ _ _ _ _ _ a.defers .returning w
  rw [ha.defers]
  have hb := hw.heap hi
  have h1 : (loadVar T ⟨b, 0, none⟩).run P w = .ok v w := run_loadVar_scalar hT (by rw [cell_of_box hb]; rfl)
  refine ⟨v, ?_, j, by rw [hv], hS w hw⟩
  unfold results
  rw [hr]
  have h2 := ha.get t _ ht
  simp [h2, asAddr, h1]
end
end Go.GL

namespace Go.GL
set_option linter.unusedVariables false
structure Fl where
  b : List UInt8
  dur : Nat
  oa : Option Addr
  c : Nat
abbrev Fs := List (Int × Fl)
def flC (f : Fl) : List Value := [.slice f.oa f.b.length f.c, I f.dur]
def flV (f : Fl) : Value := .agg (flC f).toArray
def fl0 : Fl := ⟨[], 0, none, 0⟩
def fsV (fs : Fs) : KV := fs.map fun p => (p.1, flV p.2)
def AllF (fs : Fs) : Fact := ⟨fun w K => ∀ p, p ∈ fs → ArrAt w K p.2.oa (bytesV p.2.b), fun h e p hp => (h p hp).mono e⟩
def fget : Fs → Int → Fl
  | [], _ => fl0
  | p :: l, k => if p.1 = k then p.2 else fget l k
def fset : Fs → Int → Fl → Fs
  | [], k, v => [(k, v)]
  | p :: l, k, v => if p.1 = k then (k, v) :: l else p :: fset l k v
def fdel : Fs → Int → Fs
  | [], _ => []
  | p :: l, k => if p.1 = k then l else p :: fdel l k
theorem fsV_get : ∀ (fs : Fs) (k : Int), (kvGet (fsV fs) k).getD (flV fl0) = flV (fget fs k)
  | [], _ => rfl
  | p :: l, k => by
    show (if p.1 = k then some (flV p.2) else kvGet (fsV l) k).getD _ = flV (if p.1 = k then p.2 else fget l k)
    split
    · rfl
    · exact fsV_get l k
theorem fsV_set : ∀ (fs : Fs) (k : Int) (f : Fl), kvSet (fsV fs) k (flV f) = fsV (fset fs k f)
  | [], _, _ => rfl
  | p :: l, k, f => by
    show (if p.1 = k then (k, flV f) :: fsV l else (p.1, flV p.2) :: kvSet (fsV l) k (flV f)) = fsV (if p.1 = k then (k, f) :: l else p :: fset l k f)
    split
    · rfl
    · rw [fsV_set l k f]; rfl
theorem fsV_del : ∀ (fs : Fs) (k : Int), kvDel (fsV fs) k = fsV (fdel fs k)
  | [], _ => rfl
  | p :: l, k => by
    show (if p.1 = k then fsV l else (p.1, flV p.2) :: kvDel (fsV l) k) = fsV (if p.1 = k then l else p :: fdel l k)
    split
    · rfl
    · rw [fsV_del l k]; rfl
theorem fsV_keys (fs : Fs) : (fsV fs).map Prod.fst = fs.map Prod.fst := by
  unfold fsV; rw [List.map_map]; rfl
theorem fsV_mem {fs : Fs} {p : Int × Value} (h : p ∈ fsV fs) : ∃ f, (p.1, f) ∈ fs ∧ p.2 = flV f := by
  obtain ⟨q, hq, rfl⟩ := List.mem_map.1 h
  exact ⟨q.2, hq, rfl⟩
theorem fget_mem : ∀ {fs : Fs} {k : Int} {f : Fl}, (fs.map Prod.fst).Nodup → (k, f) ∈ fs → fget fs k = f
  | [], _, _, _, h => absurd h (by simp)
  | p :: l, k, f, hn, h => by
    rw [List.map_cons, List.nodup_cons] at hn
    rcases List.mem_cons.1 h with e | h
    · subst e; rw [fget, if_pos rfl]
    · have hne : p.1 ≠ k := fun e => hn.1 (e ▸ List.mem_map_of_mem (f := Prod.fst) h)
      rw [fget, if_neg hne]; exact fget_mem hn.2 h
theorem fget_in {fs : Fs} {k : Int} : fget fs k = fl0 ∨ (k, fget fs k) ∈ fs := by
  induction fs with
  | nil => exact .inl rfl
  | cons p l ih =>
    rw [fget]
    split
    · rename_i e; subst e; exact .inr (.head _)
    · rcases ih with h | h
      · exact .inl h
      · exact .inr (.tail _ h)
theorem fset_mem {fs : Fs} {k : Int} {f : Fl} {p : Int × Fl} (h : p ∈ fset fs k f) : p = (k, f) ∨ p ∈ fs := by
  induction fs with
  | nil => simp [fset] at h; exact .inl h
  | cons q l ih =>
    rw [fset] at h
    split at h
    · rcases List.mem_cons.1 h with e | h
      · exact .inl e
      · exact .inr (.tail _ h)
    · rcases List.mem_cons.1 h with e | h
      · exact .inr (e ▸ .head _)
      · rcases ih h with h | h
        · exact .inl h
        · exact .inr (.tail _ h)
theorem fdel_mem {fs : Fs} {k : Int} {p : Int × Fl} (h : p ∈ fdel fs k) : p ∈ fs := by
  induction fs with
  | nil => exact h
  | cons q l ih =>
    rw [fdel] at h
    split at h
    · exact .tail _ h
    · rcases List.mem_cons.1 h with e | h
      · exact e ▸ .head _
      · exact .tail _ (ih h)
def used (fs : Fs) : Nat := (fs.map fun p => p.2.b.length).sum
/-- a sum over the keys that are left -/
def sumK (g : Int → Nat) (l : List Int) : Nat := (l.map g).sum
theorem sumK_take {g : Int → Nat} : ∀ {l : List Int} {k : Int}, l.Nodup → k ∈ l → sumK g (l.filter fun x => !decide (x = k)) + g k = sumK g l
  | [], _, _, h => absurd h (by simp)
  | x :: l, k, hn, h => by
    rw [List.nodup_cons] at hn
    by_cases e : x = k
    · subst e
      have h1 : (l.filter fun y => !decide (y = x)) = l := List.filter_eq_self.2 fun y hy => by
        have : y ≠ x := fun e => hn.1 (e ▸ hy)
        simp [this]
      have h2 : (List.filter (fun y => !decide (y = x)) (x :: l)) = l := by
        rw [List.filter_cons, if_neg (by simp), h1]
      rw [h2]; unfold sumK; rw [List.map_cons, List.sum_cons]; omega
    · have h1 : k ∈ l := (List.mem_cons.1 h).resolve_left fun e2 => e e2.symm
      have ih := sumK_take (g := g) hn.2 h1
      have h2 : (List.filter (fun y => !decide (y = k)) (x :: l)) = x :: l.filter fun y => !decide (y = k) := by
        rw [List.filter_cons, if_pos (by simp [e])]
      rw [h2]
      unfold sumK at ih ⊢
      rw [List.map_cons, List.sum_cons, List.map_cons, List.sum_cons]; omega
theorem used_sumK {fs : Fs} (hn : (fs.map Prod.fst).Nodup) : sumK (fun k => (fget fs k).b.length) (fs.map Prod.fst) = used fs := by
  unfold sumK used
  rw [List.map_map]
  congr 1
  refine List.map_congr_left fun p hp => ?_
  show (fget fs p.1).b.length = p.2.b.length
  rw [fget_mem hn (f := p.2) hp]
theorem left_lt {l : List Int} {k : Int} (h : k ∈ l) : (l.filter fun x => !decide (x = k)).length < l.length :=
  List.length_filter_lt_length_iff_exists.2 ⟨k, h, by simp⟩
theorem left_nodup {l : List Int} {k : Int} (h : l.Nodup) : (l.filter fun x => !decide (x = k)).Nodup := h.sublist List.filter_sublist
structure Ds where
  m : Nat
  fs : Fs
  room : Nat
  off : Bool
  armed : Bool
  left : Int
/-- the cells of a disk; its map stands in a block of its own -/
def dkC (s : Ds) : List Value := [.map (some s.m), I s.room, .bool s.off, .bool s.armed, I s.left]
structure OkF (fs : Fs) : Prop where
  keys : (fs.map Prod.fst).Nodup
  fits : ∀ p, p ∈ fs → 0 ≤ p.1 ∧ p.1 < 64
  each : ∀ p, p ∈ fs → p.2.b.length ≤ p.2.c ∧ p.2.dur ≤ p.2.b.length
  some : ∀ p, p ∈ fs → p.2.b ≠ []
def hardF (f : Fl) : Fl := { f with dur := f.b.length }
def hard (fs : Fs) : Fs := fs.map fun p => (p.1, hardF p.2)
/-- all but those that are left have been made durable -/
def hardBut (fs : Fs) (left : List Int) : Fs := fs.map fun p => if p.1 ∈ left then p else (p.1, hardF p.2)
theorem hardBut_all (fs : Fs) : hardBut fs (fs.map Prod.fst) = fs := by
  unfold hardBut
  conv => rhs; rw [← List.map_id fs]
  refine List.map_congr_left fun p hp => ?_
  rw [if_pos (List.mem_map_of_mem (f := Prod.fst) hp)]; rfl
theorem hardBut_none (fs : Fs) : hardBut fs [] = hard fs := by
  unfold hardBut hard
  refine List.map_congr_left fun p hp => by rw [if_neg (by simp)]
theorem hardBut_keys (fs : Fs) (left : List Int) : (hardBut fs left).map Prod.fst = fs.map Prod.fst := by
  unfold hardBut
  rw [List.map_map]
  refine List.map_congr_left fun p _ => ?_
  show (if p.1 ∈ left then p else (p.1, hardF p.2)).1 = p.1
  split <;> rfl
theorem hardBut_step : ∀ {fs : Fs} {left : List Int} {k : Int} {f : Fl}, (fs.map Prod.fst).Nodup → (k, f) ∈ fs → fset (hardBut fs left) k (hardF f) = hardBut fs (left.filter fun x => !decide (x = k))
  | [], _, _, _, _, h => absurd h (by simp)
  | p :: l, left, k, f, hn, h => by
    rw [List.map_cons, List.nodup_cons] at hn
    have e0 : ∀ (q : Int × Fl) (l : Fs) (left : List Int), hardBut (q :: l) left = (if q.1 ∈ left then q else (q.1, hardF q.2)) :: hardBut l left := fun _ _ _ => rfl
    rw [e0, e0, fset]
    have e1 : (if p.1 ∈ left then p else (p.1, hardF p.2)).1 = p.1 := by split <;> rfl
    rw [e1]
    by_cases e : p.1 = k
    · rw [if_pos e]
      have hf : p = (k, f) := by
        rcases List.mem_cons.1 h with h | h
        · exact h.symm
        · exact absurd (e ▸ List.mem_map_of_mem (f := Prod.fst) h) hn.1
      subst hf
      rw [if_neg (by simp)]
      congr 1
      unfold hardBut
      refine List.map_congr_left fun q hq => ?_
      have hne : q.1 ≠ k := fun e2 => hn.1 (by show k ∈ _; rw [← e2]; exact List.mem_map_of_mem (f := Prod.fst) hq)
      have : (q.1 ∈ left.filter fun x => !decide (x = k)) ↔ q.1 ∈ left := by simp [hne]
      simp only [this]
    · rw [if_neg e]
      have h1 : (k, f) ∈ l := (List.mem_cons.1 h).resolve_left fun e2 => e (by rw [← e2])
      rw [hardBut_step hn.2 h1]
      have : (p.1 ∈ left.filter fun x => !decide (x = k)) ↔ p.1 ∈ left := by simp [e]
      simp only [this]
theorem hardBut_left {fs : Fs} {left : List Int} {k : Int} {f : Fl} (h : (k, f) ∈ hardBut fs left) (hk : k ∈ left) : (k, f) ∈ fs := by
  obtain ⟨q, hq, e⟩ := List.mem_map.1 h
  have e1 : q.1 = k := by
    have := congrArg Prod.fst e
    simp only at this
    split at this <;> exact this
  rw [if_pos (by rw [e1]; exact hk)] at e
  exact e ▸ hq
theorem hardBut_in {fs : Fs} {left : List Int} {k : Int} {f : Fl} (h : (k, f) ∈ fs) : ∃ p, p ∈ fsV (hardBut fs left) ∧ p.1 = k := by
  have h1 : k ∈ (hardBut fs left).map Prod.fst := by rw [hardBut_keys]; exact List.mem_map_of_mem (f := Prod.fst) h
  rw [← fsV_keys] at h1
  obtain ⟨p, hp, e⟩ := List.mem_map.1 h1
  exact ⟨p, hp, e⟩
def stepS (s : Ds) : Ds := if s.armed then (if s.left - 1 < 0 then { s with left := s.left - 1, off := true, armed := false } else { s with left := s.left - 1 }) else s
def stepB (s : Ds) : Bool := if s.armed then !(stepS s).off else true
def setF (fs : Fs) (n : Int) (f : Fl) : Fs := if f.b.length = 0 then fdel (fset fs n f) n else fset fs n f
theorem St.hardF {w : World} {M : List HP} {F : List Fact} {fs : Fs} (h : AllF fs ∈ F) (hw : St w M F) : St w M (AllF (hard fs) :: F) := hw.derive fun K hf p hp => by
  obtain ⟨q, hq, rfl⟩ := List.mem_map.1 hp
  exact hf _ h q hq
theorem St.allF_get {w : World} {M : List HP} {F : List Fact} {fs : Fs} {k : Int} (h : AllF fs ∈ F) (hw : St w M F) : St w M (ArrF (fget fs k).oa (bytesV (fget fs k).b) :: F) := hw.derive fun K hf => by
  rcases fget_in (fs := fs) (k := k) with e | e
  · rw [e]; exact .inl rfl
  · exact hf _ h _ e
theorem St.allF_set {w : World} {M : List HP} {F : List Fact} {fs : Fs} {k : Int} {f : Fl} (h : AllF fs ∈ F) (hf : ArrF f.oa (bytesV f.b) ∈ F) (hw : St w M F) : St w M (AllF (fset fs k f) :: F) := hw.derive fun K ha p hp => by
  rcases fset_mem hp with e | e
  · subst e; exact ha _ hf
  · exact ha _ h p e
theorem St.allF_del {w : World} {M : List HP} {F : List Fact} {fs : Fs} {k : Int} (h : AllF fs ∈ F) (hw : St w M F) : St w M (AllF (fdel fs k) :: F) := hw.derive fun K ha p hp => ha _ h p (fdel_mem hp)
section
variable {P : Program} {r : Option Nat} {N : Nat} {ops : Array Oper} {rest : List Oper} {Q : Exit → Act → World → Prop} {E : Env} {ds : List Deferred} {M : List HP} {F : List Fact}
variable {d : Nat} {ty : TypeId} {pos : String} {aft : Array Edge} {gd : Option (Nat × Bool)}
theorem PV.lookupF {t k e : TypeId} {x y : Operand} {b : Nat} {n : Int} {fs : Fs} (i : Nat) (ht : tyMap P t k e = true) (hx : evalO E x = some (.map (some b))) (hy : evalO E y = some (I n)) (hn : I64 n) (hi : M[i]? = some (MpB b (fsV fs))) (hz : ∀ w, (zeroValue e).run P w = .ok (flV fl0) w) :
    PV P E M F ⟨some d, .lookup t x y false, ty, pos, aft, gd⟩ (flV (fget fs n)) := PV.cast (fsV_get fs n) (PV.lookup i ht hx hy hn hi hz)
theorem RL.lookupF {t k e : TypeId} {x y : Operand} {b : Nat} {n : Int} {fs : Fs} (i : Nat) (hg : wantedG ops E gd = some true) (ht : tyMap P t k e = true) (hx : evalO E x = some (.map (some b))) (hy : evalO E y = some (I n)) (hn : I64 n) (hi : M[i]? = some (MpB b (fsV fs))) (hz : ∀ w, (zeroValue e).run P w = .ok (flV fl0) w) (hN : Nat.ble (d + 1) N = true)
    (k : RL P r N ops rest Q ((d, flV (fget fs n)) :: E) ds M F) : RL P r N ops (⟨some d, .lookup t x y false, ty, pos, aft, gd⟩ :: rest) Q E ds M F :=
  RL.val rfl hg hN (PV.lookupF i ht hx hy hn hi hz).2 k
end
/-! ### What the operations do -/
def there (n : Int) : Prop := 0 ≤ n ∧ n < 64
instance (n : Int) : Decidable (there n) := by unfold there; infer_instance
def appF (s : Ds) (n : Int) (x : List UInt8) (z : RdX) : Fl := ⟨(fget s.fs n).b ++ x, (fget s.fs n).dur, z.oa, z.c⟩
def appE (s : Ds) (n : Int) (x : List UInt8) : Int := if ¬ there n then 1 else if s.off = true then 22 else if (s.room : Int) - used s.fs < x.length then 21 else if stepB s = true then 0 else 22
def appS (s : Ds) (n : Int) (x : List UInt8) (z : RdX) : Ds := if ¬ there n then s else if s.off = true then s else if (s.room : Int) - used s.fs < x.length then s else stepS { s with fs := setF s.fs n (appF s n x z) }
def syncE (s : Ds) : Int := if s.off = true ∨ stepB s = false then 22 else 0
def syncS (s : Ds) : Ds := if s.off = true then s else if stepB s = false then stepS s else { stepS s with fs := hard (stepS s).fs }
theorem stepB_fs (s : Ds) (fs : Fs) : stepB { s with fs := fs } = stepB s := by
  unfold stepB stepS
  by_cases h : s.armed = true
  · rw [if_pos h, if_pos h, if_pos h, if_pos h]
    by_cases h2 : s.left - 1 < 0
    · rw [if_pos h2, if_pos h2]
    · rw [if_neg h2, if_neg h2]
  · rw [if_neg h, if_neg h]
theorem stepS_fs (s : Ds) : (stepS s).fs = s.fs := by
  unfold stepS; split
  · split <;> rfl
  · rfl
theorem stepS_m (s : Ds) : (stepS s).m = s.m := by
  unfold stepS; split
  · split <;> rfl
  · rfl
theorem stepS_room (s : Ds) : (stepS s).room = s.room := by
  unfold stepS; split
  · split <;> rfl
  · rfl
theorem St.allF_setF {w : World} {M : List HP} {F : List Fact} {fs : Fs} {k : Int} {f : Fl} (h : AllF fs ∈ F) (hf : ArrF f.oa (bytesV f.b) ∈ F) (hw : St w M F) : St w M (AllF (setF fs k f) :: F) := hw.derive fun K ha p hp => by
  unfold setF at hp
  split at hp
  · rcases fset_mem (fdel_mem hp) with e | e
    · subst e; exact ha _ hf
    · exact ha _ h p e
  · rcases fset_mem hp with e | e
    · subst e; exact ha _ hf
    · exact ha _ h p e
theorem fget_each {fs : Fs} (h : OkF fs) (n : Int) : (fget fs n).b.length ≤ (fget fs n).c ∧ (fget fs n).dur ≤ (fget fs n).b.length := by
  rcases fget_in (fs := fs) (k := n) with e | e
  · rw [e]; exact ⟨Nat.le_refl _, Nat.le_refl _⟩
  · exact h.each _ e
theorem fget_used : ∀ (fs : Fs) (n : Int), (fget fs n).b.length ≤ used fs
  | [], _ => Nat.le_refl _
  | p :: l, n => by
    have ih := fget_used l n
    have e : used (p :: l) = p.2.b.length + used l := by unfold used; rw [List.map_cons, List.sum_cons]
    rw [fget, e]
    split <;> omega
theorem St.allF_keep {w : World} {M : List HP} {F : List Fact} {fs : Fs} (hw : St w M F) (h : AllF fs ∈ F) : St w M (AllF fs :: F) := hw.derive fun K hf => hf _ h
section
variable {P : Program} {r : Option Nat} {N : Nat} {ops : Array Oper} {rest : List Oper} {Q : Exit → Act → World → Prop} {E : Env} {ds : List Deferred} {M : List HP} {F : List Fact}
variable {d : Nat} {ty : TypeId} {pos : String} {aft : Array Edge} {gd : Option (Nat × Bool)}
theorem RL.fieldV {T f : Nat} {x : Operand} {v u : Value} (hg : wantedG ops E gd = some true) (hx : evalO E x = some v) (h : ∀ w, (Instr.field T v f).run P w = .ok u w) (hN : Nat.ble (d + 1) N = true) (k : RL P r N ops rest Q ((d, u) :: E) ds M F) : RL P r N ops (⟨some d, .field T x f, ty, pos, aft, gd⟩ :: rest) Q E ds M F :=
  RL.val rfl hg hN (fun ρ hρ w _ => by simp [execOp, hρ _ _ hx, h w]) k
end
def readE (s : Ds) (n : Int) : Int := if ¬ there n then 1 else if s.off = true then 22 else 0
def readB (s : Ds) (n : Int) : List UInt8 := if ¬ there n then [] else if s.off = true then [] else (fget s.fs n).b
def truncBad (s : Ds) (n k : Int) : Prop := ¬ there n ∨ k < 0 ∨ ((fget s.fs n).b.length : Int) < k
instance (s : Ds) (n k : Int) : Decidable (truncBad s n k) := by unfold truncBad; infer_instance
def truncF (s : Ds) (n : Int) (k : Nat) : Fl := ⟨(fget s.fs n).b.take k, min (fget s.fs n).dur k, cutA (fget s.fs n).oa 0 (fget s.fs n).c 1, (fget s.fs n).c⟩
def truncE (s : Ds) (n k : Int) : Int := if truncBad s n k then 1 else if s.off = true ∨ stepB s = false then 22 else 0
def truncS (s : Ds) (n k : Int) : Ds := if truncBad s n k then s else if s.off = true then s else if stepB s = false then stepS s else { stepS s with fs := setF (stepS s).fs n (truncF s n k.toNat) }
/-- the disk after a log in a calm disk has been opened -/
def openFs (s : Ds) (n : Int) : Fs := hard (if (framesJ 0 (scanJ 0 (fget s.fs n).b)).length < (fget s.fs n).b.length then setF s.fs n (truncF s n (framesJ 0 (scanJ 0 (fget s.fs n).b)).length) else s.fs)
theorem fdel_keys : ∀ (fs : Fs) (n : Int), ((fdel fs n).map Prod.fst).Sublist (fs.map Prod.fst)
  | [], _ => .slnil
  | p :: l, n => by
    rw [fdel]
    split
    · exact List.sublist_cons_self _ _
    · exact (fdel_keys l n).cons_cons _
theorem fset_keys : ∀ {fs : Fs} {n : Int} {f : Fl}, (fs.map Prod.fst).Nodup → ((fset fs n f).map Prod.fst).Nodup
  | [], n, f, _ => by simp [fset]
  | p :: l, n, f, h => by
    rw [List.map_cons, List.nodup_cons] at h
    rw [fset]
    split
    · rename_i e; rw [List.map_cons, List.nodup_cons]; exact ⟨by rw [← e]; exact h.1, h.2⟩
    · rename_i e
      rw [List.map_cons, List.nodup_cons]
      refine ⟨fun hm => ?_, fset_keys h.2⟩
      obtain ⟨q, hq, e2⟩ := List.mem_map.1 hm
      rcases fset_mem hq with e3 | e3
      · subst e3; exact e e2.symm
      · exact h.1 (e2 ▸ List.mem_map_of_mem (f := Prod.fst) e3)
theorem OkF.setF {fs : Fs} {n : Int} {f : Fl} (h : OkF fs) (hn : there n) (hf : f.b.length ≤ f.c ∧ f.dur ≤ f.b.length) : OkF (setF fs n f) := by
  unfold Go.GL.setF
  split
  · rename_i h0
    have hm : ∀ p, p ∈ fdel (fset fs n f) n → p ∈ fs := by
      intro p hp
      have hk := fset_keys (f := f) (n := n) h.keys
      rcases fset_mem (fdel_mem hp) with e | e
      · exfalso
        have : ∀ (l : Fs), (l.map Prod.fst).Nodup → ∀ q, q ∈ fdel l n → q.1 ≠ n := by
          intro l
          induction l with
          | nil => intro _ q hq; simp [fdel] at hq
          | cons a l ih =>
            intro hn2 q hq
            rw [List.map_cons, List.nodup_cons] at hn2
            rw [fdel] at hq
            split at hq
            · rename_i e2
              intro e3; exact hn2.1 (by rw [e2, ← e3]; exact List.mem_map_of_mem (f := Prod.fst) hq)
            · rename_i e2
              rcases List.mem_cons.1 hq with e3 | e3
              · rw [e3]; exact e2
              · exact ih hn2.2 q e3
        exact this _ hk p hp (by rw [e])
      · exact e
    exact ⟨(fset_keys h.keys).sublist (fdel_keys _ _), fun p hp => h.fits p (hm p hp), fun p hp => h.each p (hm p hp), fun p hp => h.some p (hm p hp)⟩
  · rename_i h0
    refine ⟨fset_keys h.keys, fun p hp => ?_, fun p hp => ?_, fun p hp => ?_⟩
    · rcases fset_mem hp with e | e
      · rw [e]; exact hn
      · exact h.fits p e
    · rcases fset_mem hp with e | e
      · rw [e]; exact hf
      · exact h.each p e
    · rcases fset_mem hp with e | e
      · rw [e]; intro e2; exact h0 (by show f.b.length = 0; rw [show f.b = [] from e2]; rfl)
      · exact h.some p e
theorem OkF.hard {fs : Fs} (h : OkF fs) : OkF (hard fs) := by
  have hk : (Go.GL.hard fs).map Prod.fst = fs.map Prod.fst := by unfold Go.GL.hard; rw [List.map_map]; rfl
  refine ⟨by rw [hk]; exact h.keys, fun p hp => ?_, fun p hp => ?_, fun p hp => ?_⟩ <;> obtain ⟨q, hq, rfl⟩ := List.mem_map.1 hp
  · exact h.fits q hq
  · exact ⟨(h.each q hq).1, Nat.le_refl _⟩
  · exact h.some q hq
theorem OkF.nil : OkF [] := ⟨List.nodup_nil, fun _ h => absurd h (by simp), fun _ h => absurd h (by simp), fun _ h => absurd h (by simp)⟩
theorem fget_set : ∀ (fs : Fs) (n : Int) (f : Fl), fget (fset fs n f) n = f
  | [], n, f => by simp [fset, fget]
  | p :: l, n, f => by
    rw [fset]
    split
    · rw [fget, if_pos rfl]
    · rename_i e; rw [fget, if_neg e, fget_set l n f]
theorem fget_other : ∀ (fs : Fs) (n k : Int) (f : Fl), k ≠ n → fget (fset fs n f) k = fget fs k
  | [], n, k, f, h => by show (if n = k then f else fl0) = fl0; rw [if_neg (fun e => h e.symm)]
  | p :: l, n, k, f, h => by
    rw [fset]
    split
    · rename_i e; rw [fget, fget, if_neg (fun e2 => h e2.symm), if_neg (fun e2 => h (by rw [← e2, e]))]
    · rw [fget, fget]
      split
      · rfl
      · exact fget_other l n k f h
theorem fget_hard : ∀ (fs : Fs) (n : Int), fget (hard fs) n = hardF (fget fs n)
  | [], n => rfl
  | p :: l, n => by
    show (if p.1 = n then hardF p.2 else fget (hard l) n) = _
    rw [fget]
    split
    · rfl
    · exact fget_hard l n
theorem used_hard (fs : Fs) : used (hard fs) = used fs := by unfold used hard; rw [List.map_map]; rfl
theorem used_set : ∀ (fs : Fs) (n : Int) (f : Fl), used (fset fs n f) + (fget fs n).b.length = used fs + f.b.length
  | [], n, f => by simp [used, fset, fget, fl0]
  | p :: l, n, f => by
    have e : ∀ (q : Int × Fl) (l : Fs), used (q :: l) = q.2.b.length + used l := fun q l => by unfold used; rw [List.map_cons, List.sum_cons]
    rw [fset, fget]
    split
    · rw [e, e]; show f.b.length + used l + p.2.b.length = _; omega
    · rw [e, e]; have := used_set l n f; omega
theorem NX.ret3 {N : Nat} {P : Program} {E : Env} {M : List HP} {F : List Fact} {fn : Func} {t u x : Nat} {v v' v'' : Value} {ι : Type} {val : ι → Value} {M' : ι → List HP} {F' : ι → List Fact} (i : ι) (hr : fn.results = #[.tmp t, .tmp u, .tmp x]) (ht : look E t = some v) (hu : look E u = some v') (hx : look E x = some v'') (hv : .tuple #[v, v', v''] = val i) (hS : ∀ w, St w M F → St w (M' i) (F' i)) :
    NX N .ret (bodyPost P fn (Post val M' F')) E [] M F := fun a w ha hw => by
  refine ⟨ha.defers, .tuple #[v, v', v''], ?_, i, by rw [hv], hS w hw⟩
  simp [results, hr, ha.get t v ht, ha.get u v' hu, ha.get x v'' hx]
/-! ### A log -/
structure Lg where
  f : Int
  n : Nat
  dn : Bool
def lgC (b : Nat) (g : Lg) : List Value := [.pointer (some ⟨b, 0, none⟩), I g.f, I g.n, .bool g.dn]
def lgFr (g : Lg) (x : List UInt8) : List UInt8 := frameJ (g.n : Int) x
def lgE (s : Ds) (g : Lg) (x : List UInt8) (z : RdX) : Int := if (65536 : Int) < x.length then 4 else if g.dn = true then 22 else if appE s g.f (lgFr g x) ≠ 0 then appE s g.f (lgFr g x) else syncE (appS s g.f (lgFr g x) z)
def lgS (s : Ds) (g : Lg) (x : List UInt8) (z : RdX) : Ds := if (65536 : Int) < x.length then s else if g.dn = true then s else if appE s g.f (lgFr g x) ≠ 0 then appS s g.f (lgFr g x) z else syncS (appS s g.f (lgFr g x) z)
def lgN (g : Lg) (e : Int) : Lg := { g with n := if e = 0 then g.n + 1 else g.n, dn := decide (e = 22) }
def lgG (s : Ds) (g : Lg) (x : List UInt8) (z : RdX) : Lg := if (65536 : Int) < x.length then g else lgN g (lgE s g x z)
theorem appS_ok {s : Ds} {n : Int} {x : List UInt8} {z : RdX} (h : OkF s.fs) (hz : ((fget s.fs n).b ++ x).length ≤ z.c) : OkF (appS s n x z).fs := by
  unfold appS
  split
  · exact h
  · rename_i h1
    split
    · exact h
    · split
      · exact h
      · rw [stepS_fs]
        exact OkF.setF h (Decidable.not_not.1 h1) ⟨hz, by have := (fget_each h n).2; show (fget s.fs n).dur ≤ ((fget s.fs n).b ++ x).length; rw [List.length_append]; omega⟩
theorem stepS_left (s : Ds) : (stepS s).left = s.left ∨ (stepS s).left = s.left - 1 := by
  unfold stepS; split
  · split
    · exact .inr rfl
    · exact .inr rfl
  · exact .inl rfl
theorem appS_left (s : Ds) (n : Int) (x : List UInt8) (z : RdX) : (appS s n x z).left = s.left ∨ (appS s n x z).left = s.left - 1 := by
  unfold appS
  split
  · exact .inl rfl
  · split
    · exact .inl rfl
    · split
      · exact .inl rfl
      · exact stepS_left _
theorem syncS_fs (s : Ds) : (syncS s).fs = s.fs ∨ (syncS s).fs = hard s.fs := by
  unfold syncS
  split
  · exact .inl rfl
  · split
    · exact .inl (stepS_fs s)
    · exact .inr (by show hard (stepS s).fs = _; rw [stepS_fs])
theorem St.allF_sync {w : World} {M : List HP} {F : List Fact} {s : Ds} (h : AllF s.fs ∈ F) (hw : St w M F) : St w M (AllF (syncS s).fs :: F) := by
  rcases syncS_fs s with e | e
  · exact hw.derive (fun K hf => by rw [e]; exact hf _ h)
  · rw [e]; exact hw.hardF h
theorem lgE_far {s : Ds} {g : Lg} {x : List UInt8} {z : RdX} (h : (65536 : Int) < x.length) : lgE s g x z = 4 ∧ lgS s g x z = s ∧ lgG s g x z = g := by
  refine ⟨?_, ?_, ?_⟩
  · unfold lgE; rw [if_pos h]
  · unfold lgS; rw [if_pos h]
  · unfold lgG; rw [if_pos h]
theorem lgE_dn {s : Ds} {g : Lg} {x : List UInt8} {z : RdX} (h : ¬ (65536 : Int) < x.length) (hd : g.dn = true) : lgE s g x z = 22 ∧ lgS s g x z = s ∧ lgG s g x z = lgN g 22 := by
  have h1 : lgE s g x z = 22 := by unfold lgE; rw [if_neg h, if_pos hd]
  refine ⟨h1, ?_, ?_⟩
  · unfold lgS; rw [if_neg h, if_pos hd]
  · unfold lgG; rw [if_neg h, h1]
theorem lgE_app {s : Ds} {g : Lg} {x : List UInt8} {z : RdX} (h : ¬ (65536 : Int) < x.length) (hd : ¬ g.dn = true) (ha : appE s g.f (lgFr g x) ≠ 0) : lgE s g x z = appE s g.f (lgFr g x) ∧ lgS s g x z = appS s g.f (lgFr g x) z ∧ lgG s g x z = lgN g (appE s g.f (lgFr g x)) := by
  have h1 : lgE s g x z = appE s g.f (lgFr g x) := by unfold lgE; rw [if_neg h, if_neg hd, if_pos ha]
  refine ⟨h1, ?_, ?_⟩
  · unfold lgS; rw [if_neg h, if_neg hd, if_pos ha]
  · unfold lgG; rw [if_neg h, h1]
theorem lgE_sync {s : Ds} {g : Lg} {x : List UInt8} {z : RdX} (h : ¬ (65536 : Int) < x.length) (hd : ¬ g.dn = true) (ha : ¬ appE s g.f (lgFr g x) ≠ 0) : lgE s g x z = syncE (appS s g.f (lgFr g x) z) ∧ lgS s g x z = syncS (appS s g.f (lgFr g x) z) ∧ lgG s g x z = lgN g (syncE (appS s g.f (lgFr g x) z)) := by
  have h1 : lgE s g x z = syncE (appS s g.f (lgFr g x) z) := by unfold lgE; rw [if_neg h, if_neg hd, if_neg ha]
  refine ⟨h1, ?_, ?_⟩
  · unfold lgS; rw [if_neg h, if_neg hd, if_neg ha]
  · unfold lgG; rw [if_neg h, h1]
/-! ### CalmD disks: on, and no failure planned -/
structure CalmD (s : Ds) : Prop where
  off : s.off = false
  armed : s.armed = false
theorem CalmD.step {s : Ds} (h : CalmD s) : stepS s = s ∧ stepB s = true := by
  constructor
  · unfold stepS; rw [if_neg (by rw [h.armed]; simp)]
  · unfold stepB; rw [if_neg (by rw [h.armed]; simp)]
theorem CalmD.sync {s : Ds} (h : CalmD s) : syncE s = 0 ∧ syncS s = { s with fs := hard s.fs } := by
  have h1 : ¬ s.off = true := by rw [h.off]; simp
  have h2 : ¬ stepB s = false := by rw [h.step.2]; simp
  constructor
  · unfold syncE; rw [if_neg (fun e => e.elim h1 h2)]
  · unfold syncS; rw [if_neg h1, if_neg h2, h.step.1]
theorem CalmD.trunc {s : Ds} {n : Int} {k : Nat} (h : CalmD s) (hb : ¬ truncBad s n k) : truncE s n k = 0 ∧ truncS s n k = { s with fs := setF s.fs n (truncF s n k) } := by
  have h1 : ¬ s.off = true := by rw [h.off]; simp
  have h2 : ¬ stepB s = false := by rw [h.step.2]; simp
  constructor
  · unfold truncE; rw [if_neg hb, if_neg (fun e => e.elim h1 h2)]
  · unfold truncS; rw [if_neg hb, if_neg h1, if_neg h2, h.step.1, Int.toNat_natCast]
theorem CalmD.read {s : Ds} {n : Int} (h : CalmD s) (hn : there n) : readE s n = 0 ∧ readB s n = (fget s.fs n).b := by
  have h1 : ¬ s.off = true := by rw [h.off]; simp
  constructor
  · unfold readE; rw [if_neg (show ¬ ¬ there n from fun e => e hn), if_neg h1]
  · unfold readB; rw [if_neg (show ¬ ¬ there n from fun e => e hn), if_neg h1]
theorem truncF_ok {s : Ds} (h : OkF s.fs) (n : Int) (k : Nat) : (truncF s n k).b.length ≤ (truncF s n k).c ∧ (truncF s n k).dur ≤ (truncF s n k).b.length := by
  have := fget_each h n
  show ((fget s.fs n).b.take k).length ≤ (fget s.fs n).c ∧ min (fget s.fs n).dur k ≤ ((fget s.fs n).b.take k).length
  rw [List.length_take]; omega
theorem scan_le {b : List UInt8} : (framesJ 0 (scanJ 0 b)).length ≤ b.length := by
  obtain ⟨r, hr⟩ := scanJ_split b.length b 0 (Nat.le_refl _)
  have := congrArg List.length hr
  rw [List.length_append] at this; omega
end Go.GL

namespace Go.Proofs.Ytdlpaojkkekdlaa
open Go.GL
set_option linter.unusedVariables false
theorem xa_bv101_0_1 (x0 : Option Addr) (x0n x0c : Nat) (x1 : Int) : BuildV Try.prog 101 [(0, .slice x0 x0n x0c), (1, .int .i64 x1)] (.agg #[.slice x0 x0n x0c, .int .i64 x1]) := fun w => by kernel_rfl
theorem xa_ta101 : tyAgg Try.prog 101 2 = true := by kernel_rfl
theorem xa_tf101_0 : fieldOff Try.prog 101 0 0 = true := by kernel_rfl
theorem xa_tf92_0 : fieldOff Try.prog 92 0 0 = true := by kernel_rfl
theorem xa_tf92_2 : fieldOff Try.prog 92 2 2 = true := by kernel_rfl
theorem xa_tf92_3 : fieldOff Try.prog 92 3 3 = true := by kernel_rfl
theorem xa_tf92_4 : fieldOff Try.prog 92 4 4 = true := by kernel_rfl
theorem xa_tl23 : tySlice Try.prog 23 5 = true := by kernel_rfl
theorem xa_tm90 : tyMap Try.prog 90 3 101 = true := by kernel_rfl
theorem xa_ts23 : tyScalar Try.prog 23 = true := by kernel_rfl
theorem xa_ts3 : tyScalar Try.prog 3 = true := by kernel_rfl
theorem xa_ts4 : tyScalar Try.prog 4 = true := by kernel_rfl
theorem xa_ts90 : tyScalar Try.prog 90 = true := by kernel_rfl
theorem xa_tz101 : tySize Try.prog 101 2 = true := by kernel_rfl
theorem exists_spec {n : Int} {M : List HP} {F : List Fact} : Ctr Try.prog 71 [I n] M F Unit (fun _ => .bool (decide (0 ≤ n ∧ n < 64))) (fun _ => M) (fun _ => F) := by
  refine Ctr.body Try.func71 rfl rfl ?_
  refine TR.seq ?_
  refine TR.region ?_
  refine RL.assign rfl rfl rfl ?_
  refine RL.nil ?_
  refine NX.seq ?_
  refine TR.seq ?_
  refine TR.region ?_
  refine RL.move rfl rfl rfl ?_
  refine RL.bin rfl rfl rfl BinV.geq rfl ?_
  refine RL.move rfl rfl rfl ?_
  refine RL.part (fun h1 => ?_) (fun h1 => ?_)
  · skip
    refine RL.move rfl rfl rfl ?_
    refine RL.bin rfl rfl rfl BinV.lss rfl ?_
    refine RL.pickT rfl rfl rfl rfl ?_
    refine RL.assign rfl rfl rfl ?_
    refine RL.nil ?_
    refine NX.seq ?_
    refine TR.ret ?_
    refine NX.ret1 () rfl rfl (congrArg Value.bool ?_) (fun w hw => hw)
    rw [decide_eq_decide]; have := of_decide_eq_true h1; omega
  · skip
    refine RL.skip rfl rfl rfl ?_
    refine RL.skip rfl rfl rfl ?_
    refine RL.pickF rfl rfl rfl rfl ?_
    refine RL.assign rfl rfl rfl ?_
    refine RL.nil ?_
    refine NX.seq ?_
    refine TR.ret ?_
    refine NX.ret1 () rfl rfl (congrArg Value.bool ?_) (fun w hw => hw)
    exact (decide_eq_false (by have := of_decide_eq_false h1; omega)).symm

theorem used_spec {b : Nat} {s : Ds} {M : List HP} {F : List Fact} (hok : OkF s.fs) (hu : used s.fs ≤ 4611686018427387904) : Ctr Try.prog 41 [.pointer (some ⟨b, 0, none⟩)] (Box b 92 (dkC s) :: MpB s.m (fsV s.fs) :: M) F Unit (fun _ => I (used s.fs)) (fun _ => Box b 92 (dkC (s)) :: MpB (s).m (fsV (s).fs) :: M) (fun _ => F) := by
  refine Ctr.body Try.func41 rfl rfl ?_
  refine TR.seq ?_
  refine TR.region ?_
  refine RL.assign rfl rfl rfl ?_
  refine RL.nil ?_
  refine NX.seq ?_
  refine TR.seq ?_
  refine TR.region ?_
  refine RL.assign rfl rfl rfl ?_
  refine RL.nil ?_
  refine NX.seq ?_
  refine TR.seq ?_
  refine TR.seq ?_
  refine TR.region ?_
  refine RL.move rfl rfl rfl ?_
  refine RL.nilCheck rfl rfl rfl ?_
  refine RL.fieldAddr rfl xa_tf92_0 rfl rfl ?_
  refine RL.load1 0 rfl xa_ts90 rfl rfl rfl rfl ?_
  refine RL.ofGV rfl rfl (GV.range 1 xa_tm90 rfl rfl) (fun q => ?_)
  refine RL.nil ?_
  refine NX.seq ?_
  refine TR.block ?_
  refine TR.loopP (ι := (List Int × Option Int)) (fun x => x.1.Nodup ∧ sumK (fun k => (fget s.fs k).b.length) x.1 ≤ used s.fs) (fun x => [(3, I ((used s.fs : Int) - (sumK (fun k => (fget s.fs k).b.length) x.1 : Nat))), (10, .pointer (some ⟨q, 0, none⟩))]) (fun x => Box b 92 (dkC s) :: RgB s.m q (fsV s.fs) x.1 x.2 :: M) (fun _ => F) (fun x => x.1.length) ⟨(fsV s.fs).map Prod.fst, none⟩ ⟨by rw [fsV_keys]; exact hok.keys, by rw [fsV_keys, used_sumK hok.keys]; exact Nat.le_refl _⟩ ⟨by show some (I 0) = some (I _); rw [fsV_keys, used_sumK hok.keys, Int.sub_self], rfl, trivial⟩ (fun w hw => hw) (fun x hx => ?_)
  refine TR.seq ?_
  refine TR.region ?_
  refine RL.ofGV rfl rfl (GV.next 1 rfl rfl) (fun nx => ?_)
  obtain ⟨_ | nx, hnx⟩ := nx
  · skip
    refine RL.extract rfl rfl rfl rfl ?_
    refine RL.nil ?_
    refine NX.seq ?_
    refine TR.seq ?_
    refine TR.condF rfl ?_
    refine TR.exit ?_
    refine NX.exitThen ?_
    refine NX.exitThen ?_
    refine NX.exitHere ?_
    refine NX.seq ?_
    refine TR.seq ?_
    refine TR.region ?_
    refine RL.move rfl rfl rfl ?_
    refine RL.assign rfl rfl rfl ?_
    refine RL.nil ?_
    refine NX.seq ?_
    refine TR.ret ?_
    have hl : x.1 = [] := hnx
    refine NX.ret1 () rfl rfl ?_ (fun w hw => hw)
    rw [hl]; show I ((used s.fs : Int) - (0 : Nat)) = _; rw [Int.natCast_zero, Int.sub_zero]
  · skip
    refine RL.extract rfl rfl rfl rfl ?_
    refine RL.nil ?_
    refine NX.seq ?_
    refine TR.seq ?_
    refine TR.condT rfl ?_
    refine TR.skip ?_
    refine NX.seq ?_
    refine TR.block ?_
    refine TR.seq ?_
    refine TR.region ?_
    obtain ⟨nk, nv⟩ := nx
    obtain ⟨f, hf, hfv⟩ := fsV_mem hnx.2
    have hfv2 : nv = flV f := hfv
    subst hfv2
    have hsum := sumK_take (g := (fun k => (fget s.fs k).b.length)) (k := nk) hx.1 hnx.1
    have hfl : (fget s.fs nk).b.length = f.b.length := by rw [fget_mem hok.keys hf]
    have hle : sumK (fun k => (fget s.fs k).b.length) x.1 ≤ used s.fs := hx.2
    refine RL.entry 1 rfl rfl rfl hnx.2 rfl ?_
    refine RL.extract rfl rfl rfl rfl ?_
    refine RL.allocA rfl (Try.zeroValue101) rfl (fun b1 => ?_)
    refine RL.storeA 0 rfl rfl rfl rfl xa_tz101 rfl rfl ?_
    refine RL.nil ?_
    refine NX.seq ?_
    refine TR.region ?_
    refine RL.move rfl rfl rfl ?_
    refine RL.fieldAddr rfl xa_tf101_0 rfl rfl ?_
    refine RL.load1 0 rfl xa_ts23 rfl rfl rfl rfl ?_
    refine RL.lenSlice rfl xa_tl23 rfl rfl ?_
    refine RL.bin rfl rfl rfl (BinV.add _ rfl (by omega) (by omega)) rfl ?_
    refine RL.assign rfl rfl rfl ?_
    refine RL.nil ?_
    refine NX.off ?_
    refine NX.roundP (x.1.filter fun y => !decide (y = nk), some nk) ⟨left_nodup hx.1, by show sumK (fun k => (fget s.fs k).b.length) (x.1.filter fun y => !decide (y = nk)) ≤ _; omega⟩ (left_lt hnx.1) ⟨?_, rfl, trivial⟩ (fun w hw => hw.drop 0 rfl)
    show some (I _) = some (I ((used s.fs : Int) - (sumK (fun k => (fget s.fs k).b.length) (x.1.filter fun y => !decide (y = nk)) : Nat)))
    congr 2; omega

theorem step_spec {b : Nat} {s : Ds} {M : List HP} {F : List Fact} (h0 : -9223372036854775807 ≤ s.left ∧ s.left ≤ 9223372036854775807) : Ctr Try.prog 72 [.pointer (some ⟨b, 0, none⟩)] (Box b 92 (dkC s) :: MpB s.m (fsV s.fs) :: M) F Unit (fun _ => .bool (stepB s)) (fun _ => Box b 92 (dkC (stepS s)) :: MpB (stepS s).m (fsV (stepS s).fs) :: M) (fun _ => F) := by
  refine Ctr.body Try.func72 rfl rfl ?_
  refine TR.seq ?_
  refine TR.region ?_
  refine RL.assign rfl rfl rfl ?_
  refine RL.nil ?_
  refine NX.seq ?_
  refine TR.seq ?_
  refine TR.seq ?_
  refine TR.region ?_
  refine RL.move rfl rfl rfl ?_
  refine RL.nilCheck rfl rfl rfl ?_
  refine RL.fieldAddr rfl xa_tf92_3 rfl rfl ?_
  refine RL.load1 0 rfl xa_ts4 rfl rfl rfl rfl ?_
  refine RL.not rfl rfl rfl ?_
  refine RL.nil ?_
  refine NX.seq ?_
  refine TR.cond rfl (fun h1 => ?_) (fun h1 => ?_)
  · skip
    refine TR.seq ?_
    refine TR.region ?_
    refine RL.assign rfl rfl rfl ?_
    refine RL.nil ?_
    refine NX.seq ?_
    refine TR.ret ?_
    refine NX.retThen ?_
    have ha : s.armed = false := by simpa using h1
    refine NX.ret1 () rfl rfl (by unfold stepB; rw [if_neg (by rw [ha]; simp)]) (fun w hw => ?_)
    rw [show stepS s = s from by unfold stepS; rw [if_neg (by rw [ha]; simp)]]
    exact hw
  · skip
    refine TR.skip ?_
    refine NX.seq ?_
    refine TR.seq ?_
    refine TR.region ?_
    refine RL.move rfl rfl rfl ?_
    refine RL.nilCheck rfl rfl rfl ?_
    refine RL.fieldAddr rfl xa_tf92_4 rfl rfl ?_
    refine RL.load1 0 rfl xa_ts3 rfl rfl rfl rfl ?_
    refine RL.bin rfl rfl rfl (BinV.sub _ rfl (by omega) (by omega)) rfl ?_
    refine RL.nilCheck rfl rfl rfl ?_
    refine RL.fieldAddr rfl xa_tf92_4 rfl rfl ?_
    refine RL.store1 0 rfl xa_ts3 rfl rfl rfl rfl rfl ?_
    refine RL.nil ?_
    refine NX.seq ?_
    refine TR.seq ?_
    refine TR.seq ?_
    refine TR.region ?_
    refine RL.move rfl rfl rfl ?_
    refine RL.nilCheck rfl rfl rfl ?_
    refine RL.fieldAddr rfl xa_tf92_4 rfl rfl ?_
    refine RL.load1 0 rfl xa_ts3 rfl rfl rfl rfl ?_
    refine RL.bin rfl rfl rfl BinV.lss rfl ?_
    refine RL.nil ?_
    refine NX.seq ?_
    refine TR.cond rfl (fun h2 => ?_) (fun h2 => ?_)
    · skip
      refine TR.region ?_
      refine RL.move rfl rfl rfl ?_
      refine RL.move rfl rfl rfl ?_
      refine RL.nilCheck rfl rfl rfl ?_
      refine RL.fieldAddr rfl xa_tf92_2 rfl rfl ?_
      refine RL.store1 0 rfl xa_ts4 rfl rfl rfl rfl rfl ?_
      refine RL.nilCheck rfl rfl rfl ?_
      refine RL.fieldAddr rfl xa_tf92_3 rfl rfl ?_
      refine RL.store1 0 rfl xa_ts4 rfl rfl rfl rfl rfl ?_
      refine RL.nil ?_
      refine NX.seq ?_
      refine TR.seq ?_
      refine TR.region ?_
      refine RL.move rfl rfl rfl ?_
      refine RL.nilCheck rfl rfl rfl ?_
      refine RL.fieldAddr rfl xa_tf92_2 rfl rfl ?_
      refine RL.load1 0 rfl xa_ts4 rfl rfl rfl rfl ?_
      refine RL.not rfl rfl rfl ?_
      refine RL.assign rfl rfl rfl ?_
      refine RL.nil ?_
      refine NX.seq ?_
      refine TR.ret ?_
      have ha : s.armed = true := by simpa using h1
      have hl : s.left - 1 < 0 := of_decide_eq_true h2
      have hs : stepS s = { s with left := s.left - 1, off := true, armed := false } := by unfold stepS; rw [if_pos ha, if_pos hl]
      refine NX.ret1 () rfl rfl (by unfold stepB; rw [if_pos ha, hs]) (fun w hw => ?_)
      rw [hs]
      exact hw
    · skip
      refine TR.skip ?_
      refine NX.seq ?_
      refine TR.seq ?_
      refine TR.region ?_
      refine RL.move rfl rfl rfl ?_
      refine RL.nilCheck rfl rfl rfl ?_
      refine RL.fieldAddr rfl xa_tf92_2 rfl rfl ?_
      refine RL.load1 0 rfl xa_ts4 rfl rfl rfl rfl ?_
      refine RL.not rfl rfl rfl ?_
      refine RL.assign rfl rfl rfl ?_
      refine RL.nil ?_
      refine NX.seq ?_
      refine TR.ret ?_
      have ha : s.armed = true := by simpa using h1
      have hl : ¬ s.left - 1 < 0 := of_decide_eq_false h2
      have hs : stepS s = { s with left := s.left - 1 } := by unfold stepS; rw [if_pos ha, if_neg hl]
      refine NX.ret1 () rfl rfl (by unfold stepB; rw [if_pos ha, hs]) (fun w hw => ?_)
      rw [hs]
      exact hw

theorem set_spec {n : Int} {f : Fl} {b : Nat} {s : Ds} {M : List HP} {F : List Fact} (hn : I64 n) : Ctr Try.prog 63 [.pointer (some ⟨b, 0, none⟩), I n, flV f] (Box b 92 (dkC s) :: MpB s.m (fsV s.fs) :: M) F Unit (fun _ => .tuple #[]) (fun _ => Box b 92 (dkC ({ s with fs := setF s.fs n f })) :: MpB ({ s with fs := setF s.fs n f }).m (fsV ({ s with fs := setF s.fs n f }).fs) :: M) (fun _ => F) := by
  refine Ctr.body Try.func63 rfl rfl ?_
  refine TR.seq ?_
  refine TR.region ?_
  refine RL.boxA rfl rfl rfl (fun b1 => ?_)
  refine RL.nil ?_
  refine NX.seq ?_
  refine TR.seq ?_
  refine TR.sub (E' := [(0, _), (1, _), (5, _)]) ⟨rfl, rfl, rfl, trivial⟩ ?_
  refine TR.draw mixed ?_
  apply AR.more [(0, _), (1, _), (2, _), (3, _), (4, _), (5, _)]
  refine AR.eff [0, 1, 2, 3, 4, 5] 6 [0, 1, 2, 3, 4, 5, 6] ⟨QOne.yes rfl rfl rfl (PV.move rfl), QOne.yes rfl rfl rfl (PV.nilCheck rfl), QOne.yes rfl rfl rfl (PV.fieldAddr xa_tf92_0 rfl), QOne.yes rfl rfl rfl (PV.load1 1 xa_ts90 rfl rfl rfl), QOne.yes rfl rfl rfl (PV.move rfl), QOne.yes rfl rfl rfl (PV.loadA 0 rfl rfl xa_ta101), trivial⟩ rfl rfl rfl rfl rfl rfl rfl (EV.mapUpdate 2 xa_tm90 rfl rfl rfl hn rfl) (fun _ => ?_)
  refine AR.done [3, 4, 5, 0, 1, 2] rfl ?_
  refine AR.last [] [0, 1, 2, 3, 4, 5, 6] trivial rfl rfl rfl ?_
  refine NX.sub (E' := [(0, _), (1, _), (5, _)]) ⟨rfl, rfl, rfl, trivial⟩ ?_
  refine NX.seq ?_
  refine TR.seq ?_
  refine TR.region ?_
  refine RL.fieldAddr rfl xa_tf101_0 rfl rfl ?_
  refine RL.load1 0 rfl xa_ts23 rfl rfl rfl rfl ?_
  refine RL.lenSlice rfl xa_tl23 rfl rfl ?_
  refine RL.bin rfl rfl rfl BinV.eql rfl ?_
  refine RL.nil ?_
  refine NX.seq ?_
  refine TR.cond rfl (fun h2 => ?_) (fun h2 => ?_)
  · skip
    have he := of_decide_eq_true h2
    refine TR.region ?_
    refine RL.move rfl rfl rfl ?_
    refine RL.nilCheck rfl rfl rfl ?_
    refine RL.fieldAddr rfl xa_tf92_0 rfl rfl ?_
    refine RL.load1 1 rfl xa_ts90 rfl rfl rfl rfl ?_
    refine RL.move rfl rfl rfl ?_
    refine RL.ofEV rfl rfl (EV.delete 2 xa_tm90 rfl rfl hn rfl) ?_
    refine RL.nil ?_
    refine NX.end0 () rfl rfl (fun w hw => ?_)
    have h9 : St w (Box b 92 (dkC s) :: MpB s.m (kvDel (kvSet (fsV s.fs) n (flV f)) n) :: M) F := hw.drop 0 rfl
    rw [fsV_set, fsV_del] at h9
    rw [show setF s.fs n f = fdel (fset s.fs n f) n from by unfold setF; rw [if_pos (by omega)]]
    exact h9
  · skip
    have he := of_decide_eq_false h2
    refine TR.skip ?_
    refine NX.end0 () rfl rfl (fun w hw => ?_)
    have h9 : St w (Box b 92 (dkC s) :: MpB s.m (kvSet (fsV s.fs) n (flV f)) :: M) F := hw.drop 0 rfl
    rw [fsV_set] at h9
    rw [show setF s.fs n f = fset s.fs n f from by unfold setF; rw [if_neg (by omega)]]
    exact h9

theorem harden_spec {b : Nat} {s : Ds} {M : List HP} {F : List Fact} (hok : OkF s.fs) : Ctr Try.prog 64 [.pointer (some ⟨b, 0, none⟩)] (Box b 92 (dkC s) :: MpB s.m (fsV s.fs) :: M) F Unit (fun _ => .tuple #[]) (fun _ => Box b 92 (dkC ({ s with fs := hard s.fs })) :: MpB ({ s with fs := hard s.fs }).m (fsV ({ s with fs := hard s.fs }).fs) :: M) (fun _ => F) := by
  refine Ctr.body Try.func64 rfl rfl ?_
  refine TR.seq ?_
  refine TR.region ?_
  refine RL.move rfl rfl rfl ?_
  refine RL.nilCheck rfl rfl rfl ?_
  refine RL.fieldAddr rfl xa_tf92_0 rfl rfl ?_
  refine RL.load1 0 rfl xa_ts90 rfl rfl rfl rfl ?_
  refine RL.ofGV rfl rfl (GV.range 1 xa_tm90 rfl rfl) (fun q => ?_)
  refine RL.nil ?_
  refine NX.seq ?_
  refine TR.block ?_
  refine TR.loopP (ι := (List Int × Option Int)) (fun x => x.1.Nodup ∧ True) (fun x => [(0, .pointer (some ⟨b, 0, none⟩)), (8, .pointer (some ⟨q, 0, none⟩))]) (fun x => Box b 92 (dkC s) :: RgB s.m q (fsV (hardBut s.fs x.1)) x.1 x.2 :: M) (fun _ => F) (fun x => x.1.length) ⟨(fsV s.fs).map Prod.fst, none⟩ ⟨by rw [fsV_keys]; exact hok.keys, trivial⟩ ⟨rfl, rfl, trivial⟩ (fun w hw => (by rw [fsV_keys, hardBut_all]; rw [fsV_keys] at hw; exact hw)) (fun x hx => ?_)
  refine TR.seq ?_
  refine TR.region ?_
  refine RL.ofGV rfl rfl (GV.next 1 rfl rfl) (fun nx => ?_)
  obtain ⟨_ | nx, hnx⟩ := nx
  · skip
    refine RL.extract rfl rfl rfl rfl ?_
    refine RL.nil ?_
    refine NX.seq ?_
    refine TR.seq ?_
    refine TR.condF rfl ?_
    refine TR.exit ?_
    refine NX.exitThen ?_
    refine NX.exitThen ?_
    refine NX.exitHere ?_
    have hl : x.1 = [] := hnx
    refine NX.end0 () rfl rfl (fun w hw => ?_)
    have h9 : St w (Box b 92 (dkC s) :: MpB s.m (fsV (hardBut s.fs x.1)) :: M) F := hw
    rw [hl, hardBut_none] at h9
    exact h9
  · skip
    refine RL.extract rfl rfl rfl rfl ?_
    refine RL.nil ?_
    refine NX.seq ?_
    refine TR.seq ?_
    refine TR.condT rfl ?_
    refine TR.skip ?_
    refine NX.seq ?_
    refine TR.block ?_
    refine TR.seq ?_
    refine TR.region ?_
    obtain ⟨nk, nv⟩ := nx
    obtain ⟨f, hf0, hfv⟩ := fsV_mem hnx.2
    have hfv2 : nv = flV f := hfv
    subst hfv2
    have hf : (nk, f) ∈ s.fs := hardBut_left hf0 hnx.1
    have hnk : I64 nk := by have := hok.fits _ hf; exact ⟨by omega, by omega⟩
    refine RL.entry 1 rfl rfl rfl hnx.2 rfl ?_
    refine RL.extract rfl rfl rfl rfl ?_
    refine RL.extract rfl rfl rfl rfl ?_
    refine RL.allocA rfl (Try.zeroValue101) rfl (fun b1 => ?_)
    refine RL.assign rfl rfl rfl ?_
    refine RL.storeA 0 rfl rfl rfl rfl xa_tz101 rfl rfl ?_
    refine RL.nil ?_
    refine NX.seq ?_
    refine TR.sub (E' := [(0, _), (2, _), (3, _), (8, _), (9, _), (10, _), (11, _), (12, _), (13, _)]) ⟨rfl, rfl, rfl, rfl, rfl, rfl, rfl, rfl, rfl, trivial⟩ ?_
    refine TR.draw mixed ?_
    apply AR.more [(0, _), (1, _), (2, _), (3, _), (4, _), (5, _), (6, _), (7, _), (8, _), (9, _), (10, _)]
    refine AR.eff [0, 1, 2, 3, 4, 5, 6, 7, 8, 9, 10] 11 [0, 1, 2, 3, 4, 5, 6, 7, 8, 9, 10, 11] ⟨QOne.yes rfl rfl rfl (PV.move rfl), QOne.yes rfl rfl rfl (PV.nilCheck rfl), QOne.yes rfl rfl rfl (PV.fieldAddr xa_tf92_0 rfl), QOne.yes rfl rfl rfl (PV.load1 1 xa_ts90 rfl rfl rfl), QOne.yes rfl rfl rfl (PV.move rfl), QOne.yes rfl rfl rfl (PV.fieldAddr xa_tf101_0 rfl), QOne.yes rfl rfl rfl (PV.load1 0 xa_ts23 rfl rfl rfl), QOne.yes rfl rfl rfl (PV.fieldAddr xa_tf101_0 rfl), QOne.yes rfl rfl rfl (PV.load1 0 xa_ts23 rfl rfl rfl), QOne.yes rfl rfl rfl (PV.lenSlice xa_tl23 rfl), QOne.yes rfl rfl rfl (PV.build rfl (xa_bv101_0_1 _ _ _ _)), trivial⟩ rfl rfl rfl rfl rfl rfl rfl (EV.rangeUpdate 2 xa_tm90 rfl rfl rfl hnk rfl (hardBut_in hf)) (fun _ => ?_)
    refine AR.done [3, 4, 10, 0, 1, 2, 5, 6, 7, 8, 9] rfl ?_
    refine AR.last [] [0, 1, 2, 3, 4, 5, 6, 7, 8, 9, 10, 11] trivial rfl rfl rfl ?_
    refine NX.sub (E' := [(0, _), (2, _), (3, _), (8, _), (9, _), (10, _), (11, _), (12, _), (13, _), (14, _), (15, _), (16, _), (17, _), (18, _), (19, _), (20, _), (21, _), (22, _), (23, _), (24, _)]) ⟨rfl, rfl, rfl, rfl, rfl, rfl, rfl, rfl, rfl, rfl, rfl, rfl, rfl, rfl, rfl, rfl, rfl, rfl, rfl, rfl, trivial⟩ ?_
    refine NX.off ?_
    refine NX.roundP (x.1.filter fun y => !decide (y = nk), none) ⟨left_nodup hx.1, trivial⟩ (left_lt hnx.1) ⟨rfl, rfl, trivial⟩ (fun w hw => ?_)
    have h9 : St w (Box b 92 (dkC s) :: RgB s.m q (kvSet (fsV (hardBut s.fs x.1)) nk (flV (hardF f))) (x.1.filter fun y => !decide (y = nk)) none :: M) F := hw.drop 0 rfl
    rw [fsV_set, hardBut_step hok.keys hf] at h9
    exact h9

end Go.Proofs.Ytdlpaojkkekdlaa

namespace Go.Proofs.Ytdlpaojkkekdlaa
open Go.GL
set_option linter.unusedVariables false
theorem xb_bv92_0_1 (x0 : Option Nat) (x1 : Int) : BuildV Try.prog 92 [(0, .map x0), (1, .int .i64 x1)] (.agg #[.map x0, .int .i64 x1, .bool false, .bool false, .int .i64 0]) := fun w => by kernel_rfl
theorem xb_ni23 : noInt Try.prog 23 = true := by kernel_rfl
theorem xb_ta101 : tyAgg Try.prog 101 2 = true := by kernel_rfl
theorem xb_te5 : tyElem Try.prog 5 1 1 = true := by kernel_rfl
theorem xb_tf101_0 : fieldOff Try.prog 101 0 0 = true := by kernel_rfl
theorem xb_tf92_0 : fieldOff Try.prog 92 0 0 = true := by kernel_rfl
theorem xb_tf92_1 : fieldOff Try.prog 92 1 1 = true := by kernel_rfl
theorem xb_tf92_2 : fieldOff Try.prog 92 2 2 = true := by kernel_rfl
theorem xb_tl23 : tySlice Try.prog 23 5 = true := by kernel_rfl
theorem xb_tm90 : tyMap Try.prog 90 3 101 = true := by kernel_rfl
theorem xb_ts23 : tyScalar Try.prog 23 = true := by kernel_rfl
theorem xb_ts3 : tyScalar Try.prog 3 = true := by kernel_rfl
theorem xb_ts4 : tyScalar Try.prog 4 = true := by kernel_rfl
theorem xb_ts90 : tyScalar Try.prog 90 = true := by kernel_rfl
theorem xb_tz101 : tySize Try.prog 101 2 = true := by kernel_rfl
theorem append_spec {n : Int} {x : List UInt8} {ob : Option Addr} {cb : Nat} {b : Nat} {s : Ds} {M : List HP} {F : List Fact} (hok : OkF s.fs) (hA : AllF s.fs ∈ F) (hx : ArrF ob (bytesV x) ∈ F) (hu : used s.fs ≤ s.room) (hrm : s.room ≤ 16777216) (hn0 : I64 n) (h0 : -9223372036854775807 ≤ s.left ∧ s.left ≤ 9223372036854775807) (hxl : x.length ≤ 4398046511104) : Ctr Try.prog 44 [.pointer (some ⟨b, 0, none⟩), I n, .slice ob x.length cb] (Box b 92 (dkC s) :: MpB s.m (fsV s.fs) :: M) F {z : RdX // ((fget s.fs n).b ++ x).length ≤ z.c} (fun _ => I (appE s n x)) (fun z => Box b 92 (dkC (appS s n x z.1)) :: MpB (appS s n x z.1).m (fsV (appS s n x z.1).fs) :: M) (fun z => AllF (appS s n x z.1).fs :: F) := by
  refine Ctr.body Try.func44 rfl rfl ?_
  refine TR.seq ?_
  refine TR.region ?_
  refine RL.assign rfl rfl rfl ?_
  refine RL.nil ?_
  refine NX.seq ?_
  refine TR.seq ?_
  refine TR.block ?_
  refine TR.seq ?_
  refine TR.region ?_
  refine RL.move rfl rfl rfl ?_
  refine RL.call rfl rfl Try.call71 rfl (exists_spec) (fun _ => ?_)
  refine RL.not rfl rfl rfl ?_
  refine RL.assign rfl rfl rfl ?_
  refine RL.nil ?_
  refine NX.seq ?_
  refine TR.cond rfl (fun h1 => ?_) (fun h1 => ?_)
  · skip
    have hth : ¬ there n := by have h9 := h1; simp at h9; unfold there; omega
    refine TR.seq ?_
    refine TR.region ?_
    refine RL.assign rfl rfl rfl ?_
    refine RL.nil ?_
    refine NX.seq ?_
    refine TR.ret ?_
    refine NX.retBlock ?_
    refine NX.retThen ?_
    refine NX.ret1 (⟨⟨none, ((fget s.fs n).b ++ x).length⟩, Nat.le_refl _⟩ : {z : RdX // ((fget s.fs n).b ++ x).length ≤ z.c}) rfl rfl (by unfold appE; rw [if_pos hth]) (fun w hw => ?_)
    rw [show appS s n x ⟨none, ((fget s.fs n).b ++ x).length⟩ = s from by unfold appS; rw [if_pos hth]]
    exact hw.allF_keep hA
  · skip
    have hth : there n := by have h9 := h1; simp at h9; exact h9
    have hn : I64 n := ⟨by have := hth.1; omega, by have := hth.2; omega⟩
    refine TR.seq ?_
    refine TR.region ?_
    refine RL.move rfl rfl rfl ?_
    refine RL.nilCheck rfl rfl rfl ?_
    refine RL.fieldAddr rfl xb_tf92_2 rfl rfl ?_
    refine RL.load1 0 rfl xb_ts4 rfl rfl rfl rfl ?_
    refine RL.assign rfl rfl rfl ?_
    refine RL.nil ?_
    refine NX.seq ?_
    refine TR.cond rfl (fun h2 => ?_) (fun h2 => ?_)
    · skip
      have hoff : s.off = true := h2
      refine TR.seq ?_
      refine TR.region ?_
      refine RL.assign rfl rfl rfl ?_
      refine RL.nil ?_
      refine NX.seq ?_
      refine TR.ret ?_
      refine NX.retBlock ?_
      refine NX.retThen ?_
      refine NX.ret1 (⟨⟨none, ((fget s.fs n).b ++ x).length⟩, Nat.le_refl _⟩ : {z : RdX // ((fget s.fs n).b ++ x).length ≤ z.c}) rfl rfl (by unfold appE; rw [if_neg (fun h => h hth), if_pos hoff]) (fun w hw => ?_)
      rw [show appS s n x ⟨none, ((fget s.fs n).b ++ x).length⟩ = s from by unfold appS; rw [if_neg (fun h => h hth), if_pos hoff]]
      exact hw.allF_keep hA
    · skip
      have hoff : ¬ s.off = true := by have h9 : s.off = false := h2; rw [h9]; simp
      refine TR.seq ?_
      refine TR.sub (E' := [(0, _), (1, _), (2, _), (6, _)]) ⟨rfl, rfl, rfl, rfl, trivial⟩ ?_
      refine TR.draw mixed ?_
      apply AR.more [(0, _), (1, _), (2, _), (3, _), (4, _), (5, _), (6, _)]
      refine AR.eff [0, 1, 2, 3, 4, 5, 6] 7 [0, 1, 2, 3, 4, 5, 6, 7, 8, 9, 10] ⟨QOne.yes rfl rfl rfl (PV.move rfl), QOne.yes rfl rfl rfl (PV.lenSlice xb_tl23 rfl), QOne.yes rfl rfl rfl (PV.move rfl), QOne.yes rfl rfl rfl (PV.nilCheck rfl), QOne.yes rfl rfl rfl (PV.fieldAddr xb_tf92_1 rfl), QOne.yes rfl rfl rfl (PV.load1 0 xb_ts3 rfl rfl rfl), QOne.yes rfl rfl rfl (PV.move rfl), trivial⟩ rfl rfl rfl rfl rfl rfl rfl (EV.call rfl Try.call41 (used_spec hok (by omega))) (fun _ => ?_)
      refine AR.done [6] rfl ?_
      apply AR.more [(8, _), (9, _), (10, _)]
      refine AR.last [0, 1, 2, 3, 4, 5, 8, 9, 10] [0, 1, 2, 3, 4, 5, 6, 7, 8, 9, 10] ⟨QOne.yes rfl rfl rfl (PV.move rfl), QOne.yes rfl rfl rfl (PV.lenSlice xb_tl23 rfl), QOne.yes rfl rfl rfl (PV.move rfl), QOne.yes rfl rfl rfl (PV.nilCheck rfl), QOne.yes rfl rfl rfl (PV.fieldAddr xb_tf92_1 rfl), QOne.yes rfl rfl rfl (PV.load1 0 xb_ts3 rfl rfl rfl), QOne.yes rfl rfl rfl (PV.bin rfl rfl (BinV.sub _ rfl (by omega) (by omega))), QOne.yes rfl rfl rfl (PV.bin rfl rfl BinV.gtr), QOne.yes rfl rfl rfl (PV.assign rfl), trivial⟩ rfl rfl rfl ?_
      refine NX.sub (E' := [(0, _), (1, _), (2, _), (6, _), (17, _)]) ⟨rfl, rfl, rfl, rfl, rfl, trivial⟩ ?_
      skip
      refine NX.seq ?_
      refine TR.cond rfl (fun h3 => ?_) (fun h3 => ?_)
      · skip
        have hfull : (s.room : Int) - used s.fs < x.length := of_decide_eq_true h3
        refine TR.seq ?_
        refine TR.region ?_
        refine RL.assign rfl rfl rfl ?_
        refine RL.nil ?_
        refine NX.seq ?_
        refine TR.ret ?_
        refine NX.retBlock ?_
        refine NX.retThen ?_
        refine NX.ret1 (⟨⟨none, ((fget s.fs n).b ++ x).length⟩, Nat.le_refl _⟩ : {z : RdX // ((fget s.fs n).b ++ x).length ≤ z.c}) rfl rfl (by unfold appE; rw [if_neg (fun h => h hth), if_neg hoff, if_pos hfull]) (fun w hw => ?_)
        rw [show appS s n x ⟨none, ((fget s.fs n).b ++ x).length⟩ = s from by unfold appS; rw [if_neg (fun h => h hth), if_neg hoff, if_pos hfull]]
        exact hw.allF_keep hA
      · skip
        have hfull : ¬ (s.room : Int) - used s.fs < x.length := of_decide_eq_false h3
        have hfu := fget_used s.fs n
        refine TR.skip ?_
        refine NX.off ?_
        refine NX.seq ?_
        refine TR.seq ?_
        refine TR.weak (fun w hw => hw.allF_get (k := n) (by first | exact hA | exact .tail _ hA | exact .tail _ (.tail _ hA) | exact .tail _ (.tail _ (.tail _ hA)) | exact .tail _ (.tail _ (.tail _ (.tail _ hA))) | exact .tail _ (.tail _ (.tail _ (.tail _ (.tail _ hA)))) | exact .tail _ (.tail _ (.tail _ (.tail _ (.tail _ (.tail _ hA))))))) ?_
        refine TR.region ?_
        refine RL.move rfl rfl rfl ?_
        refine RL.nilCheck rfl rfl rfl ?_
        refine RL.fieldAddr rfl xb_tf92_0 rfl rfl ?_
        refine RL.load1 0 rfl xb_ts90 rfl rfl rfl rfl ?_
        refine RL.move rfl rfl rfl ?_
        refine RL.lookupF 1 rfl xb_tm90 rfl rfl hn rfl Try.zeroValue101 rfl ?_
        refine RL.allocA rfl (Try.zeroValue101) rfl (fun b4 => ?_)
        refine RL.storeA 0 rfl rfl rfl rfl xb_tz101 rfl rfl ?_
        refine RL.nil ?_
        refine NX.seq ?_
        refine TR.seq ?_
        refine TR.region ?_
        refine RL.fieldAddr rfl xb_tf101_0 rfl rfl ?_
        refine RL.load1 0 rfl xb_ts23 rfl rfl rfl rfl ?_
        refine RL.call rfl rfl Try.call61 rfl (cloneB_spec (l := (fget s.fs n).b) (rd_fact (.head _)) (by omega)) (fun y => ?_)
        refine RL.move rfl rfl rfl ?_
        refine RL.ofGV rfl rfl (GV.append (j := 0) xb_tl23 xb_ni23 xb_te5 rfl rfl rfl (src_fact (xs := bytesV x) (by first | exact hx | exact .tail _ hx | exact .tail _ (.tail _ hx) | exact .tail _ (.tail _ (.tail _ hx)) | exact .tail _ (.tail _ (.tail _ (.tail _ hx))) | exact .tail _ (.tail _ (.tail _ (.tail _ (.tail _ hx)))) | exact .tail _ (.tail _ (.tail _ (.tail _ (.tail _ (.tail _ hx)))))) (by rw [bytesV_length, Nat.mul_one]) (bytesV_one _)) (by omega) (by omega)) (fun z => ?_)
        refine RL.open1 (fun w hw => ⟨hw.ownLen.2, hw⟩) (fun hzc => ?_)
        refine RL.weak (fun w hw => hw.keepSl) ?_
        refine RL.fieldAddr rfl xb_tf101_0 rfl rfl ?_
        refine RL.store1 0 rfl xb_ts23 rfl rfl rfl rfl rfl ?_
        refine RL.weak (M' := Box b4 101 (flC (appF s n x ⟨z.1, z.2⟩)) :: Box b 92 (dkC s) :: MpB s.m (fsV s.fs) :: M) (F' := ArrF z.1 (bytesV (appF s n x ⟨z.1, z.2⟩).b) :: F) (fun w hw => ?_) ?_
        · show St w (Box _ _ [.slice z.1 ((fget s.fs n).b ++ x).length z.2, I (fget s.fs n).dur] :: _) (ArrF z.1 (bytesV ((fget s.fs n).b ++ x)) :: F)
          rw [List.length_append, bytesV_append]
          exact hw.facts (fun φ h => by rcases List.mem_cons.1 h with e1 | h; exact e1 ▸ .head _; exact .tail _ (.tail _ h))
        refine RL.nil ?_
        refine NX.seq ?_
        refine TR.seq ?_
        refine TR.region ?_
        refine RL.move rfl rfl rfl ?_
        refine RL.move rfl rfl rfl ?_
        refine RL.loadA 0 rfl rfl rfl xb_ta101 rfl ?_
        refine RL.call rfl rfl Try.call63 rfl (Ctr.frame (J := [Box b 92 (dkC s), MpB s.m (fsV s.fs)]) (J' := fun _ => [Box b 92 (dkC ({ s with fs := setF s.fs n (appF s n x ⟨z.1, z.2⟩) })), MpB s.m (fsV ({ s with fs := setF s.fs n (appF s n x ⟨z.1, z.2⟩) }).fs)]) [_] (set_spec (f := appF s n x ⟨z.1, z.2⟩) hn)) (fun _ => ?_)
        refine RL.nil ?_
        refine NX.seq ?_
        refine TR.seq ?_
        refine TR.seq ?_
        refine TR.region ?_
        refine RL.move rfl rfl rfl ?_
        refine RL.call rfl rfl Try.call72 rfl (Ctr.frame (J := [Box b 92 (dkC ({ s with fs := setF s.fs n (appF s n x ⟨z.1, z.2⟩) })), MpB s.m (fsV ({ s with fs := setF s.fs n (appF s n x ⟨z.1, z.2⟩) }).fs)]) (J' := fun _ => [Box b 92 (dkC (stepS { s with fs := setF s.fs n (appF s n x ⟨z.1, z.2⟩) })), MpB (stepS { s with fs := setF s.fs n (appF s n x ⟨z.1, z.2⟩) }).m (fsV (stepS { s with fs := setF s.fs n (appF s n x ⟨z.1, z.2⟩) }).fs)]) [_] (step_spec (s := { s with fs := setF s.fs n (appF s n x ⟨z.1, z.2⟩) }) h0)) (fun _ => ?_)
        refine RL.not rfl rfl rfl ?_
        refine RL.nil ?_
        refine NX.seq ?_
        refine TR.cond rfl (fun h6 => ?_) (fun h6 => ?_)
        · skip
          have hst : ¬ stepB s = true := by rw [← stepB_fs s (setF s.fs n (appF s n x ⟨z.1, z.2⟩))]; simpa using h6
          refine TR.seq ?_
          refine TR.region ?_
          refine RL.assign rfl rfl rfl ?_
          refine RL.nil ?_
          refine NX.seq ?_
          refine TR.ret ?_
          refine NX.retThen ?_
          refine NX.ret1 (⟨⟨z.1, z.2⟩, by rw [List.length_append]; exact hzc⟩ : {z : RdX // ((fget s.fs n).b ++ x).length ≤ z.c}) rfl rfl (by unfold appE; rw [if_neg (fun h => h hth), if_neg hoff, if_neg hfull, if_neg hst]) (fun w hw => ?_)
          rw [show appS s n x ⟨z.1, z.2⟩ = stepS { s with fs := setF s.fs n (appF s n x ⟨z.1, z.2⟩) } from by unfold appS; rw [if_neg (fun h => h hth), if_neg hoff, if_neg hfull]]
          have h8 := (hw.drop 0 rfl).allF_setF (k := n) (f := appF s n x ⟨z.1, z.2⟩) (by first | exact hA | exact .tail _ hA | exact .tail _ (.tail _ hA) | exact .tail _ (.tail _ (.tail _ hA)) | exact .tail _ (.tail _ (.tail _ (.tail _ hA))) | exact .tail _ (.tail _ (.tail _ (.tail _ (.tail _ hA)))) | exact .tail _ (.tail _ (.tail _ (.tail _ (.tail _ (.tail _ hA)))))) (.head _)
          have h7 := h8.derive (ψ := AllF (stepS { s with fs := setF s.fs n (appF s n x ⟨z.1, z.2⟩) }).fs) (fun K hf => by rw [stepS_fs]; exact hf _ (.head _))
          exact h7.facts (fun φ h => by rcases List.mem_cons.1 h with e1 | h; exact e1 ▸ .head _; exact .tail _ (.tail _ (.tail _ h)))
        · skip
          have hst : stepB s = true := by rw [← stepB_fs s (setF s.fs n (appF s n x ⟨z.1, z.2⟩))]; simpa using h6
          refine TR.skip ?_
          refine NX.seq ?_
          refine TR.seq ?_
          refine TR.region ?_
          refine RL.assign rfl rfl rfl ?_
          refine RL.nil ?_
          refine NX.seq ?_
          refine TR.ret ?_
          refine NX.ret1 (⟨⟨z.1, z.2⟩, by rw [List.length_append]; exact hzc⟩ : {z : RdX // ((fget s.fs n).b ++ x).length ≤ z.c}) rfl rfl (by unfold appE; rw [if_neg (fun h => h hth), if_neg hoff, if_neg hfull, if_pos hst]) (fun w hw => ?_)
          rw [show appS s n x ⟨z.1, z.2⟩ = stepS { s with fs := setF s.fs n (appF s n x ⟨z.1, z.2⟩) } from by unfold appS; rw [if_neg (fun h => h hth), if_neg hoff, if_neg hfull]]
          have h8 := (hw.drop 0 rfl).allF_setF (k := n) (f := appF s n x ⟨z.1, z.2⟩) (by first | exact hA | exact .tail _ hA | exact .tail _ (.tail _ hA) | exact .tail _ (.tail _ (.tail _ hA)) | exact .tail _ (.tail _ (.tail _ (.tail _ hA))) | exact .tail _ (.tail _ (.tail _ (.tail _ (.tail _ hA)))) | exact .tail _ (.tail _ (.tail _ (.tail _ (.tail _ (.tail _ hA)))))) (.head _)
          have h7 := h8.derive (ψ := AllF (stepS { s with fs := setF s.fs n (appF s n x ⟨z.1, z.2⟩) }).fs) (fun K hf => by rw [stepS_fs]; exact hf _ (.head _))
          exact h7.facts (fun φ h => by rcases List.mem_cons.1 h with e1 | h; exact e1 ▸ .head _; exact .tail _ (.tail _ (.tail _ h)))

theorem sync_spec {b : Nat} {s : Ds} {M : List HP} {F : List Fact} (hok : OkF s.fs) (h0 : -9223372036854775807 ≤ s.left ∧ s.left ≤ 9223372036854775807) : Ctr Try.prog 54 [.pointer (some ⟨b, 0, none⟩)] (Box b 92 (dkC s) :: MpB s.m (fsV s.fs) :: M) F Unit (fun _ => I (syncE s)) (fun _ => Box b 92 (dkC (syncS s)) :: MpB (syncS s).m (fsV (syncS s).fs) :: M) (fun _ => F) := by
  refine Ctr.body Try.func54 rfl rfl ?_
  refine TR.seq ?_
  refine TR.region ?_
  refine RL.assign rfl rfl rfl ?_
  refine RL.nil ?_
  refine NX.seq ?_
  refine TR.seq ?_
  refine TR.seq ?_
  refine TR.region ?_
  refine RL.move rfl rfl rfl ?_
  refine RL.nilCheck rfl rfl rfl ?_
  refine RL.fieldAddr rfl xb_tf92_2 rfl rfl ?_
  refine RL.load1 0 rfl xb_ts4 rfl rfl rfl rfl ?_
  refine RL.move rfl rfl rfl ?_
  refine RL.part (fun h1 => ?_) (fun h1 => ?_)
  · skip
    have hoff : s.off = true := h1
    refine RL.skip rfl rfl rfl ?_
    refine RL.skip rfl rfl rfl ?_
    refine RL.skip rfl rfl rfl ?_
    refine RL.pickT rfl rfl rfl rfl ?_
    refine RL.nil ?_
    refine NX.seq ?_
    refine TR.condT rfl ?_
    refine TR.seq ?_
    refine TR.region ?_
    refine RL.assign rfl rfl rfl ?_
    refine RL.nil ?_
    refine NX.seq ?_
    refine TR.ret ?_
    refine NX.retThen ?_
    refine NX.ret1 () rfl rfl (by unfold syncE; rw [if_pos (Or.inl hoff)]) (fun w hw => ?_)
    rw [show syncS s = s from by unfold syncS; rw [if_pos hoff]]
    exact hw
  · skip
    have hoff : ¬ s.off = true := by have h9 : s.off = false := h1; rw [h9]; simp
    refine RL.move rfl rfl rfl ?_
    refine RL.call rfl rfl Try.call72 rfl (step_spec (s := s) h0) (fun _ => ?_)
    refine RL.not rfl rfl rfl ?_
    refine RL.pickF rfl rfl rfl rfl ?_
    refine RL.nil ?_
    refine NX.seq ?_
    refine TR.cond rfl (fun h2 => ?_) (fun h2 => ?_)
    · skip
      have hst : stepB s = false := by simpa using h2
      refine TR.seq ?_
      refine TR.region ?_
      refine RL.assign rfl rfl rfl ?_
      refine RL.nil ?_
      refine NX.seq ?_
      refine TR.ret ?_
      refine NX.retThen ?_
      refine NX.ret1 () rfl rfl (by unfold syncE; rw [if_pos (Or.inr hst)]) (fun w hw => ?_)
      rw [show syncS s = stepS s from by unfold syncS; rw [if_neg hoff, if_pos hst]]
      exact hw
    · skip
      have hst : ¬ stepB s = false := by have h9 := h2; simp at h9; rw [h9]; simp
      refine TR.skip ?_
      refine NX.seq ?_
      refine TR.seq ?_
      refine TR.region ?_
      refine RL.move rfl rfl rfl ?_
      refine RL.call rfl rfl Try.call64 rfl (harden_spec (s := stepS s) (by rw [stepS_fs]; exact hok)) (fun _ => ?_)
      refine RL.nil ?_
      refine NX.seq ?_
      refine TR.seq ?_
      refine TR.region ?_
      refine RL.assign rfl rfl rfl ?_
      refine RL.nil ?_
      refine NX.seq ?_
      refine TR.ret ?_
      refine NX.ret1 () rfl rfl (by unfold syncE; rw [if_neg (fun h => h.elim hoff hst)]) (fun w hw => ?_)
      rw [show syncS s = { stepS s with fs := hard (stepS s).fs } from by unfold syncS; rw [if_neg hoff, if_neg hst]]
      exact hw

theorem field0_101 (a : Option Addr) (n c : Nat) (d : Int) : ∀ w, (Instr.field 101 (.agg #[.slice a n c, I d]) 0).run Try.prog w = .ok (.slice a n c) w := fun w => by kernel_rfl

theorem read_dspec {n : Int} {b : Nat} {s : Ds} {M : List HP} {F : List Fact} (hok : OkF s.fs) (hA : AllF s.fs ∈ F) (hu : used s.fs ≤ 70368744177664) (hn0 : I64 n) : Ctr Try.prog 52 [.pointer (some ⟨b, 0, none⟩), I n] (Box b 92 (dkC s) :: MpB s.m (fsV s.fs) :: M) F (Option Addr × Nat) (fun z => .tuple #[.slice z.1 (readB s n).length z.2, I (readE s n)]) (fun z => OwnSl 5 1 z.1 (readB s n).length z.2 (bytesV (readB s n)) :: Box b 92 (dkC (s)) :: MpB (s).m (fsV (s).fs) :: M) (fun _ => F) := by
  refine Ctr.body Try.func52 rfl rfl ?_
  refine TR.seq ?_
  refine TR.region ?_
  refine RL.assign rfl rfl rfl ?_
  refine RL.assign rfl rfl rfl ?_
  refine RL.nil ?_
  refine NX.seq ?_
  refine TR.seq ?_
  refine TR.block ?_
  refine TR.seq ?_
  refine TR.region ?_
  refine RL.move rfl rfl rfl ?_
  refine RL.call rfl rfl Try.call71 rfl (exists_spec) (fun _ => ?_)
  refine RL.not rfl rfl rfl ?_
  refine RL.assign rfl rfl rfl ?_
  refine RL.nil ?_
  refine NX.seq ?_
  refine TR.cond rfl (fun h1 => ?_) (fun h1 => ?_)
  · skip
    have hth : ¬ there n := by have h9 := h1; simp at h9; unfold there; omega
    refine TR.seq ?_
    refine TR.region ?_
    refine RL.assign rfl rfl rfl ?_
    refine RL.assign rfl rfl rfl ?_
    refine RL.nil ?_
    refine NX.seq ?_
    refine TR.ret ?_
    refine NX.retBlock ?_
    refine NX.retThen ?_
    refine NX.ret2x rfl rfl rfl (fun w hw => ⟨(none, 0), ?_, ?_⟩)
    · unfold readE readB; rw [if_pos hth, if_pos hth]; rfl
    · rw [show readB s n = [] from by unfold readB; rw [if_pos hth]]; exact OwnSl.nil_new 5 1 hw
  · skip
    have hth : there n := by have h9 := h1; simp at h9; exact h9
    have hn : I64 n := ⟨by have := hth.1; omega, by have := hth.2; omega⟩
    refine TR.seq ?_
    refine TR.region ?_
    refine RL.move rfl rfl rfl ?_
    refine RL.nilCheck rfl rfl rfl ?_
    refine RL.fieldAddr rfl xb_tf92_2 rfl rfl ?_
    refine RL.load1 0 rfl xb_ts4 rfl rfl rfl rfl ?_
    refine RL.assign rfl rfl rfl ?_
    refine RL.nil ?_
    refine NX.seq ?_
    refine TR.cond rfl (fun h2 => ?_) (fun h2 => ?_)
    · skip
      have hoff : s.off = true := h2
      refine TR.seq ?_
      refine TR.region ?_
      refine RL.assign rfl rfl rfl ?_
      refine RL.assign rfl rfl rfl ?_
      refine RL.nil ?_
      refine NX.seq ?_
      refine TR.ret ?_
      refine NX.retBlock ?_
      refine NX.retThen ?_
      refine NX.ret2x rfl rfl rfl (fun w hw => ⟨(none, 0), ?_, ?_⟩)
      · unfold readE readB; rw [if_neg (show ¬ ¬ there n from fun h => h hth), if_neg (show ¬ ¬ there n from fun h => h hth), if_pos hoff, if_pos hoff]; rfl
      · rw [show readB s n = [] from by unfold readB; rw [if_neg (show ¬ ¬ there n from fun h => h hth), if_pos hoff]]; exact OwnSl.nil_new 5 1 hw
    · skip
      have hoff : ¬ s.off = true := by have h9 : s.off = false := h2; rw [h9]; simp
      refine TR.skip ?_
      refine NX.off ?_
      refine NX.seq ?_
      refine TR.seq ?_
      have hfu := fget_used s.fs n
      refine TR.weak (fun w hw => hw.allF_get (k := n) hA) ?_
      refine TR.region ?_
      refine RL.move rfl rfl rfl ?_
      refine RL.nilCheck rfl rfl rfl ?_
      refine RL.fieldAddr rfl xb_tf92_0 rfl rfl ?_
      refine RL.load1 0 rfl xb_ts90 rfl rfl rfl rfl ?_
      refine RL.move rfl rfl rfl ?_
      refine RL.lookupF 1 rfl xb_tm90 rfl rfl hn rfl Try.zeroValue101 rfl ?_
      refine RL.fieldV rfl rfl (field0_101 _ _ _ _) rfl ?_
      refine RL.call rfl rfl Try.call61 rfl (cloneB_spec (l := (fget s.fs n).b) (rd_fact (.head _)) (by omega)) (fun y => ?_)
      refine RL.assign rfl rfl rfl ?_
      refine RL.assign rfl rfl rfl ?_
      refine RL.nil ?_
      refine NX.seq ?_
      refine TR.ret ?_
      refine NX.ret2x rfl rfl rfl (fun w hw => ⟨y, ?_, ?_⟩)
      · unfold readE readB; rw [if_neg (show ¬ ¬ there n from fun h => h hth), if_neg (show ¬ ¬ there n from fun h => h hth), if_neg hoff, if_neg hoff]
      · rw [show readB s n = (fget s.fs n).b from by unfold readB; rw [if_neg (show ¬ ¬ there n from fun h => h hth), if_neg hoff]]; exact hw.facts (fun φ h => .tail _ h)

theorem new_ok {k : Nat} {M : List HP} {F : List Fact} (hk : k ≤ 16777216) : Ctr Try.prog 51 [I k] M F (Nat × Nat) (fun z => .tuple #[.pointer (some ⟨z.1, 0, none⟩), I 0]) (fun z => Box z.1 92 (dkC ⟨z.2, [], k, false, false, 0⟩) :: MpB z.2 (fsV []) :: M) (fun _ => F) := by
  refine Ctr.body Try.func51 rfl rfl ?_
  refine TR.seq ?_
  refine TR.region ?_
  refine RL.assign rfl rfl rfl ?_
  refine RL.assign rfl rfl rfl ?_
  refine RL.nil ?_
  refine NX.seq ?_
  refine TR.seq ?_
  refine TR.seq ?_
  refine TR.region ?_
  refine RL.move rfl rfl rfl ?_
  refine RL.bin rfl rfl rfl (BinV.to (d := false) BinV.lss (decide_eq_false (by omega))) rfl ?_
  refine RL.move rfl rfl rfl ?_
  refine RL.move rfl rfl rfl ?_
  refine RL.bin rfl rfl rfl (BinV.to (d := false) BinV.gtr (decide_eq_false (by omega))) rfl ?_
  refine RL.pickF rfl rfl rfl rfl ?_
  refine RL.nil ?_
  refine NX.seq ?_
  refine TR.condF rfl ?_
  refine TR.skip ?_
  refine NX.seq ?_
  refine TR.seq ?_
  refine TR.region ?_
  refine RL.ofGV rfl rfl GV.makeMap (fun m => ?_)
  refine RL.move rfl rfl rfl ?_
  refine RL.build rfl rfl (xb_bv92_0_1 _ _) rfl ?_
  refine RL.boxA rfl rfl rfl (fun b1 => ?_)
  refine RL.assign rfl rfl rfl ?_
  refine RL.assign rfl rfl rfl ?_
  refine RL.nil ?_
  refine NX.seq ?_
  refine TR.ret ?_
  exact NX.ret2 (⟨b1, m⟩ : Nat × Nat) rfl rfl rfl rfl (fun w hw => hw)

end Go.Proofs.Ytdlpaojkkekdlaa

namespace Go.Proofs.Ytdlpaojkkekdlaa
open Go.GL
set_option linter.unusedVariables false
theorem xc_bv101_0_1 (x0 : Option Addr) (x0n x0c : Nat) (x1 : Int) : BuildV Try.prog 101 [(0, .slice x0 x0n x0c), (1, .int .i64 x1)] (.agg #[.slice x0 x0n x0c, .int .i64 x1]) := fun w => by kernel_rfl
theorem xc_tf101_0 : fieldOff Try.prog 101 0 0 = true := by kernel_rfl
theorem xc_tf101_1 : fieldOff Try.prog 101 1 1 = true := by kernel_rfl
theorem xc_tf92_0 : fieldOff Try.prog 92 0 0 = true := by kernel_rfl
theorem xc_tf92_2 : fieldOff Try.prog 92 2 2 = true := by kernel_rfl
theorem xc_tl23 : tySlice Try.prog 23 5 = true := by kernel_rfl
theorem xc_tm90 : tyMap Try.prog 90 3 101 = true := by kernel_rfl
theorem xc_ts23 : tyScalar Try.prog 23 = true := by kernel_rfl
theorem xc_ts3 : tyScalar Try.prog 3 = true := by kernel_rfl
theorem xc_ts4 : tyScalar Try.prog 4 = true := by kernel_rfl
theorem xc_ts90 : tyScalar Try.prog 90 = true := by kernel_rfl
theorem xc_tz101 : tySize Try.prog 101 2 = true := by kernel_rfl
theorem xc_tz5 : tySize Try.prog 5 1 = true := by kernel_rfl
theorem trunc_spec {n k : Int} {b : Nat} {s : Ds} {M : List HP} {F : List Fact} (hok : OkF s.fs) (hA : AllF s.fs ∈ F) (hn : I64 n) (h0 : -9223372036854775807 ≤ s.left ∧ s.left ≤ 9223372036854775807) : Ctr Try.prog 53 [.pointer (some ⟨b, 0, none⟩), I n, I k] (Box b 92 (dkC s) :: MpB s.m (fsV s.fs) :: M) F Unit (fun _ => I (truncE s n k)) (fun _ => Box b 92 (dkC (truncS s n k)) :: MpB (truncS s n k).m (fsV (truncS s n k).fs) :: M) (fun _ => AllF (truncS s n k).fs :: F) := by
  refine Ctr.body Try.func53 rfl rfl ?_
  refine TR.seq ?_
  refine TR.region ?_
  refine RL.assign rfl rfl rfl ?_
  refine RL.nil ?_
  refine NX.seq ?_
  refine TR.seq ?_
  refine TR.region ?_
  have hfe := fget_each hok n
  refine RL.move rfl rfl rfl ?_
  refine RL.nilCheck rfl rfl rfl ?_
  refine RL.fieldAddr rfl xc_tf92_0 rfl rfl ?_
  refine RL.load1 0 rfl xc_ts90 rfl rfl rfl rfl ?_
  refine RL.move rfl rfl rfl ?_
  refine RL.lookupF 1 rfl xc_tm90 rfl rfl hn rfl Try.zeroValue101 rfl ?_
  refine RL.allocA rfl (Try.zeroValue101) rfl (fun b1 => ?_)
  refine RL.storeA 0 rfl rfl rfl rfl xc_tz101 rfl rfl ?_
  refine RL.nil ?_
  refine NX.seq ?_
  refine TR.seq ?_
  refine TR.seq ?_
  refine TR.region ?_
  refine RL.move rfl rfl rfl ?_
  refine RL.call rfl rfl Try.call71 rfl (exists_spec) (fun _ => ?_)
  refine RL.not rfl rfl rfl ?_
  refine RL.move rfl rfl rfl ?_
  refine RL.part (fun h2 => ?_) (fun h2 => ?_)
  · skip
    have hb : truncBad s n k := Or.inl (by have h9 := h2; simp at h9; unfold there; omega)
    refine RL.skip rfl rfl rfl ?_
    refine RL.skip rfl rfl rfl ?_
    refine RL.pickT rfl rfl rfl rfl ?_
    refine RL.move rfl rfl rfl ?_
    refine RL.skip rfl rfl rfl ?_
    refine RL.skip rfl rfl rfl ?_
    refine RL.skip rfl rfl rfl ?_
    refine RL.skip rfl rfl rfl ?_
    refine RL.skip rfl rfl rfl ?_
    refine RL.pickT rfl rfl rfl rfl ?_
    refine RL.nil ?_
    refine NX.seq ?_
    refine TR.condT rfl ?_
    refine TR.seq ?_
    refine TR.region ?_
    refine RL.assign rfl rfl rfl ?_
    refine RL.nil ?_
    refine NX.seq ?_
    refine TR.ret ?_
    refine NX.retThen ?_
    refine NX.ret1 () rfl rfl (by unfold truncE; rw [if_pos hb]) (fun w hw => ?_)
    rw [show truncS s n k = s from by unfold truncS; rw [if_pos hb]]
    exact (hw.drop 0 rfl).allF_keep hA
  · skip
    have hth : there n := by have h9 := h2; simp at h9; exact h9
    refine RL.move rfl rfl rfl ?_
    refine RL.bin rfl rfl rfl BinV.lss rfl ?_
    refine RL.pickF rfl rfl rfl rfl ?_
    refine RL.move rfl rfl rfl ?_
    refine RL.part (fun h3 => ?_) (fun h3 => ?_)
    · skip
      have hb : truncBad s n k := Or.inr (Or.inl (of_decide_eq_true h3))
      refine RL.skip rfl rfl rfl ?_
      refine RL.skip rfl rfl rfl ?_
      refine RL.skip rfl rfl rfl ?_
      refine RL.skip rfl rfl rfl ?_
      refine RL.skip rfl rfl rfl ?_
      refine RL.pickT rfl rfl rfl rfl ?_
      refine RL.nil ?_
      refine NX.seq ?_
      refine TR.condT rfl ?_
      refine TR.seq ?_
      refine TR.region ?_
      refine RL.assign rfl rfl rfl ?_
      refine RL.nil ?_
      refine NX.seq ?_
      refine TR.ret ?_
      refine NX.retThen ?_
      refine NX.ret1 () rfl rfl (by unfold truncE; rw [if_pos hb]) (fun w hw => ?_)
      rw [show truncS s n k = s from by unfold truncS; rw [if_pos hb]]
      exact (hw.drop 0 rfl).allF_keep hA
    · skip
      have hk0 : ¬ k < 0 := of_decide_eq_false h3
      refine RL.move rfl rfl rfl ?_
      refine RL.fieldAddr rfl xc_tf101_0 rfl rfl ?_
      refine RL.load1 0 rfl xc_ts23 rfl rfl rfl rfl ?_
      refine RL.lenSlice rfl xc_tl23 rfl rfl ?_
      refine RL.bin rfl rfl rfl BinV.gtr rfl ?_
      refine RL.pickF rfl rfl rfl rfl ?_
      refine RL.nil ?_
      refine NX.seq ?_
      refine TR.cond rfl (fun h4 => ?_) (fun h4 => ?_)
      · skip
        have hb : truncBad s n k := Or.inr (Or.inr (by have h9 := of_decide_eq_true h4; omega))
        refine TR.seq ?_
        refine TR.region ?_
        refine RL.assign rfl rfl rfl ?_
        refine RL.nil ?_
        refine NX.seq ?_
        refine TR.ret ?_
        refine NX.retThen ?_
        refine NX.ret1 () rfl rfl (by unfold truncE; rw [if_pos hb]) (fun w hw => ?_)
        rw [show truncS s n k = s from by unfold truncS; rw [if_pos hb]]
        exact (hw.drop 0 rfl).allF_keep hA
      · skip
        have hkl : ¬ ((fget s.fs n).b.length : Int) < k := by have h9 := of_decide_eq_false h4; omega
        have hb : ¬ truncBad s n k := fun h => h.elim (fun h => h hth) (fun h => h.elim hk0 hkl)
        obtain ⟨kk, hkk⟩ : ∃ kk : Nat, k = kk := ⟨k.toNat, by omega⟩
        subst hkk
        refine TR.skip ?_
        refine NX.seq ?_
        refine TR.seq ?_
        refine TR.seq ?_
        refine TR.region ?_
        refine RL.move rfl rfl rfl ?_
        refine RL.nilCheck rfl rfl rfl ?_
        refine RL.fieldAddr rfl xc_tf92_2 rfl rfl ?_
        refine RL.load1 1 rfl xc_ts4 rfl rfl rfl rfl ?_
        refine RL.move rfl rfl rfl ?_
        refine RL.part (fun h5 => ?_) (fun h5 => ?_)
        · skip
          have hoff : s.off = true := h5
          refine RL.skip rfl rfl rfl ?_
          refine RL.skip rfl rfl rfl ?_
          refine RL.skip rfl rfl rfl ?_
          refine RL.pickT rfl rfl rfl rfl ?_
          refine RL.nil ?_
          refine NX.seq ?_
          refine TR.condT rfl ?_
          refine TR.seq ?_
          refine TR.region ?_
          refine RL.assign rfl rfl rfl ?_
          refine RL.nil ?_
          refine NX.seq ?_
          refine TR.ret ?_
          refine NX.retThen ?_
          refine NX.ret1 () rfl rfl (by unfold truncE; rw [if_neg hb, if_pos (Or.inl hoff)]) (fun w hw => ?_)
          rw [show truncS s n kk = s from by unfold truncS; rw [if_neg hb, if_pos hoff]]
          exact (hw.drop 0 rfl).allF_keep hA
        · skip
          have hoff : ¬ s.off = true := by have h9 : s.off = false := h5; rw [h9]; simp
          refine RL.move rfl rfl rfl ?_
          refine RL.call rfl rfl Try.call72 rfl (Ctr.frame (J := [Box b 92 (dkC (s)), MpB (s).m (fsV (s).fs)]) (J' := fun _ => [Box b 92 (dkC (stepS s)), MpB (stepS s).m (fsV (stepS s).fs)]) [_] (step_spec (s := s) h0)) (fun _ => ?_)
          refine RL.not rfl rfl rfl ?_
          refine RL.pickF rfl rfl rfl rfl ?_
          refine RL.nil ?_
          refine NX.seq ?_
          refine TR.cond rfl (fun h6 => ?_) (fun h6 => ?_)
          · skip
            have hst : stepB s = false := by simpa using h6
            refine TR.seq ?_
            refine TR.region ?_
            refine RL.assign rfl rfl rfl ?_
            refine RL.nil ?_
            refine NX.seq ?_
            refine TR.ret ?_
            refine NX.retThen ?_
            refine NX.ret1 () rfl rfl (by unfold truncE; rw [if_neg hb, if_pos (Or.inr hst)]) (fun w hw => ?_)
            rw [show truncS s n kk = stepS s from by unfold truncS; rw [if_neg hb, if_neg hoff, if_pos hst]]
            have h8 := (hw.drop 0 rfl).derive (ψ := AllF (stepS s).fs) (fun K hf => by rw [stepS_fs]; exact hf _ hA)
            exact h8
          · skip
            have hst : ¬ stepB s = false := by have h9 := h6; simp at h9; rw [h9]; simp
            refine TR.skip ?_
            refine NX.seq ?_
            refine TR.seq ?_
            refine TR.weak (fun w hw => (hw.allF_get (k := n) hA).cutT kk hfe.1 (.head _)) ?_
            refine TR.sub (E' := [(0, _), (1, _), (2, _), (6, _), (7, _)]) ⟨rfl, rfl, rfl, rfl, rfl, trivial⟩ ?_
            refine TR.draw mixed ?_
            apply AR.more [(0, _), (1, _), (2, _), (3, _), (4, _), (5, _), (6, _), (7, _), (8, _), (9, _), (10, _)]
            refine AR.eff [0, 1, 2, 3, 4, 5, 6, 7, 8, 9, 10] 11 [0, 1, 2, 3, 4, 5, 6, 7, 8, 9, 10, 11] ⟨QOne.yes rfl rfl rfl (PV.move rfl), QOne.yes rfl rfl rfl (PV.move rfl), QOne.yes rfl rfl rfl (PV.fieldAddr xc_tf101_0 rfl), QOne.yes rfl rfl rfl (PV.load1 0 xc_ts23 rfl rfl rfl), QOne.yes rfl rfl rfl (PV.move rfl), QOne.yes rfl rfl rfl (PV.cast (v' := .slice (cutA (fget s.fs n).oa 0 (fget s.fs n).c 1) ((fget s.fs n).b.take kk).length (fget s.fs n).c) (by rw [List.length_take, Nat.min_eq_left (by omega)]; rfl) (PV.sliceLH (l := 0) (h := kk) xc_tl23 xc_tz5 rfl (.inl ⟨rfl, rfl⟩) (.inr ⟨_, rfl, rfl⟩) (Nat.zero_le _) (by omega))), QOne.yes rfl rfl rfl (PV.fieldAddr xc_tf101_1 rfl), QOne.yes rfl rfl rfl (PV.load1 0 xc_ts3 rfl rfl rfl), QOne.yes rfl rfl rfl (PV.move rfl), QOne.yes rfl rfl rfl (PV.cast (v' := I ((min (fget s.fs n).dur kk : Nat))) (congrArg (Value.int .i64) (by omega)) (PV.min rfl rfl)), QOne.yes rfl rfl rfl (PV.build rfl (xc_bv101_0_1 _ _ _ _)), trivial⟩ rfl rfl rfl rfl rfl rfl rfl (EV.call rfl Try.call63 (Ctr.frame (J := [Box b 92 (dkC (stepS s)), MpB (stepS s).m (fsV (stepS s).fs)]) (J' := fun _ => [Box b 92 (dkC ({ stepS s with fs := setF (stepS s).fs n (truncF s n kk) })), MpB ({ stepS s with fs := setF (stepS s).fs n (truncF s n kk) }).m (fsV ({ stepS s with fs := setF (stepS s).fs n (truncF s n kk) }).fs)]) [_] (set_spec (s := stepS s) (f := truncF s n kk) hn))) (fun _ => ?_)
            refine AR.done [0, 1, 10, 5, 9, 7, 8, 3, 4, 2, 6] rfl ?_
            refine AR.last [] [0, 1, 2, 3, 4, 5, 6, 7, 8, 9, 10, 11] trivial rfl rfl rfl ?_
            refine NX.sub (E' := [(6, _)]) ⟨rfl, trivial⟩ ?_
            refine NX.seq ?_
            refine TR.seq ?_
            refine TR.region ?_
            refine RL.assign rfl rfl rfl ?_
            refine RL.nil ?_
            refine NX.seq ?_
            refine TR.ret ?_
            refine NX.ret1 () rfl rfl (by unfold truncE; rw [if_neg hb, if_neg (fun h => h.elim hoff hst)]) (fun w hw => ?_)
            rw [show truncS s n kk = { stepS s with fs := setF (stepS s).fs n (truncF s n kk) } from by unfold truncS; rw [if_neg hb, if_neg hoff, if_neg hst]; rfl]
            have hA2 : AllF (stepS s).fs ∈ F := by rw [stepS_fs]; exact hA
            have h8 := (hw.drop 0 rfl).allF_setF (fs := (stepS s).fs) (k := n) (f := truncF s n kk) (.tail _ (.tail _ hA2)) (.head _)
            exact h8.facts (fun φ h => by rcases List.mem_cons.1 h with e1 | h; exact e1 ▸ .head _; exact .tail _ (.tail _ (.tail _ h)))

end Go.Proofs.Ytdlpaojkkekdlaa

namespace Go.Proofs.Ytdlpaojkkekdlaa
open Go.GL
set_option linter.unusedVariables false
theorem xd_tf88_0 : fieldOff Try.prog 88 0 0 = true := by kernel_rfl
theorem xd_tf88_1 : fieldOff Try.prog 88 1 1 = true := by kernel_rfl
theorem xd_tf88_2 : fieldOff Try.prog 88 2 2 = true := by kernel_rfl
theorem xd_tf88_3 : fieldOff Try.prog 88 3 3 = true := by kernel_rfl
theorem xd_tl23 : tySlice Try.prog 23 5 = true := by kernel_rfl
theorem xd_ts3 : tyScalar Try.prog 3 = true := by kernel_rfl
theorem xd_ts36 : tyScalar Try.prog 36 = true := by kernel_rfl
theorem xd_ts38 : tyScalar Try.prog 38 = true := by kernel_rfl
theorem xd_ts39 : tyScalar Try.prog 39 = true := by kernel_rfl
theorem xd_ts4 : tyScalar Try.prog 4 = true := by kernel_rfl
theorem app1_spec {e q l b : Nat} {er : Int} {g : Lg} {M : List HP} {F : List Fact} (hg : g.n ≤ 4611686018427387904) : CtrD Try.prog 60 [.pointer (some ⟨e, 0, none⟩), .pointer (some ⟨q, 0, none⟩)] (Box e 39 [I er] :: Box q 38 [.pointer (some ⟨l, 0, none⟩)] :: Box l 88 (lgC b g) :: M) F Unit (fun _ => Box e 39 [I er] :: Box q 38 [.pointer (some ⟨l, 0, none⟩)] :: Box l 88 (lgC b (lgN g er)) :: M) (fun _ => F) := by
  refine CtrD.body Try.func60 rfl rfl ?_
  refine TR.seq ?_
  refine TR.region ?_
  refine RL.load1 1 rfl xd_ts38 rfl rfl rfl rfl ?_
  refine RL.load1 0 rfl xd_ts39 rfl rfl rfl rfl ?_
  refine RL.bin rfl rfl rfl BinV.eql rfl ?_
  refine RL.nilCheck rfl rfl rfl ?_
  refine RL.fieldAddr rfl xd_tf88_3 rfl rfl ?_
  refine RL.store1 2 rfl xd_ts4 rfl rfl rfl rfl rfl ?_
  refine RL.nil ?_
  refine NX.seq ?_
  refine TR.seq ?_
  refine TR.region ?_
  refine RL.load1 0 rfl xd_ts39 rfl rfl rfl rfl ?_
  refine RL.bin rfl rfl rfl BinV.eql rfl ?_
  refine RL.nil ?_
  refine NX.seq ?_
  refine TR.cond rfl (fun h1 => ?_) (fun h1 => ?_)
  · skip
    have he : er = 0 := of_decide_eq_true h1
    refine TR.region ?_
    refine RL.load1 1 rfl xd_ts38 rfl rfl rfl rfl ?_
    refine RL.nilCheck rfl rfl rfl ?_
    refine RL.fieldAddr rfl xd_tf88_2 rfl rfl ?_
    refine RL.load1 2 rfl xd_ts3 rfl rfl rfl rfl ?_
    refine RL.bin rfl rfl rfl (BinV.add _ rfl (by omega) (by omega)) rfl ?_
    refine RL.nilCheck rfl rfl rfl ?_
    refine RL.fieldAddr rfl xd_tf88_2 rfl rfl ?_
    refine RL.store1 2 rfl xd_ts3 rfl rfl rfl rfl rfl ?_
    refine RL.nil ?_
    refine NX.end0 () rfl rfl (fun w hw => ?_)
    rw [show lgN g er = { g with n := g.n + 1, dn := decide (er = 22) } from by unfold lgN; rw [if_pos he]]
    exact hw
  · skip
    have he : ¬ er = 0 := of_decide_eq_false h1
    refine TR.skip ?_
    refine NX.end0 () rfl rfl (fun w hw => ?_)
    rw [show lgN g er = { g with n := g.n, dn := decide (er = 22) } from by unfold lgN; rw [if_neg he]]
    exact hw

theorem frame_lg {g : Lg} {x : List UInt8} {oa : Option Addr} {c : Nat} {M : List HP} {F : List Fact} (hR : Rd M F oa (bytesV x)) (hg : g.n ≤ 4611686018427387904) (hx : x.length ≤ 17592186044416) : Ctr Try.prog 13 [I g.n, .slice oa x.length c] M F (Option Addr × Nat) (fun z => .slice z.1 (lgFr g x).length z.2) (fun z => OwnSl 5 1 z.1 (lgFr g x).length z.2 (bytesV (lgFr g x)) :: M) (fun _ => F) :=
  frame_spec (i := (g.n : Int)) (x := x) hR (by omega) (by omega) hx

set_option maxHeartbeats 1000000 in
theorem lapp_spec {l b : Nat} {g : Lg} {s : Ds} {x : List UInt8} {ob : Option Addr} {cb : Nat} {M : List HP} {F : List Fact} (hok : OkF s.fs) (hA : AllF s.fs ∈ F) (hx : ArrF ob (bytesV x) ∈ F) (hu : used s.fs ≤ s.room) (hrm : s.room ≤ 16777216) (hgf : I64 g.f) (h0 : -9223372036854775000 ≤ s.left ∧ s.left ≤ 9223372036854775807) (hgn : g.n ≤ 4611686018427387904) (hxl : x.length ≤ 17592186044416) : Ctr Try.prog 29 [.pointer (some ⟨l, 0, none⟩), .slice ob x.length cb] (Box l 88 (lgC b g) :: Box b 92 (dkC (s)) :: MpB (s).m (fsV (s).fs) :: M) F {z : RdX // ((fget s.fs g.f).b ++ lgFr g x).length ≤ z.c} (fun z => I (lgE s g x z.1)) (fun z => Box l 88 (lgC b (lgG s g x z.1)) :: Box b 92 (dkC (lgS s g x z.1)) :: MpB (lgS s g x z.1).m (fsV (lgS s g x z.1).fs) :: M) (fun z => AllF (lgS s g x z.1).fs :: F) := by
  refine Ctr.bodyD Try.func29 rfl rfl ?_
  refine TR.seq ?_
  refine TR.region ?_
  refine RL.box1 rfl rfl rfl rfl (fun b1 => ?_)
  refine RL.alloc1 rfl (Try.zeroValue39) rfl rfl (fun b2 => ?_)
  refine RL.nil ?_
  refine NX.seq ?_
  refine TR.seq ?_
  refine TR.seq ?_
  refine TR.region ?_
  refine RL.move rfl rfl rfl ?_
  refine RL.lenSlice rfl xd_tl23 rfl rfl ?_
  refine RL.bin rfl rfl rfl BinV.gtr rfl ?_
  refine RL.nil ?_
  refine NX.seq ?_
  refine TR.cond rfl (fun h3 => ?_) (fun h3 => ?_)
  · skip
    have hfar : (65536 : Int) < x.length := of_decide_eq_true h3
    refine TR.seq ?_
    refine TR.region ?_
    refine RL.store1 0 rfl xd_ts39 rfl rfl rfl rfl rfl ?_
    refine RL.nil ?_
    refine NX.seq ?_
    refine TR.ret ?_
    refine NX.retThen ?_
    obtain ⟨e1, e2, e3⟩ := lgE_far (s := s) (g := g) (z := (⟨⟨none, ((fget s.fs g.f).b ++ lgFr g x).length⟩, Nat.le_refl _⟩ : {z : RdX // ((fget s.fs g.f).b ++ lgFr g x).length ≤ z.c}).1) hfar
    refine NX.retCD (i := 0) (⟨⟨none, ((fget s.fs g.f).b ++ lgFr g x).length⟩, Nat.le_refl _⟩ : {z : RdX // ((fget s.fs g.f).b ++ lgFr g x).length ≤ z.c}) rfl rfl xd_ts39 rfl (by rw [e1]) (fun w hw => ?_)
    rw [e2, e3]
    exact ((hw.drop 0 rfl).drop 0 rfl).allF_keep hA
  · skip
    have hfar : ¬ (65536 : Int) < x.length := of_decide_eq_false h3
    refine TR.skip ?_
    refine NX.seq ?_
    refine TR.seq ?_
    refine TR.region ?_
    refine RL.makeFunc rfl rfl rfl rfl ?_
    refine RL.defer (asx := []) rfl rfl rfl ?_
    refine RL.nil ?_
    refine NX.seq ?_
    refine TR.seq ?_
    refine TR.seq ?_
    refine TR.region ?_
    refine RL.load1 1 rfl xd_ts38 rfl rfl rfl rfl ?_
    refine RL.nilCheck rfl rfl rfl ?_
    refine RL.fieldAddr rfl xd_tf88_3 rfl rfl ?_
    refine RL.load1 2 rfl xd_ts4 rfl rfl rfl rfl ?_
    refine RL.nil ?_
    refine NX.seq ?_
    refine TR.cond rfl (fun h4 => ?_) (fun h4 => ?_)
    · skip
      have hdn : g.dn = true := h4
      refine TR.seq ?_
      refine TR.region ?_
      refine RL.store1 0 rfl xd_ts39 rfl rfl rfl rfl rfl ?_
      refine RL.nil ?_
      refine NX.seq ?_
      refine TR.ret ?_
      refine NX.retThen ?_
      obtain ⟨e1, e2, e3⟩ := lgE_dn (s := s) (z := (⟨⟨none, ((fget s.fs g.f).b ++ lgFr g x).length⟩, Nat.le_refl _⟩ : {z : RdX // ((fget s.fs g.f).b ++ lgFr g x).length ≤ z.c}).1) hfar hdn
      refine NX.retD (i := 0) (dargs := []) (v := fun _ => I 22) rfl rfl xd_ts39 Try.call60 (app1_spec (er := 22) hgn) (fun _ => rfl) (fun _ => (⟨⟨none, ((fget s.fs g.f).b ++ lgFr g x).length⟩, Nat.le_refl _⟩ : {z : RdX // ((fget s.fs g.f).b ++ lgFr g x).length ≤ z.c})) (fun _ => by rw [e1]) (fun _ w hw => ?_)
      rw [e2, e3]
      exact ((hw.drop 0 rfl).drop 0 rfl).allF_keep hA
    · skip
      have hdn : ¬ g.dn = true := by have h9 : g.dn = false := h4; rw [h9]; simp
      have hfr := (frameJ_len (i := (g.n : Int)) (x := x) (by omega) (by omega) (by omega)).1
      refine TR.skip ?_
      refine NX.seq ?_
      refine TR.seq ?_
      refine TR.seq ?_
      refine TR.sub (E' := [(1, _), (2, _), (4, _)]) ⟨rfl, rfl, rfl, trivial⟩ ?_
      refine TR.draw mixed ?_
      apply AR.more [(0, _), (1, _), (2, _), (3, _), (4, _), (5, _), (6, _), (7, _), (8, _), (9, _), (10, _), (11, _), (12, _)]
      refine AR.eff [0, 1, 2, 3, 4, 5, 6, 7, 8, 9, 10, 11, 12] 13 [0, 1, 2, 3, 4, 5, 6, 7, 8, 9, 10, 11, 12, 13, 14, 15] ⟨QOne.yes rfl rfl rfl (PV.load1 1 xd_ts38 rfl rfl rfl), QOne.yes rfl rfl rfl (PV.nilCheck rfl), QOne.yes rfl rfl rfl (PV.fieldAddr xd_tf88_0 rfl), QOne.yes rfl rfl rfl (PV.load1 2 xd_ts36 rfl rfl rfl), QOne.yes rfl rfl rfl (PV.load1 1 xd_ts38 rfl rfl rfl), QOne.yes rfl rfl rfl (PV.nilCheck rfl), QOne.yes rfl rfl rfl (PV.fieldAddr xd_tf88_1 rfl), QOne.yes rfl rfl rfl (PV.load1 2 xd_ts3 rfl rfl rfl), QOne.yes rfl rfl rfl (PV.load1 1 xd_ts38 rfl rfl rfl), QOne.yes rfl rfl rfl (PV.nilCheck rfl), QOne.yes rfl rfl rfl (PV.fieldAddr xd_tf88_2 rfl), QOne.yes rfl rfl rfl (PV.load1 2 xd_ts3 rfl rfl rfl), QOne.yes rfl rfl rfl (PV.move rfl), trivial⟩ rfl rfl rfl rfl rfl rfl rfl (EV.call rfl Try.call13 (frame_lg (g := g) (x := x) (rd_fact hx) hgn (by omega))) (fun f => ?_)
      refine AR.weak (fun w hw => hw.keepSl) ?_
      refine AR.done [11, 12, 10, 9, 8] rfl ?_
      refine AR.eff [0, 1, 2, 3, 4, 5, 6, 7] 14 [0, 1, 2, 3, 4, 5, 6, 7, 8, 9, 10, 11, 12, 13, 14, 15] ⟨QOne.yes rfl rfl rfl (PV.load1 1 xd_ts38 rfl rfl rfl), QOne.yes rfl rfl rfl (PV.nilCheck rfl), QOne.yes rfl rfl rfl (PV.fieldAddr xd_tf88_0 rfl), QOne.yes rfl rfl rfl (PV.load1 2 xd_ts36 rfl rfl rfl), QOne.yes rfl rfl rfl (PV.load1 1 xd_ts38 rfl rfl rfl), QOne.yes rfl rfl rfl (PV.nilCheck rfl), QOne.yes rfl rfl rfl (PV.fieldAddr xd_tf88_1 rfl), QOne.yes rfl rfl rfl (PV.load1 2 xd_ts3 rfl rfl rfl), trivial⟩ rfl rfl rfl rfl rfl rfl rfl (EV.call rfl Try.call44 (Ctr.frame (J := [Box b 92 (dkC (s)), MpB (s).m (fsV (s).fs)]) (J' := fun z : {z : RdX // ((fget s.fs g.f).b ++ lgFr g x).length ≤ z.c} => [Box b 92 (dkC (appS s g.f (lgFr g x) z.1)), MpB (appS s g.f (lgFr g x) z.1).m (fsV (appS s g.f (lgFr g x) z.1).fs)]) [_, _, _] (append_spec (s := s) (n := g.f) (b := b) (x := lgFr g x) hok (.tail _ hA) (.head _) hu hrm hgf (by omega) (by show (frameJ (g.n : Int) x).length ≤ _; omega)))) (fun z => ?_)
      refine AR.done [3, 7, 6, 2, 1, 5, 4, 0] rfl ?_
      apply AR.more [(15, _)]
      refine AR.last [15] [0, 1, 2, 3, 4, 5, 6, 7, 8, 9, 10, 11, 12, 13, 14, 15] ⟨QOne.yes rfl rfl rfl (PV.assign rfl), trivial⟩ rfl rfl rfl ?_
      refine NX.sub (E' := [(2, _), (4, _), (5, _)]) ⟨rfl, rfl, rfl, trivial⟩ ?_
      refine NX.seq ?_
      refine TR.seq ?_
      refine TR.region ?_
      refine RL.move rfl rfl rfl ?_
      refine RL.bin rfl rfl rfl BinV.neq rfl ?_
      refine RL.nil ?_
      refine NX.seq ?_
      refine TR.cond rfl (fun h5 => ?_) (fun h5 => ?_)
      · skip
        have hae : appE s g.f (lgFr g x) ≠ 0 := by simpa using h5
        refine TR.seq ?_
        refine TR.region ?_
        refine RL.move rfl rfl rfl ?_
        refine RL.store1 0 rfl xd_ts39 rfl rfl rfl rfl rfl ?_
        refine RL.nil ?_
        refine NX.seq ?_
        refine TR.ret ?_
        refine NX.retThen ?_
        obtain ⟨e1, e2, e3⟩ := lgE_app (s := s) (z := z.1) hfar hdn hae
        refine NX.retD (i := 0) (dargs := []) (v := fun _ => I (appE s g.f (lgFr g x))) rfl rfl xd_ts39 Try.call60 (app1_spec (er := appE s g.f (lgFr g x)) hgn) (fun _ => rfl) (fun _ => z) (fun _ => by rw [e1]) (fun _ w hw => ?_)
        rw [e2, e3]
        exact ((hw.drop 0 rfl).drop 0 rfl).facts (fun φ h => by rcases List.mem_cons.1 h with e1 | h; exact e1 ▸ .head _; exact .tail _ (.tail _ h))
      · skip
        have hae : ¬ appE s g.f (lgFr g x) ≠ 0 := by simpa using h5
        refine TR.skip ?_
        refine NX.seq ?_
        refine TR.seq ?_
        refine TR.region ?_
        refine RL.load1 1 rfl xd_ts38 rfl rfl rfl rfl ?_
        refine RL.nilCheck rfl rfl rfl ?_
        refine RL.fieldAddr rfl xd_tf88_0 rfl rfl ?_
        refine RL.load1 2 rfl xd_ts36 rfl rfl rfl rfl ?_
        refine RL.call rfl rfl Try.call54 rfl (Ctr.frame (J := [Box b 92 (dkC (appS s g.f (lgFr g x) z.1)), MpB ((appS s g.f (lgFr g x) z.1)).m (fsV ((appS s g.f (lgFr g x) z.1)).fs)]) (J' := fun _ => [Box b 92 (dkC (syncS (appS s g.f (lgFr g x) z.1))), MpB (syncS (appS s g.f (lgFr g x) z.1)).m (fsV (syncS (appS s g.f (lgFr g x) z.1)).fs)]) [_, _, _] (sync_spec (s := (appS s g.f (lgFr g x) z.1)) (appS_ok hok z.2) (by have := appS_left s g.f (lgFr g x) z.1; omega))) (fun _ => ?_)
        refine RL.store1 0 rfl xd_ts39 rfl rfl rfl rfl rfl ?_
        refine RL.nil ?_
        refine NX.seq ?_
        refine TR.ret ?_
        obtain ⟨e1, e2, e3⟩ := lgE_sync (s := s) (z := z.1) hfar hdn hae
        refine NX.retD (i := 0) (dargs := []) (v := fun _ => I (syncE (appS s g.f (lgFr g x) z.1))) rfl rfl xd_ts39 Try.call60 (app1_spec (er := syncE (appS s g.f (lgFr g x) z.1)) hgn) (fun _ => rfl) (fun _ => z) (fun _ => by rw [e1]) (fun _ w hw => ?_)
        rw [e2, e3]
        exact (((hw.drop 0 rfl).drop 0 rfl).allF_sync (.head _)).facts (fun φ h => by rcases List.mem_cons.1 h with e1 | h; exact e1 ▸ .head _; exact .tail _ (.tail _ (.tail _ h)))

theorem llen_spec {l b : Nat} {g : Lg} {M : List HP} {F : List Fact} : Ctr Try.prog 42 [.pointer (some ⟨l, 0, none⟩)] (Box l 88 (lgC b g) :: M) F Unit (fun _ => I g.n) (fun _ => Box l 88 (lgC b g) :: M) (fun _ => F) := by
  refine Ctr.body Try.func42 rfl rfl ?_
  refine TR.seq ?_
  refine TR.region ?_
  refine RL.assign rfl rfl rfl ?_
  refine RL.nil ?_
  refine NX.seq ?_
  refine TR.seq ?_
  refine TR.region ?_
  refine RL.move rfl rfl rfl ?_
  refine RL.nilCheck rfl rfl rfl ?_
  refine RL.fieldAddr rfl xd_tf88_2 rfl rfl ?_
  refine RL.load1 0 rfl xd_ts3 rfl rfl rfl rfl ?_
  refine RL.assign rfl rfl rfl ?_
  refine RL.nil ?_
  refine NX.seq ?_
  refine TR.ret ?_
  exact NX.ret1 () rfl rfl rfl (fun w hw => hw)

theorem lup_spec {l b : Nat} {g : Lg} {M : List HP} {F : List Fact} : Ctr Try.prog 43 [.pointer (some ⟨l, 0, none⟩)] (Box l 88 (lgC b g) :: M) F Unit (fun _ => .bool (!g.dn)) (fun _ => Box l 88 (lgC b g) :: M) (fun _ => F) := by
  refine Ctr.body Try.func43 rfl rfl ?_
  refine TR.seq ?_
  refine TR.region ?_
  refine RL.assign rfl rfl rfl ?_
  refine RL.nil ?_
  refine NX.seq ?_
  refine TR.seq ?_
  refine TR.region ?_
  refine RL.move rfl rfl rfl ?_
  refine RL.nilCheck rfl rfl rfl ?_
  refine RL.fieldAddr rfl xd_tf88_3 rfl rfl ?_
  refine RL.load1 0 rfl xd_ts4 rfl rfl rfl rfl ?_
  refine RL.not rfl rfl rfl ?_
  refine RL.assign rfl rfl rfl ?_
  refine RL.nil ?_
  refine NX.seq ?_
  refine TR.ret ?_
  exact NX.ret1 () rfl rfl rfl (fun w hw => hw)

end Go.Proofs.Ytdlpaojkkekdlaa

namespace Go.Proofs.Ytdlpaojkkekdlaa
open Go.GL
set_option linter.unusedVariables false
theorem xe_bv88_0_1_2 (x0 : Option Addr) (x1 : Int) (x2 : Int) : BuildV Try.prog 88 [(0, .pointer x0), (1, .int .i64 x1), (2, .int .i64 x2)] (.agg #[.pointer x0, .int .i64 x1, .int .i64 x2, .bool false]) := fun w => by kernel_rfl
theorem xe_tl23 : tySlice Try.prog 23 5 = true := by kernel_rfl
theorem xe_tl27 : tySlice Try.prog 27 23 = true := by kernel_rfl
theorem xe_tp36 : tyPtr Try.prog 36 92 = true := by kernel_rfl
set_option maxHeartbeats 1000000 in
theorem open_calm {n : Int} {b : Nat} {s : Ds} {M : List HP} {F : List Fact} (hcalm : CalmD s) (hth : there n) (hok : OkF s.fs) (hA : AllF s.fs ∈ F) (hu : used s.fs ≤ 16777216) (h0 : -9223372036854775000 ≤ s.left ∧ s.left ≤ 9223372036854775807) : Ctr Try.prog 22 [.pointer (some ⟨b, 0, none⟩), I n] (Box b 92 (dkC (s)) :: MpB (s).m (fsV (s).fs) :: M) F {z : Nat × LsX // z.2.ps.map Prod.fst = scanJ 0 (fget s.fs n).b ∧ ∀ p, p ∈ z.2.ps → p.1.length ≤ p.2.c} (fun z => .tuple #[.pointer (some ⟨z.1.1, 0, none⟩), .slice z.1.2.oa z.1.2.ps.length z.1.2.c, I 0]) (fun z => Box z.1.1 88 (lgC b ⟨n, z.1.2.ps.length, false⟩) :: OwnSl 23 1 z.1.2.oa z.1.2.ps.length z.1.2.c (listV z.1.2.ps) :: Box b 92 (dkC ({ s with fs := openFs s n })) :: MpB ({ s with fs := openFs s n }).m (fsV ({ s with fs := openFs s n }).fs) :: M) (fun z => AllB z.1.2.ps :: AllF (openFs s n) :: F) := by
  refine Ctr.body Try.func22 rfl rfl ?_
  refine TR.seq ?_
  refine TR.region ?_
  refine RL.assign rfl rfl rfl ?_
  refine RL.assign rfl rfl rfl ?_
  refine RL.assign rfl rfl rfl ?_
  refine RL.nil ?_
  refine NX.seq ?_
  refine TR.seq ?_
  refine TR.seq ?_
  refine TR.region ?_
  have hcr := hcalm.read hth
  have hn64 : I64 n := ⟨by have := hth.1; omega, by have := hth.2; omega⟩
  have hfu := fget_used s.fs n
  have hsl := scan_le (b := (fget s.fs n).b)
  refine RL.move rfl rfl rfl ?_
  refine RL.bin rfl rfl rfl (BinV.eqlPtrNil xe_tp36) rfl ?_
  refine RL.nil ?_
  refine NX.seq ?_
  refine TR.condF rfl ?_
  refine TR.skip ?_
  refine NX.seq ?_
  refine TR.seq ?_
  refine TR.region ?_
  refine RL.move rfl rfl rfl ?_
  refine RL.move rfl rfl rfl ?_
  refine RL.call rfl rfl Try.call52 rfl (read_dspec hok hA (by omega) hn64) (fun y => ?_)
  rw [hcr.1, hcr.2]
  refine RL.open1 (fun w hw => ⟨hw.ownLen.2, hw⟩) (fun hyc => ?_)
  refine RL.weak (fun w hw => hw.keepSl) ?_
  refine RL.move rfl rfl rfl ?_
  refine RL.extract rfl rfl rfl rfl ?_
  refine RL.extract rfl rfl rfl rfl ?_
  refine RL.assign rfl rfl rfl ?_
  refine RL.assign rfl rfl rfl ?_
  refine RL.nil ?_
  refine NX.seq ?_
  refine TR.seq ?_
  refine TR.seq ?_
  refine TR.region ?_
  refine RL.move rfl rfl rfl ?_
  refine RL.bin rfl rfl rfl (BinV.to (d := false) BinV.neq (decide_eq_false (by simp))) rfl ?_
  refine RL.nil ?_
  refine NX.seq ?_
  refine TR.condF rfl ?_
  refine TR.skip ?_
  refine NX.seq ?_
  refine TR.seq ?_
  refine TR.region ?_
  refine RL.move rfl rfl rfl ?_
  refine RL.call rfl rfl Try.call16 rfl (scan_spec (b := (fget s.fs n).b) (.head _) hyc (by omega)) (fun S => ?_)
  refine RL.move rfl rfl rfl ?_
  refine RL.extract rfl rfl rfl rfl ?_
  refine RL.extract rfl rfl rfl rfl ?_
  refine RL.assign rfl rfl rfl ?_
  refine RL.assign rfl rfl rfl ?_
  refine RL.nil ?_
  refine NX.seq ?_
  refine TR.seq ?_
  refine TR.seq ?_
  refine TR.region ?_
  refine RL.move rfl rfl rfl ?_
  refine RL.move rfl rfl rfl ?_
  refine RL.lenSlice rfl xe_tl23 rfl rfl ?_
  refine RL.bin rfl rfl rfl BinV.lss rfl ?_
  refine RL.nil ?_
  refine NX.seq ?_
  refine TR.cond rfl (fun h1 => ?_) (fun h1 => ?_)
  · skip
    have hlt : (framesJ 0 (scanJ 0 (fget s.fs n).b)).length < (fget s.fs n).b.length := by have := of_decide_eq_true h1; omega
    have htb : ¬ truncBad s n ((framesJ 0 (scanJ 0 (fget s.fs n).b)).length : Nat) := fun h => h.elim (fun h => h hth) (fun h => h.elim (by omega) (by omega))
    have htc := hcalm.trunc htb
    refine TR.region ?_
    refine RL.move rfl rfl rfl ?_
    refine RL.move rfl rfl rfl ?_
    refine RL.move rfl rfl rfl ?_
    refine RL.call rfl rfl Try.call53 rfl (Ctr.frame (J := [Box b 92 (dkC (s)), MpB (s).m (fsV (s).fs)]) (J' := fun _ : Unit => [Box b 92 (dkC (truncS s n (framesJ 0 (scanJ 0 (fget s.fs n).b)).length)), MpB (truncS s n (framesJ 0 (scanJ 0 (fget s.fs n).b)).length).m (fsV (truncS s n (framesJ 0 (scanJ 0 (fget s.fs n).b)).length).fs)]) [_] (trunc_spec (n := n) (k := ((framesJ 0 (scanJ 0 (fget s.fs n).b)).length : Nat)) hok (by first | exact hA | exact .tail _ hA | exact .tail _ (.tail _ hA) | exact .tail _ (.tail _ (.tail _ hA)) | exact .tail _ (.tail _ (.tail _ (.tail _ hA)))) hn64 (by omega))) (fun _ => ?_)
    rw [htc.1, htc.2]
    refine RL.assign rfl rfl rfl ?_
    refine RL.nil ?_
    refine NX.seq ?_
    refine TR.seq ?_
    refine TR.seq ?_
    refine TR.region ?_
    refine RL.move rfl rfl rfl ?_
    refine RL.bin rfl rfl rfl (BinV.to (d := true) BinV.eql (decide_eq_true rfl)) rfl ?_
    refine RL.nil ?_
    refine NX.seq ?_
    refine TR.condT rfl ?_
    refine TR.region ?_
    refine RL.move rfl rfl rfl ?_
    refine RL.call rfl rfl Try.call54 rfl (Ctr.frame (J := [Box b 92 (dkC ({ s with fs := setF s.fs n (truncF s n (framesJ 0 (scanJ 0 (fget s.fs n).b)).length) })), MpB ({ s with fs := setF s.fs n (truncF s n (framesJ 0 (scanJ 0 (fget s.fs n).b)).length) }).m (fsV ({ s with fs := setF s.fs n (truncF s n (framesJ 0 (scanJ 0 (fget s.fs n).b)).length) }).fs)]) (J' := fun _ : Unit => [Box b 92 (dkC (syncS ({ s with fs := setF s.fs n (truncF s n (framesJ 0 (scanJ 0 (fget s.fs n).b)).length) }))), MpB (syncS ({ s with fs := setF s.fs n (truncF s n (framesJ 0 (scanJ 0 (fget s.fs n).b)).length) })).m (fsV (syncS ({ s with fs := setF s.fs n (truncF s n (framesJ 0 (scanJ 0 (fget s.fs n).b)).length) })).fs)]) [_] (sync_spec (s := { s with fs := setF s.fs n (truncF s n (framesJ 0 (scanJ 0 (fget s.fs n).b)).length) }) (OkF.setF hok hth (truncF_ok hok n _)) (by show _ ≤ s.left ∧ s.left ≤ _; omega))) (fun _ => ?_)
    have hsy := CalmD.sync (s := { s with fs := setF s.fs n (truncF s n (framesJ 0 (scanJ 0 (fget s.fs n).b)).length) }) ⟨hcalm.off, hcalm.armed⟩
    rw [hsy.1, hsy.2]
    refine RL.assign rfl rfl rfl ?_
    refine RL.nil ?_
    refine NX.seq ?_
    refine TR.seq ?_
    refine TR.seq ?_
    refine TR.region ?_
    refine RL.move rfl rfl rfl ?_
    refine RL.bin rfl rfl rfl (BinV.to (d := false) BinV.neq (decide_eq_false (by simp))) rfl ?_
    refine RL.nil ?_
    refine NX.seq ?_
    refine TR.condF rfl ?_
    refine TR.skip ?_
    refine NX.seq ?_
    refine TR.seq ?_
    refine TR.region ?_
    refine RL.move rfl rfl rfl ?_
    refine RL.move rfl rfl rfl ?_
    refine RL.move rfl rfl rfl ?_
    refine RL.lenSlice rfl xe_tl27 rfl rfl ?_
    refine RL.build rfl rfl (xe_bv88_0_1_2 _ _ _) rfl ?_
    refine RL.boxA rfl rfl rfl (fun b2 => ?_)
    refine RL.move rfl rfl rfl ?_
    refine RL.assign rfl rfl rfl ?_
    refine RL.assign rfl rfl rfl ?_
    refine RL.assign rfl rfl rfl ?_
    refine RL.nil ?_
    refine NX.seq ?_
    refine TR.ret ?_
    refine NX.ret3 (⟨(b2, S.1), S.2⟩ : {z : Nat × LsX // z.2.ps.map Prod.fst = scanJ 0 (fget s.fs n).b ∧ ∀ p, p ∈ z.2.ps → p.1.length ≤ p.2.c}) rfl rfl rfl rfl rfl (fun w hw => ?_)
    have e9 : openFs s n = hard (setF s.fs n (truncF s n (framesJ 0 (scanJ 0 (fget s.fs n).b)).length)) := by unfold openFs; rw [if_pos hlt]
    rw [e9]
    refine (St.hardF (fs := setF s.fs n (truncF s n (framesJ 0 (scanJ 0 (fget s.fs n).b)).length)) ?_ hw).facts ?_
    · exact .head _
    · intro φ h
      rcases List.mem_cons.1 h with e1 | h
      · exact e1 ▸ .tail _ (.tail _ (.head _))
      rcases List.mem_cons.1 h with e1 | h
      · exact e1 ▸ .head _
      exact .tail _ (.tail _ (.tail _ (.tail _ h)))
  · skip
    have hlt : ¬ (framesJ 0 (scanJ 0 (fget s.fs n).b)).length < (fget s.fs n).b.length := by have := of_decide_eq_false h1; omega
    refine TR.skip ?_
    refine NX.seq ?_
    refine TR.seq ?_
    refine TR.seq ?_
    refine TR.region ?_
    refine RL.move rfl rfl rfl ?_
    refine RL.bin rfl rfl rfl (BinV.to (d := true) BinV.eql (decide_eq_true rfl)) rfl ?_
    refine RL.nil ?_
    refine NX.seq ?_
    refine TR.condT rfl ?_
    refine TR.region ?_
    refine RL.move rfl rfl rfl ?_
    refine RL.call rfl rfl Try.call54 rfl (Ctr.frame (J := [Box b 92 (dkC (s)), MpB (s).m (fsV (s).fs)]) (J' := fun _ : Unit => [Box b 92 (dkC (syncS s)), MpB (syncS s).m (fsV (syncS s).fs)]) [_] (sync_spec (s := s) hok (by omega))) (fun _ => ?_)
    have hsy := CalmD.sync hcalm
    rw [hsy.1, hsy.2]
    refine RL.assign rfl rfl rfl ?_
    refine RL.nil ?_
    refine NX.seq ?_
    refine TR.seq ?_
    refine TR.seq ?_
    refine TR.region ?_
    refine RL.move rfl rfl rfl ?_
    refine RL.bin rfl rfl rfl (BinV.to (d := false) BinV.neq (decide_eq_false (by simp))) rfl ?_
    refine RL.nil ?_
    refine NX.seq ?_
    refine TR.condF rfl ?_
    refine TR.skip ?_
    refine NX.seq ?_
    refine TR.seq ?_
    refine TR.region ?_
    refine RL.move rfl rfl rfl ?_
    refine RL.move rfl rfl rfl ?_
    refine RL.move rfl rfl rfl ?_
    refine RL.lenSlice rfl xe_tl27 rfl rfl ?_
    refine RL.build rfl rfl (xe_bv88_0_1_2 _ _ _) rfl ?_
    refine RL.boxA rfl rfl rfl (fun b3 => ?_)
    refine RL.move rfl rfl rfl ?_
    refine RL.assign rfl rfl rfl ?_
    refine RL.assign rfl rfl rfl ?_
    refine RL.assign rfl rfl rfl ?_
    refine RL.nil ?_
    refine NX.seq ?_
    refine TR.ret ?_
    refine NX.ret3 (⟨(b3, S.1), S.2⟩ : {z : Nat × LsX // z.2.ps.map Prod.fst = scanJ 0 (fget s.fs n).b ∧ ∀ p, p ∈ z.2.ps → p.1.length ≤ p.2.c}) rfl rfl rfl rfl rfl (fun w hw => ?_)
    have e9 : openFs s n = hard s.fs := by unfold openFs; rw [if_neg hlt]
    rw [e9]
    exact (St.hardF (fs := s.fs) (by first | exact hA | exact .tail _ hA | exact .tail _ (.tail _ hA) | exact .tail _ (.tail _ (.tail _ hA)) | exact .tail _ (.tail _ (.tail _ (.tail _ hA)))) hw).facts (fun φ h => by
      rcases List.mem_cons.1 h with e1 | h
      · exact e1 ▸ .tail _ (.head _)
      rcases List.mem_cons.1 h with e1 | h
      · exact e1 ▸ .head _
      exact .tail _ (.tail _ (.tail _ h)))

end Go.Proofs.Ytdlpaojkkekdlaa

namespace Go.Proofs.Ytdlpaojkkekdlaa
open Go.GL
set_option linter.unusedVariables false
theorem xf_tp36 : tyPtr Try.prog 36 92 = true := by kernel_rfl
theorem open_nil {n : Int} {M : List HP} {F : List Fact} : Ctr Try.prog 22 [.pointer none, I n] M F Unit (fun _ => .tuple #[.pointer none, .slice none 0 0, I 1]) (fun _ => M) (fun _ => F) := by
  refine Ctr.body Try.func22 rfl rfl ?_
  refine TR.seq ?_
  refine TR.region ?_
  refine RL.assign rfl rfl rfl ?_
  refine RL.assign rfl rfl rfl ?_
  refine RL.assign rfl rfl rfl ?_
  refine RL.nil ?_
  refine NX.seq ?_
  refine TR.seq ?_
  refine TR.seq ?_
  refine TR.region ?_
  refine RL.move rfl rfl rfl ?_
  refine RL.bin rfl rfl rfl (BinV.eqlPtrNil xf_tp36) rfl ?_
  refine RL.nil ?_
  refine NX.seq ?_
  refine TR.condT rfl ?_
  refine TR.seq ?_
  refine TR.region ?_
  refine RL.assign rfl rfl rfl ?_
  refine RL.assign rfl rfl rfl ?_
  refine RL.assign rfl rfl rfl ?_
  refine RL.nil ?_
  refine NX.seq ?_
  refine TR.ret ?_
  refine NX.retThen ?_
  exact NX.ret3 () rfl rfl rfl rfl rfl (fun w hw => hw)

theorem open_bad {n : Int} {b : Nat} {s : Ds} {M : List HP} {F : List Fact} (hth : ¬ there n) (hn64 : I64 n) (hok : OkF s.fs) (hA : AllF s.fs ∈ F) (hu : used s.fs ≤ 16777216) : Ctr Try.prog 22 [.pointer (some ⟨b, 0, none⟩), I n] (Box b 92 (dkC (s)) :: MpB (s).m (fsV (s).fs) :: M) F Unit (fun _ => .tuple #[.pointer none, .slice none 0 0, I 1]) (fun _ => Box b 92 (dkC (s)) :: MpB (s).m (fsV (s).fs) :: M) (fun _ => F) := by
  refine Ctr.body Try.func22 rfl rfl ?_
  refine TR.seq ?_
  refine TR.region ?_
  refine RL.assign rfl rfl rfl ?_
  refine RL.assign rfl rfl rfl ?_
  refine RL.assign rfl rfl rfl ?_
  refine RL.nil ?_
  refine NX.seq ?_
  refine TR.seq ?_
  refine TR.seq ?_
  refine TR.region ?_
  refine RL.move rfl rfl rfl ?_
  refine RL.bin rfl rfl rfl (BinV.eqlPtrNil xf_tp36) rfl ?_
  refine RL.nil ?_
  refine NX.seq ?_
  refine TR.condF rfl ?_
  refine TR.skip ?_
  refine NX.seq ?_
  refine TR.seq ?_
  refine TR.region ?_
  refine RL.move rfl rfl rfl ?_
  refine RL.move rfl rfl rfl ?_
  refine RL.call rfl rfl Try.call52 rfl (read_dspec hok hA (by omega) hn64) (fun y => ?_)
  rw [show readE s n = 1 from by unfold readE; rw [if_pos hth]]
  refine RL.weak (fun w hw => hw.drop 0 rfl) ?_
  refine RL.move rfl rfl rfl ?_
  refine RL.extract rfl rfl rfl rfl ?_
  refine RL.extract rfl rfl rfl rfl ?_
  refine RL.assign rfl rfl rfl ?_
  refine RL.assign rfl rfl rfl ?_
  refine RL.nil ?_
  refine NX.seq ?_
  refine TR.seq ?_
  refine TR.seq ?_
  refine TR.region ?_
  refine RL.move rfl rfl rfl ?_
  refine RL.bin rfl rfl rfl (BinV.to (d := true) BinV.neq (by simp)) rfl ?_
  refine RL.nil ?_
  refine NX.seq ?_
  refine TR.condT rfl ?_
  refine TR.seq ?_
  refine TR.region ?_
  refine RL.move rfl rfl rfl ?_
  refine RL.assign rfl rfl rfl ?_
  refine RL.assign rfl rfl rfl ?_
  refine RL.assign rfl rfl rfl ?_
  refine RL.nil ?_
  refine NX.seq ?_
  refine TR.ret ?_
  refine NX.retThen ?_
  exact NX.ret3 () rfl rfl rfl rfl rfl (fun w hw => hw)

theorem fresh_spec {k : Nat} {M : List HP} {F : List Fact} (hk : k ≤ 16777216) : Ctr Try.prog 21 [I k] M F (Nat × Nat) (fun z => .pointer (some ⟨z.1, 0, none⟩)) (fun z => Box z.1 92 (dkC ⟨z.2, [], k, false, false, 0⟩) :: MpB z.2 (fsV []) :: M) (fun _ => F) := by
  refine Ctr.body Try.func21 rfl rfl ?_
  refine TR.seq ?_
  refine TR.region ?_
  refine RL.assign rfl rfl rfl ?_
  refine RL.nil ?_
  refine NX.seq ?_
  refine TR.seq ?_
  refine TR.region ?_
  refine RL.move rfl rfl rfl ?_
  refine RL.call rfl rfl Try.call51 rfl (new_ok hk) (fun z => ?_)
  refine RL.move rfl rfl rfl ?_
  refine RL.extract rfl rfl rfl rfl ?_
  refine RL.extract rfl rfl rfl rfl ?_
  refine RL.assign rfl rfl rfl ?_
  refine RL.assign rfl rfl rfl ?_
  refine RL.nil ?_
  refine NX.seq ?_
  refine TR.seq ?_
  refine TR.seq ?_
  refine TR.region ?_
  refine RL.move rfl rfl rfl ?_
  refine RL.bin rfl rfl rfl (BinV.to (d := false) BinV.neq (by simp)) rfl ?_
  refine RL.nil ?_
  refine NX.seq ?_
  refine TR.condF rfl ?_
  refine TR.skip ?_
  refine NX.seq ?_
  refine TR.seq ?_
  refine TR.region ?_
  refine RL.move rfl rfl rfl ?_
  refine RL.assign rfl rfl rfl ?_
  refine RL.nil ?_
  refine NX.seq ?_
  refine TR.ret ?_
  exact NX.ret1 z rfl rfl rfl (fun w hw => hw)

end Go.Proofs.Ytdlpaojkkekdlaa

namespace Go.GL
set_option linter.unusedVariables false
theorem CalmD.full {s : Ds} {g : Lg} {x : List UInt8} {z : RdX} (h : CalmD s) (hf : there g.f) (hd : g.dn = false) (hx : ¬ (65536 : Int) < x.length) (hr : (s.room : Int) - used s.fs < (lgFr g x).length) : lgE s g x z = 21 ∧ lgS s g x z = s ∧ lgG s g x z = g := by
  have h1 : ¬ s.off = true := by rw [h.off]; simp
  have h2 : ¬ g.dn = true := by rw [hd]; simp
  have ha : appE s g.f (lgFr g x) = 21 := by unfold appE; rw [if_neg (show ¬ ¬ there g.f from fun e => e hf), if_neg h1, if_pos hr]
  obtain ⟨e1, e2, e3⟩ := lgE_app (z := z) hx h2 (show appE s g.f (lgFr g x) ≠ 0 by rw [ha]; decide)
  refine ⟨by rw [e1, ha], ?_, ?_⟩
  · rw [e2]; unfold appS; rw [if_neg (show ¬ ¬ there g.f from fun e => e hf), if_neg h1, if_pos hr]
  · rw [e3, ha]
    obtain ⟨f, n, dn⟩ := g
    simp only at hd
    subst hd
    rfl
theorem CalmD.fits {s : Ds} {g : Lg} {x : List UInt8} {z : RdX} (h : CalmD s) (hf : there g.f) (hd : g.dn = false) (hx : ¬ (65536 : Int) < x.length) (hr : ¬ (s.room : Int) - used s.fs < (lgFr g x).length) : lgE s g x z = 0 ∧ lgS s g x z = { s with fs := hard (setF s.fs g.f (appF s g.f (lgFr g x) z)) } ∧ lgG s g x z = { g with n := g.n + 1 } := by
  have h1 : ¬ s.off = true := by rw [h.off]; simp
  have h2 : ¬ g.dn = true := by rw [hd]; simp
  have ha : appE s g.f (lgFr g x) = 0 := by unfold appE; rw [if_neg (show ¬ ¬ there g.f from fun e => e hf), if_neg h1, if_neg hr, if_pos h.step.2]
  have hs : appS s g.f (lgFr g x) z = { s with fs := setF s.fs g.f (appF s g.f (lgFr g x) z) } := by
    unfold appS
    rw [if_neg (show ¬ ¬ there g.f from fun e => e hf), if_neg h1, if_neg hr]
    exact (CalmD.step (s := { s with fs := setF s.fs g.f (appF s g.f (lgFr g x) z) }) ⟨h.off, h.armed⟩).1
  have hc : CalmD (appS s g.f (lgFr g x) z) := by rw [hs]; exact ⟨h.off, h.armed⟩
  obtain ⟨e1, e2, e3⟩ := lgE_sync (z := z) hx h2 (show ¬ appE s g.f (lgFr g x) ≠ 0 by rw [ha]; simp)
  refine ⟨by rw [e1, hc.sync.1], by rw [e2, hc.sync.2, hs], ?_⟩
  rw [e3, hc.sync.1]
  obtain ⟨f, n, dn⟩ := g
  simp only at hd
  subst hd
  rfl
theorem lgFr_pos (g : Lg) (x : List UInt8) : 0 < (lgFr g x).length := frameJ_pos _ _
/-- the files behind an Append that fits -/
theorem files_app {s : Ds} {n : Int} {fr : List UInt8} {z : RdX} (hok : OkF s.fs) (hn : there n) (hz : ((fget s.fs n).b ++ fr).length ≤ z.c) (hp : 0 < fr.length) :
    OkF (hard (setF s.fs n (appF s n fr z))) ∧ (fget (hard (setF s.fs n (appF s n fr z))) n).b = (fget s.fs n).b ++ fr ∧ used (hard (setF s.fs n (appF s n fr z))) = used s.fs + fr.length := by
  have hlen : (appF s n fr z).b.length = (fget s.fs n).b.length + fr.length := by show ((fget s.fs n).b ++ fr).length = _; rw [List.length_append]
  have e : setF s.fs n (appF s n fr z) = fset s.fs n (appF s n fr z) := by unfold setF; rw [if_neg (by omega)]
  refine ⟨OkF.hard (OkF.setF hok hn ⟨hz, ?_⟩), ?_, ?_⟩
  · have := (fget_each hok n).2
    show (fget s.fs n).dur ≤ (appF s n fr z).b.length
    omega
  · rw [fget_hard, e, fget_set]; rfl
  · rw [used_hard, e]
    have := used_set s.fs n (appF s n fr z)
    omega
theorem open_whole {s : Ds} {n : Int} {L : List (List UInt8)} (hb : (fget s.fs n).b = framesJ 0 L) (hL : FitJ 0 L) : scanJ 0 (fget s.fs n).b = L ∧ openFs s n = hard s.fs := by
  have h1 : scanJ 0 (fget s.fs n).b = L := by
    have h := scanJ_frames L 0 [] hL
    rw [List.append_nil, scanJ_nil, List.append_nil] at h
    rw [hb, h]
  refine ⟨h1, ?_⟩
  unfold openFs
  rw [h1, hb, if_neg (Nat.lt_irrefl _)]
end Go.GL

namespace Go.GL
set_option linter.unusedVariables false
def tyMk (P : Program) (t e : TypeId) : Bool := match P.underlying t, P.info? e with
  | some (.slice e'), some i => decide (e' = e) && Nat.beq i.size 1 && Nat.beq i.bytes 1 && (match i.zero with | some (.int .u8 k) => decide (k = 0) | _ => false)
  | _, _ => false
theorem made_bytes (n : Nat) : (madeCells #[Value.int .u8 0] (n * 1)).toList = bytesV (List.replicate n 0) := by
  refine List.ext_getElem (by simp [madeCells, bytesV]) fun i h1 h2 => ?_
  simp [madeCells, bytesV]
  rw [Nat.mod_one]; rfl
section
variable {P : Program} {r : Option Nat} {N : Nat} {ops : Array Oper} {rest : List Oper} {Q : Exit → Act → World → Prop} {E : Env} {ds : List Deferred} {M : List HP} {F : List Fact}
variable {d : Nat} {ty : TypeId} {pos : String} {aft : Array Edge} {gd : Option (Nat × Bool)}
theorem GV.makeBytes {t e n : Nat} {x y : Operand} (ht : tyMk P t e = true) (hx : evalO E x = some (I (n : Int))) (hy : evalO E y = some (I (n : Int))) (hn : n ≤ 16777216) : GV P E M F ⟨some d, .makeSlice t x y, ty, pos, aft, gd⟩ Nat (fun b => .slice (some ⟨b, 0, none⟩) n n) (fun b => OwnSl e 1 (some ⟨b, 0, none⟩) n n (bytesV (List.replicate n 0)) :: M) (fun _ => F) := ⟨rfl, fun ρ hρ w hw => by
  unfold tyMk at ht
  split at ht
  · rename_i e' i h1 h2
    simp only [Bool.and_eq_true, decide_eq_true_eq] at ht
    obtain ⟨⟨⟨rfl, h3⟩, h4⟩, h5⟩ := ht
    split at h5
    · rename_i k h6
      have hk := of_decide_eq_true h5
      subst hk
      have hs := Nat.eq_of_beq_eq_true h3
      have hb := Nat.eq_of_beq_eq_true h4
      obtain ⟨w', hrun, hown, hgr⟩ := run_makeSlice_full (P := P) (w := w) 0 t e' i (.int .u8 0) 1 h1 h2 h6 hs .i64 .i64 n (by omega) (by rw [hb]; omega) (by simp [maxLen]; omega) (Nat.zero_le _)
      refine ⟨w.heap.size, w', by simp [execOp, hρ _ _ hx, hρ _ _ hy, hrun], ?_⟩
      have e1 : (madeCells (Value.int .u8 0).cells (n * 1)).toList = bytesV (List.replicate n 0) := made_bytes n
      rw [e1] at hown
      exact hw.new hgr.os hgr.tape hgr.output hgr.size (fun b hb => hgr.block b hb (by simp)) (K' := [w.heap.size]) ⟨hown, rfl⟩ (by simp) (by simp)
    · cases h5
  · cases ht⟩
end
end Go.GL

namespace Go.GL
set_option linter.unusedVariables false
def iAt (l : List Int) (p : Nat) : Int := l.getD p 0
def swp (l : List Int) (j : Nat) : List Int := (l.set j (iAt l (j - 1))).set (j - 1) (iAt l j)
theorem iAt_get {l : List Int} {p : Nat} (h : p < l.length) : iAt l p = l[p] := by unfold iAt; rw [List.getD_eq_getElem?_getD, List.getElem?_eq_getElem h]; rfl
theorem swp_len (l : List Int) (j : Nat) : (swp l j).length = l.length := by unfold swp; rw [List.length_set, List.length_set]
theorem swp_at {l : List Int} {j p : Nat} (hj : j < l.length) (h0 : 0 < j) : iAt (swp l j) p = if p = j then iAt l (j - 1) else if p = j - 1 then iAt l j else iAt l p := by
  unfold swp
  show ((l.set j (iAt l (j - 1))).set (j - 1) (iAt l j)).getD p 0 = _
  rw [List.getD_eq_getElem?_getD, List.getElem?_set, List.getElem?_set, List.length_set]
  by_cases e : p = j
  · subst e
    rw [if_neg (by omega), if_pos rfl, if_pos hj, if_pos rfl]; rfl
  · by_cases e2 : p = j - 1
    · subst e2
      rw [if_pos rfl, if_pos (by omega), if_neg e, if_pos rfl]; rfl
    · rw [if_neg (fun e3 => e2 e3.symm), if_neg (fun e3 => e e3.symm), if_neg e, if_neg e2]
      unfold iAt; rw [List.getD_eq_getElem?_getD]
/-- the first i stand in order -/
def Ord (l : List Int) (i : Nat) : Prop := ∀ p q, p < q → q < i → iAt l p ≤ iAt l q
/-- the same but for the one at j, which is on its way down -/
def OrdBut (l : List Int) (i j : Nat) : Prop := (∀ p q, p < q → q ≤ i → p ≠ j → q ≠ j → iAt l p ≤ iAt l q) ∧ ∀ q, j < q → q ≤ i → iAt l j ≤ iAt l q
theorem OrdBut.start {l : List Int} {i : Nat} (h : Ord l i) : OrdBut l i i := ⟨fun p q h1 h2 _ h4 => h p q h1 (by omega), fun q h1 h2 => by omega⟩
theorem OrdBut.step {l : List Int} {i j : Nat} (h : OrdBut l i j) (hi : i < l.length) (hj : j ≤ i) (h0 : 0 < j) (hlt : iAt l j < iAt l (j - 1)) : OrdBut (swp l j) i (j - 1) := by
  have at_ := fun p => swp_at (l := l) (j := j) (p := p) (by omega) h0
  refine ⟨fun p q h1 h2 h3 h4 => ?_, fun q h1 h2 => ?_⟩
  · rw [at_ p, at_ q, if_neg h3, if_neg h4]
    by_cases e1 : p = j
    · rw [if_pos e1, if_neg (by omega)]
      exact h.1 (j - 1) q (by omega) h2 (by omega) (by omega)
    · rw [if_neg e1]
      by_cases e2 : q = j
      · rw [if_pos e2]; exact h.1 p (j - 1) (by omega) (by omega) e1 (by omega)
      · rw [if_neg e2]; exact h.1 p q h1 h2 e1 e2
  · rw [at_ (j - 1), at_ q, if_neg (by omega), if_pos rfl]
    by_cases e2 : q = j
    · rw [if_pos e2]; omega
    · rw [if_neg e2, if_neg (by omega)]; exact h.2 q (by omega) h2
theorem OrdBut.stop {l : List Int} {i j : Nat} (h : OrdBut l i j) (hj : j ≤ i) (hs : j = 0 ∨ ¬ iAt l j < iAt l (j - 1)) : Ord l (i + 1) := by
  intro p q h1 h2
  by_cases e1 : p = j
  · subst e1; exact h.2 q h1 (by omega)
  · by_cases e2 : q = j
    · subst e2
      have h3 : ¬ iAt l q < iAt l (q - 1) := hs.resolve_left (by omega)
      by_cases e3 : p = q - 1
      · subst e3; omega
      · have := h.1 p (q - 1) (by omega) (by omega) e1 (by omega); omega
    · exact h.1 p q h1 (by omega) e1 e2
theorem swp_perm {l : List Int} {j : Nat} (hj : j < l.length) (h0 : 0 < j) : (swp l j).Perm l := by
  unfold swp
  rw [iAt_get hj, iAt_get (show j - 1 < l.length by omega)]
  exact List.set_set_perm (by omega) (by omega) |>.trans (List.Perm.refl _)
theorem Ord.sorted {l : List Int} (h : Ord l l.length) : l.Pairwise (· ≤ ·) := by
  rw [List.pairwise_iff_getElem]
  intro p q hp hq hpq
  have := h p q hpq hq
  rwa [iAt_get hp, iAt_get hq] at this
theorem ints_iAt {l : List Int} {v : Int} (p : Nat) (hv : v.toNat = p) (h : p < l.length) : (ints l)[0 + v.toNat * 1]? = some (I (iAt l p)) := by
  rw [hv, Nat.zero_add, Nat.mul_one, iAt_get h, List.getElem?_map, List.getElem?_eq_getElem h]; rfl
theorem ints_set {l : List Int} {v x : Int} (p : Nat) (hv : v.toNat = p) (h : p < l.length) : (ints l).take (0 + v.toNat * 1) ++ [I x] ++ (ints l).drop (0 + v.toNat * 1 + 1) = ints (l.set p x) := by
  rw [hv, Nat.zero_add, Nat.mul_one, List.set_eq_take_append_cons_drop, if_pos h]
  simp
section
variable {P : Program} {r : Option Nat} {N : Nat} {ops : Array Oper} {rest : List Oper} {Q : Exit → Act → World → Prop} {E : Env} {ds : List Deferred} {M : List HP} {F : List Fact}
variable {d : Nat} {ty : TypeId} {pos : String} {aft : Array Edge} {gd : Option (Nat × Bool)}
theorem RL.indexSU {T : TypeId} {x y : Operand} {l : List UInt8} {n : Nat} {ik : IntKind} {u : UInt8} (hg : wantedG ops E gd = some true) (ht : tyStr P T = true) (hx : evalO E x = some (S l)) (hy : evalO E y = some (.int ik (n : Int))) (hu : l[n]? = some u) (hN : Nat.ble (d + 1) N = true) (k : RL P r N ops rest Q ((d, .int .u8 u.toNat) :: E) ds M F) : RL P r N ops (⟨some d, .index T x y, ty, pos, aft, gd⟩ :: rest) Q E ds M F :=
  RL.val rfl hg hN (fun ρ hρ w _ => by
    have hlt := (List.getElem?_eq_some_iff.1 hu).1
    have hb : (⟨l.toArray⟩ : ByteArray)[n]? = some u := by
      rw [getElem?_pos (⟨l.toArray⟩ : ByteArray) n (by rw [S_size]; exact hlt)]
      rw [List.getElem?_eq_getElem hlt] at hu
      exact hu
    simp [execOp, hρ _ _ hx, hρ _ _ hy, Instr.index, asIntOf, run_underlying (tyStr_underlying ht), hb]) k
end
end Go.GL
