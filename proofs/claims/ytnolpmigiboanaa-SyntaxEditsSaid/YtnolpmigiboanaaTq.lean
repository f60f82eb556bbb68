/- Walks of the functions of package syntax and of its reference model. Printed by s07.py. -/
import Derived.Test.YtnolpmigiboanaaEd
import Derived.Test.YtnolpmigiboanaaTp
namespace Go.Proofs.Ytnolpmigiboanaa
open Go.GL Go.GL.Tree
set_option linter.unusedVariables false
theorem B_bs65_1_0 (x00 : Int) (x01 : Int) (x02 : List UInt8) : BuildSV Try.prog 65 64 1 [(0, .agg #[.int .i64 x00, .int .i64 x01, S x02])] [.int .i64 x00, .int .i64 x01, S x02] := fun w => by kernel_rfl
theorem B_bv64_0_1_2 (x0 : Int) (x1 : Int) (x2 : List UInt8) : BuildV Try.prog 64 [(0, .int .i64 x0), (1, .int .i64 x1), (2, S x2)] (.agg #[.int .i64 x0, .int .i64 x1, S x2]) := fun w => by kernel_rfl
theorem B_ta64 : tyAgg Try.prog 64 3 = true := by kernel_rfl
theorem B_tf64_0 : fieldOff Try.prog 64 0 0 = true := by kernel_rfl
theorem B_tf64_1 : fieldOff Try.prog 64 1 1 = true := by kernel_rfl
theorem B_tf64_2 : fieldOff Try.prog 64 2 2 = true := by kernel_rfl
theorem B_tl65 : tySlice Try.prog 65 64 = true := by kernel_rfl
theorem B_ts3 : tyScalar Try.prog 3 = true := by kernel_rfl
theorem B_ts9 : tyScalar Try.prog 9 = true := by kernel_rfl
theorem B_tstr9 : tyStr Try.prog 9 = true := by kernel_rfl
theorem B_tz64 : tySize Try.prog 64 3 = true := by kernel_rfl
theorem sound_spec {es : List Ed} {oa : Option Addr} {ca : Nat} {size : Int} {M : List HP} {F : List Fact} (ha : ArrF oa (edC es) ∈ F) (hl : es.length ≤ 4611686018427387904) : Ctr Try.prog 67 [.slice oa es.length ca, I size] M F Unit (fun _ => I (soundE size es)) (fun _ => M) (fun _ => F) := by
  refine Ctr.body Try.func67 rfl rfl ?_
  refine TR.seq ?_
  refine TR.region ?_
  refine RL.assign rfl rfl rfl ?_
  refine RL.nil ?_
  refine NX.seq ?_
  refine TR.seq ?_
  refine TR.seq ?_
  refine TR.region ?_
  refine RL.move rfl rfl rfl ?_
  refine RL.lenSlice rfl B_tl65 rfl rfl ?_
  refine RL.bin rfl rfl rfl BinV.gtr rfl ?_
  refine RL.nil ?_
  refine NX.seq ?_
  refine TR.cond rfl (fun h1 => ?_) (fun h1 => ?_)
  · skip
    have hbig : 64 < es.length := by have := of_decide_eq_true h1; omega
    refine TR.seq ?_
    refine TR.region ?_
    refine RL.assign rfl rfl rfl ?_
    refine RL.nil ?_
    refine NX.seq ?_
    refine TR.ret ?_
    refine NX.retThen ?_
    exact NX.ret1 () rfl rfl (by unfold soundE; rw [if_pos hbig]) (fun w hw => hw)
  · skip
    have hsm : ¬ 64 < es.length := by have := of_decide_eq_false h1; omega
    refine TR.skip ?_
    refine NX.seq ?_
    refine TR.seq ?_
    refine TR.region ?_
    refine RL.assign rfl rfl rfl ?_
    refine RL.nil ?_
    refine NX.seq ?_
    refine TR.seq ?_
    refine TR.seq ?_
    refine TR.region ?_
    refine RL.move rfl rfl rfl ?_
    refine RL.lenSlice rfl B_tl65 rfl rfl ?_
    refine RL.move rfl rfl rfl ?_
    refine RL.nil ?_
    refine NX.seq ?_
    refine TR.block ?_
    refine TR.loopP (ι := Nat × Int) (fun x => x.1 ≤ es.length ∧ sound1 size x.2 (es.drop x.1) = sound1 size 0 es) (fun x => [(0, .slice oa es.length ca), (1, I size), (5, I x.2), (11, .slice oa es.length ca), (12, I es.length), (13, I x.1)]) (fun _ => M) (fun _ => F) (fun x => es.length - x.1) (0, 0) ⟨Nat.zero_le _, rfl⟩ ⟨rfl, rfl, rfl, rfl, rfl, rfl, trivial⟩ (fun w hw => hw) (fun x hx => ?_)
    refine TR.seq ?_
    refine TR.region ?_
    refine RL.bin rfl rfl rfl BinV.lss rfl ?_
    refine RL.nil ?_
    refine NX.seq ?_
    refine TR.seq ?_
    refine TR.cond rfl (fun h2 => ?_) (fun h2 => ?_)
    · skip
      have hk1 : x.1 < es.length := by have := of_decide_eq_true h2; omega
      have hdk := List.drop_eq_getElem_cons hk1
      refine TR.openP (open_arr (oa := oa) (xs := edC es) ha (fun e => by have h8 := edC_length es; rw [e] at h8; simp at h8; omega)) (fun pq hpa => ?_)
      refine TR.skip ?_
      refine NX.seq ?_
      refine TR.seq ?_
      refine TR.block ?_
      refine TR.seq ?_
      refine TR.region ?_
      refine RL.indexAddr rfl B_tl65 B_tz64 (congrArg (fun a => some (Value.slice a _ _)) hpa) rfl (by omega) (by omega) rfl ?_
      refine RL.loadF rfl rfl (fun w K hF => run_ed (hF _ (.head _)) B_ta64 hk1) rfl ?_
      refine RL.allocA rfl (Try.zeroValue64) rfl (fun b3 => ?_)
      refine RL.storeA 0 rfl rfl rfl rfl B_tz64 rfl rfl ?_
      refine RL.nil ?_
      refine NX.seq ?_
      refine TR.seq ?_
      refine TR.block ?_
      refine TR.seq ?_
      refine TR.region ?_
      refine RL.fieldAddr rfl B_tf64_0 rfl rfl ?_
      refine RL.load1 0 rfl B_ts3 rfl rfl rfl rfl ?_
      refine RL.bin rfl rfl rfl BinV.lss rfl ?_
      refine RL.move rfl rfl rfl ?_
      refine RL.part (fun h4 => ?_) (fun h4 => ?_)
      · skip
        have hA := of_decide_eq_true h4
        have hbad : es[x.1].f < 0 ∨ es[x.1].t < es[x.1].f ∨ size < es[x.1].t := .inl hA
        refine RL.skip rfl rfl rfl ?_
        refine RL.skip rfl rfl rfl ?_
        refine RL.skip rfl rfl rfl ?_
        refine RL.skip rfl rfl rfl ?_
        refine RL.skip rfl rfl rfl ?_
        refine RL.pickT rfl rfl rfl rfl ?_
        refine RL.move rfl rfl rfl ?_
        refine RL.skip rfl rfl rfl ?_
        refine RL.skip rfl rfl rfl ?_
        refine RL.skip rfl rfl rfl ?_
        refine RL.skip rfl rfl rfl ?_
        refine RL.pickT rfl rfl rfl rfl ?_
        refine RL.assign rfl rfl rfl ?_
        refine RL.nil ?_
        refine NX.seq ?_
        refine TR.condT rfl ?_
        refine TR.seq ?_
        refine TR.region ?_
        refine RL.assign rfl rfl rfl ?_
        refine RL.nil ?_
        refine NX.seq ?_
        refine TR.ret ?_
        refine NX.retBlock ?_
        refine NX.retThen ?_
        refine NX.retBlock ?_
        refine NX.retThen ?_
        refine NX.retThen ?_
        refine NX.retBlock ?_
        refine NX.retThen ?_
        have h9 := hx.2
        rw [hdk, sound1_bad hbad] at h9
        exact NX.ret1 () rfl rfl (by unfold soundE; rw [if_neg hsm, ← h9]) (fun w hw => hw.tail.facts (fun φ h => .tail _ (h)))
      · skip
        have hA := of_decide_eq_false h4
        refine RL.fieldAddr rfl B_tf64_1 rfl rfl ?_
        refine RL.load1 0 rfl B_ts3 rfl rfl rfl rfl ?_
        refine RL.fieldAddr rfl B_tf64_0 rfl rfl ?_
        refine RL.load1 0 rfl B_ts3 rfl rfl rfl rfl ?_
        refine RL.bin rfl rfl rfl BinV.lss rfl ?_
        refine RL.pickF rfl rfl rfl rfl ?_
        refine RL.move rfl rfl rfl ?_
        refine RL.part (fun h5 => ?_) (fun h5 => ?_)
        · skip
          have hB := of_decide_eq_true h5
          have hbad : es[x.1].f < 0 ∨ es[x.1].t < es[x.1].f ∨ size < es[x.1].t := .inr (.inl hB)
          refine RL.skip rfl rfl rfl ?_
          refine RL.skip rfl rfl rfl ?_
          refine RL.skip rfl rfl rfl ?_
          refine RL.skip rfl rfl rfl ?_
          refine RL.pickT rfl rfl rfl rfl ?_
          refine RL.assign rfl rfl rfl ?_
          refine RL.nil ?_
          refine NX.seq ?_
          refine TR.condT rfl ?_
          refine TR.seq ?_
          refine TR.region ?_
          refine RL.assign rfl rfl rfl ?_
          refine RL.nil ?_
          refine NX.seq ?_
          refine TR.ret ?_
          refine NX.retBlock ?_
          refine NX.retThen ?_
          refine NX.retBlock ?_
          refine NX.retThen ?_
          refine NX.retThen ?_
          refine NX.retBlock ?_
          refine NX.retThen ?_
          have h9 := hx.2
          rw [hdk, sound1_bad hbad] at h9
          exact NX.ret1 () rfl rfl (by unfold soundE; rw [if_neg hsm, ← h9]) (fun w hw => hw.tail.facts (fun φ h => .tail _ (h)))
        · skip
          have hB := of_decide_eq_false h5
          refine RL.fieldAddr rfl B_tf64_1 rfl rfl ?_
          refine RL.load1 0 rfl B_ts3 rfl rfl rfl rfl ?_
          refine RL.move rfl rfl rfl ?_
          refine RL.bin rfl rfl rfl BinV.gtr rfl ?_
          refine RL.pickF rfl rfl rfl rfl ?_
          refine RL.assign rfl rfl rfl ?_
          refine RL.nil ?_
          refine NX.seq ?_
          refine TR.cond rfl (fun h6 => ?_) (fun h6 => ?_)
          · skip
            have hC := of_decide_eq_true h6
            have hbad : es[x.1].f < 0 ∨ es[x.1].t < es[x.1].f ∨ size < es[x.1].t := .inr (.inr hC)
            refine TR.seq ?_
            refine TR.region ?_
            refine RL.assign rfl rfl rfl ?_
            refine RL.nil ?_
            refine NX.seq ?_
            refine TR.ret ?_
            refine NX.retBlock ?_
            refine NX.retThen ?_
            refine NX.retBlock ?_
            refine NX.retThen ?_
            refine NX.retThen ?_
            refine NX.retBlock ?_
            refine NX.retThen ?_
            have h9 := hx.2
            rw [hdk, sound1_bad hbad] at h9
            exact NX.ret1 () rfl rfl (by unfold soundE; rw [if_neg hsm, ← h9]) (fun w hw => hw.tail.facts (fun φ h => .tail _ (h)))
          · skip
            have hC := of_decide_eq_false h6
            have hok : ¬ (es[x.1].f < 0 ∨ es[x.1].t < es[x.1].f ∨ size < es[x.1].t) := by rintro (h | h | h) <;> contradiction
            refine TR.seq ?_
            refine TR.region ?_
            refine RL.fieldAddr rfl B_tf64_0 rfl rfl ?_
            refine RL.load1 0 rfl B_ts3 rfl rfl rfl rfl ?_
            refine RL.move rfl rfl rfl ?_
            refine RL.bin rfl rfl rfl BinV.lss rfl ?_
            refine RL.assign rfl rfl rfl ?_
            refine RL.nil ?_
            refine NX.seq ?_
            refine TR.cond rfl (fun h7 => ?_) (fun h7 => ?_)
            · skip
              have hlow : es[x.1].f < x.2 := of_decide_eq_true h7
              refine TR.seq ?_
              refine TR.region ?_
              refine RL.assign rfl rfl rfl ?_
              refine RL.nil ?_
              refine NX.seq ?_
              refine TR.ret ?_
              refine NX.retBlock ?_
              refine NX.retThen ?_
              refine NX.retBlock ?_
              refine NX.retThen ?_
              refine NX.retThen ?_
              refine NX.retBlock ?_
              refine NX.retThen ?_
              have h9 := hx.2
              rw [hdk, sound1_low hok hlow] at h9
              exact NX.ret1 () rfl rfl (by unfold soundE; rw [if_neg hsm, ← h9]) (fun w hw => hw.tail.facts (fun φ h => .tail _ (h)))
            · skip
              have hge : ¬ es[x.1].f < x.2 := of_decide_eq_false h7
              refine TR.skip ?_
              refine NX.off ?_
              refine NX.seq ?_
              refine TR.region ?_
              refine RL.fieldAddr rfl B_tf64_1 rfl rfl ?_
              refine RL.load1 0 rfl B_ts3 rfl rfl rfl rfl ?_
              refine RL.assign rfl rfl rfl ?_
              refine RL.nil ?_
              refine NX.off ?_
              refine NX.seq ?_
              refine TR.region ?_
              refine RL.bin rfl rfl rfl (BinV.add _ rfl (by omega) (by omega)) rfl ?_
              refine RL.move rfl rfl rfl ?_
              refine RL.nil ?_
              have h9 := hx.2
              rw [hdk, sound1_on hok hge] at h9
              refine NX.roundP (x.1 + 1, es[x.1].t) ⟨hk1, h9⟩ (by show _ - (x.1 + 1) < _ - x.1; omega) ⟨rfl, rfl, rfl, rfl, rfl, rfl, trivial⟩ (fun w hw => hw.tail.facts (fun φ h => .tail _ (h)))
    · skip
      have hk2 : x.1 = es.length := by have := of_decide_eq_false h2; have := hx.1; omega
      refine TR.exit ?_
      refine NX.exitThen ?_
      refine NX.exitThen ?_
      refine NX.exitHere ?_
      refine NX.seq ?_
      refine TR.seq ?_
      refine TR.region ?_
      refine RL.assign rfl rfl rfl ?_
      refine RL.nil ?_
      refine NX.seq ?_
      refine TR.ret ?_
      have h9 := hx.2
      rw [hk2, List.drop_length, sound1] at h9
      exact NX.ret1 () rfl rfl (by unfold soundE; rw [if_neg hsm, ← h9]) (fun w hw => hw)

theorem valid_spec {s : List UInt8} {es : List Ed} {oa : Option Addr} {ca : Nat} {M : List HP} {F : List Fact} (ha : ArrF oa (edC es) ∈ F) (hl : es.length ≤ 4611686018427387904) : Ctr Try.prog 60 [S s, .slice oa es.length ca] M F Unit (fun _ => I (soundE s.length es)) (fun _ => M) (fun _ => F) := by
  refine Ctr.body Try.func60 rfl rfl ?_
  refine TR.seq ?_
  refine TR.region ?_
  refine RL.assign rfl rfl rfl ?_
  refine RL.nil ?_
  refine NX.seq ?_
  refine TR.seq ?_
  refine TR.region ?_
  refine RL.move rfl rfl rfl ?_
  refine RL.move rfl rfl rfl ?_
  refine RL.lenStr rfl B_tstr9 rfl rfl ?_
  refine RL.call rfl rfl Try.call67 rfl (sound_spec ha hl) (fun _ => ?_)
  refine RL.assign rfl rfl rfl ?_
  refine RL.nil ?_
  refine NX.seq ?_
  refine TR.ret ?_
  exact NX.ret1 () rfl rfl rfl (fun w hw => hw)

structure ApX where
  k : Nat
  q : Nat
  B : List UInt8

theorem applyI_spec {s : List UInt8} {es : List Ed} {oa : Option Addr} {ca : Nat} {M : List HP} {F : List Fact} (ha : ArrF oa (edC es) ∈ F) (hl : es.length ≤ 4611686018427387904) (hv : sound1 s.length 0 es = 0) (hb : (applyGo s 0 es).length ≤ 140737488355328) : Ctr Try.prog 61 [S s, .slice oa es.length ca] M F Unit (fun _ => S (applyGo s 0 es)) (fun _ => M) (fun _ => F) := by
  refine Ctr.body Try.func61 rfl rfl ?_
  refine TR.seq ?_
  refine TR.region ?_
  refine RL.assign rfl rfl rfl ?_
  refine RL.nil ?_
  refine NX.seq ?_
  refine TR.seq ?_
  refine TR.region ?_
  refine RL.allocA rfl (Try.zeroValue80) rfl (fun b1 => ?_)
  refine RL.weak (fun w hw => St.bldNew (e := 5) hw) ?_
  refine RL.nil ?_
  refine NX.seq ?_
  refine TR.seq ?_
  refine TR.region ?_
  refine RL.assign rfl rfl rfl ?_
  refine RL.nil ?_
  refine NX.seq ?_
  refine TR.seq ?_
  refine TR.seq ?_
  refine TR.region ?_
  refine RL.move rfl rfl rfl ?_
  refine RL.lenSlice rfl B_tl65 rfl rfl ?_
  refine RL.move rfl rfl rfl ?_
  refine RL.nil ?_
  refine NX.seq ?_
  refine TR.block ?_
  refine TR.loopP (ι := ApX) (fun x => x.k ≤ es.length ∧ x.q ≤ s.length ∧ sound1 s.length x.q (es.drop x.k) = 0 ∧ x.B ++ applyGo s x.q (es.drop x.k) = applyGo s 0 es) (fun x => [(0, S s), (5, .pointer (some ⟨b1, 0, none⟩)), (6, I x.q), (9, .slice oa es.length ca), (10, I es.length), (11, I x.k)]) (fun x => Bld 80 5 b1 x.B :: M) (fun _ => F) (fun x => es.length - x.k) ⟨0, 0, []⟩ ⟨Nat.zero_le _, Nat.zero_le _, hv, rfl⟩ ⟨rfl, rfl, rfl, rfl, rfl, rfl, trivial⟩ (fun w hw => hw) (fun x hx => ?_)
  refine TR.seq ?_
  refine TR.region ?_
  refine RL.bin rfl rfl rfl BinV.lss rfl ?_
  refine RL.nil ?_
  refine NX.seq ?_
  refine TR.seq ?_
  refine TR.cond rfl (fun h2 => ?_) (fun h2 => ?_)
  · skip
    have hk1 : x.k < es.length := by have := of_decide_eq_true h2; omega
    have hdk := List.drop_eq_getElem_cons hk1
    obtain ⟨hq1, hs1, hg1⟩ := hx.2
    rw [hdk] at hs1 hg1
    obtain ⟨h1, h2, h3, h4, h5⟩ := sound1_cons hs1
    refine TR.openP (open_arr (oa := oa) (xs := edC es) ha (fun e => by have h8 := edC_length es; rw [e] at h8; simp at h8; omega)) (fun pq hpa => ?_)
    have hlen := congrArg List.length hg1
    simp only [applyGo, List.length_append] at hlen
    have hl2 : ((s.take es[x.k].f.toNat).drop x.q).length = es[x.k].f.toNat - x.q := by rw [List.length_drop, List.length_take]; omega
    refine TR.skip ?_
    refine NX.seq ?_
    refine TR.seq ?_
    refine TR.block ?_
    refine TR.seq ?_
    refine TR.region ?_
    refine RL.indexAddr rfl B_tl65 B_tz64 (congrArg (fun a => some (Value.slice a _ _)) hpa) rfl (by omega) (by omega) rfl ?_
    refine RL.loadF rfl rfl (fun w K hF => run_ed (hF _ (.head _)) B_ta64 hk1) rfl ?_
    refine RL.allocA rfl (Try.zeroValue64) rfl (fun b3 => ?_)
    refine RL.storeA 0 rfl rfl rfl rfl B_tz64 rfl rfl ?_
    refine RL.nil ?_
    refine NX.seq ?_
    refine TR.seq ?_
    refine TR.region ?_
    refine RL.move rfl rfl rfl ?_
    refine RL.move rfl rfl rfl ?_
    refine RL.fieldAddr rfl B_tf64_0 rfl rfl ?_
    refine RL.load1 0 rfl B_ts3 rfl rfl rfl rfl ?_
    refine RL.sliceS rfl B_tstr9 rfl rfl rfl (by omega) (by omega) (by omega) rfl ?_
    refine RL.call rfl rfl Try.call54 rfl (Ctr.frame1 [_] (writeString_spec (by rw [Int.toNat_natCast]; omega))) (fun _ => ?_)
    refine RL.nil ?_
    refine NX.seq ?_
    refine TR.seq ?_
    refine TR.region ?_
    refine RL.fieldAddr rfl B_tf64_2 rfl rfl ?_
    refine RL.load1 0 rfl B_ts9 rfl rfl rfl rfl ?_
    refine RL.call rfl rfl Try.call54 rfl (Ctr.frame1 [_] (writeString_spec (by rw [List.length_append, Int.toNat_natCast]; omega))) (fun _ => ?_)
    refine RL.nil ?_
    refine NX.seq ?_
    refine TR.region ?_
    refine RL.fieldAddr rfl B_tf64_1 rfl rfl ?_
    refine RL.load1 0 rfl B_ts3 rfl rfl rfl rfl ?_
    refine RL.assign rfl rfl rfl ?_
    refine RL.nil ?_
    refine NX.off ?_
    refine NX.seq ?_
    refine TR.region ?_
    refine RL.bin rfl rfl rfl (BinV.add _ rfl (by omega) (by omega)) rfl ?_
    refine RL.move rfl rfl rfl ?_
    refine RL.nil ?_
    have e9 : ((x.B ++ (s.take es[x.k].f.toNat).drop (x.q : Int).toNat) ++ es[x.k].x) ++ applyGo s es[x.k].t.toNat (es.drop (x.k + 1)) = applyGo s 0 es := by
      rw [← hg1, applyGo, Int.toNat_natCast]; simp only [List.append_assoc]
    refine NX.roundP ⟨x.k + 1, es[x.k].t.toNat, (x.B ++ (s.take es[x.k].f.toNat).drop (x.q : Int).toNat) ++ es[x.k].x⟩ ⟨hk1, (show es[x.k].t.toNat ≤ s.length by omega), ?_, e9⟩ (by show _ - (x.k + 1) < _ - x.k; omega) ⟨rfl, rfl, congrArg (fun z => some (I z)) (show es[x.k].t = ((es[x.k].t.toNat : Nat) : Int) by omega), rfl, rfl, rfl, trivial⟩ (fun w hw => hw.tail.facts (fun φ h => .tail _ (h)))
    show sound1 _ ((es[x.k].t.toNat : Nat) : Int) _ = 0
    rw [Int.toNat_of_nonneg (by omega)]; exact h5
  · skip
    have hk2 : x.k = es.length := by have := of_decide_eq_false h2; have := hx.1; omega
    obtain ⟨hq1, hs1, hg1⟩ := hx.2
    rw [hk2, List.drop_length, applyGo] at hg1
    have hlen := congrArg List.length hg1
    rw [List.length_append, List.length_drop] at hlen
    refine TR.exit ?_
    refine NX.exitThen ?_
    refine NX.exitThen ?_
    refine NX.exitHere ?_
    refine NX.seq ?_
    refine TR.seq ?_
    refine TR.region ?_
    refine RL.move rfl rfl rfl ?_
    refine RL.move rfl rfl rfl ?_
    refine RL.sliceSfrom rfl B_tstr9 rfl rfl  (by omega) (by omega) rfl ?_
    refine RL.call rfl rfl Try.call54 rfl (writeString_spec (by rw [List.length_drop]; omega)) (fun _ => ?_)
    refine RL.nil ?_
    refine NX.seq ?_
    refine TR.seq ?_
    refine TR.region ?_
    have h9 : x.B ++ s.drop (x.q : Int).toNat = applyGo s 0 es := by rw [Int.toNat_natCast]; exact hg1
    refine RL.call rfl rfl Try.call55 rfl (bString_spec (by rw [h9]; exact hb)) (fun _ => ?_)
    refine RL.assign rfl rfl rfl ?_
    refine RL.nil ?_
    refine NX.seq ?_
    refine TR.ret ?_
    exact NX.ret1 () rfl rfl (by rw [h9]) (fun w hw => hw)

theorem apply_spec {s : List UInt8} {es : List Ed} {oa : Option Addr} {ca : Nat} {M : List HP} {F : List Fact} (ha : ArrF oa (edC es) ∈ F) (hl : es.length ≤ 4611686018427387904) (hb : soundE s.length es = 0 → (applyGo s 0 es).length ≤ 140737488355328) : Ctr Try.prog 35 [S s, .slice oa es.length ca] M F Unit (fun _ => .tuple #[S (applyE s es).1, I (applyE s es).2]) (fun _ => M) (fun _ => F) := by
  refine Ctr.body Try.func35 rfl rfl ?_
  refine TR.seq ?_
  refine TR.region ?_
  refine RL.assign rfl rfl rfl ?_
  refine RL.assign rfl rfl rfl ?_
  refine RL.nil ?_
  refine NX.seq ?_
  refine TR.seq ?_
  refine TR.seq ?_
  refine TR.region ?_
  refine RL.move rfl rfl rfl ?_
  refine RL.move rfl rfl rfl ?_
  refine RL.call rfl rfl Try.call60 rfl (valid_spec ha hl) (fun _ => ?_)
  refine RL.assign rfl rfl rfl ?_
  refine RL.nil ?_
  refine NX.seq ?_
  refine TR.seq ?_
  refine TR.region ?_
  refine RL.move rfl rfl rfl ?_
  refine RL.bin rfl rfl rfl BinV.neq rfl ?_
  refine RL.nil ?_
  refine NX.seq ?_
  refine TR.cond rfl (fun h1 => ?_) (fun h1 => ?_)
  · skip
    have hz : ¬ soundE s.length es = 0 := of_decide_eq_true h1
    refine TR.seq ?_
    refine TR.region ?_
    refine RL.move rfl rfl rfl ?_
    refine RL.assign rfl rfl rfl ?_
    refine RL.assign rfl rfl rfl ?_
    refine RL.nil ?_
    refine NX.seq ?_
    refine TR.ret ?_
    refine NX.retThen ?_
    exact NX.ret2 () rfl rfl rfl (by unfold applyE; rw [if_neg hz]) (fun w hw => hw)
  · skip
    have hz : soundE s.length es = 0 := by have := of_decide_eq_false h1; omega
    refine TR.skip ?_
    refine NX.seq ?_
    refine TR.seq ?_
    refine TR.region ?_
    refine RL.move rfl rfl rfl ?_
    refine RL.move rfl rfl rfl ?_
    refine RL.call rfl rfl Try.call61 rfl (applyI_spec ha hl (soundE_sound1 hz) (hb hz)) (fun _ => ?_)
    refine RL.assign rfl rfl rfl ?_
    refine RL.assign rfl rfl rfl ?_
    refine RL.nil ?_
    refine NX.seq ?_
    refine TR.ret ?_
    exact NX.ret2 () rfl rfl rfl (by unfold applyE; rw [if_pos hz]) (fun w hw => hw)

structure DfX where
  es : List Ed
  oa : Option Addr
  oc : Nat

theorem diff_spec {a b : List UInt8} {M : List HP} {F : List Fact} (hla : a.length ≤ 4611686018427387904) (hlb : b.length ≤ 4611686018427387904) : Ctr Try.prog 36 [S a, S b] M F {z : DfX // DiffOk a b z.es} (fun z => .slice z.1.oa z.1.es.length z.1.oc) (fun _ => M) (fun z => ArrF z.1.oa (edC z.1.es) :: F) := by
  refine Ctr.body Try.func36 rfl rfl ?_
  refine TR.seq ?_
  refine TR.region ?_
  refine RL.assign rfl rfl rfl ?_
  refine RL.nil ?_
  refine NX.seq ?_
  refine TR.seq ?_
  refine TR.seq ?_
  refine TR.region ?_
  refine RL.move rfl rfl rfl ?_
  refine RL.move rfl rfl rfl ?_
  refine RL.bin rfl rfl rfl BinV.eqlS rfl ?_
  refine RL.nil ?_
  refine NX.seq ?_
  refine TR.cond rfl (fun h1 => ?_) (fun h1 => ?_)
  · skip
    have hab : a = b := of_decide_eq_true h1
    refine TR.seq ?_
    refine TR.region ?_
    refine RL.assign rfl rfl rfl ?_
    refine RL.nil ?_
    refine NX.seq ?_
    refine TR.ret ?_
    refine NX.retThen ?_
    exact NX.ret1x rfl rfl (fun w hw => ⟨⟨⟨[], none, 0⟩, diff_none hab⟩, rfl, hw.arr0⟩)
  · skip
    refine TR.skip ?_
    refine NX.seq ?_
    refine TR.seq ?_
    refine TR.region ?_
    refine RL.move rfl rfl rfl ?_
    refine RL.lenStr rfl B_tstr9 rfl rfl ?_
    refine RL.move rfl rfl rfl ?_
    refine RL.lenStr rfl B_tstr9 rfl rfl ?_
    refine RL.min rfl rfl rfl rfl ?_
    refine RL.assign rfl rfl rfl ?_
    refine RL.nil ?_
    refine NX.seq ?_
    refine TR.seq ?_
    refine TR.region ?_
    refine RL.assign rfl rfl rfl ?_
    refine RL.nil ?_
    refine NX.seq ?_
    refine TR.seq ?_
    refine TR.block ?_
    refine TR.loopP (ι := Nat) (fun x => x ≤ a.length ∧ x ≤ b.length ∧ a.take x = b.take x) (fun x => [(0, S a), (1, S b), (5, I (min (a.length : Int) b.length)), (6, I x)]) (fun _ => M) (fun _ => F) (fun x => a.length - x) 0 ⟨Nat.zero_le _, Nat.zero_le _, rfl⟩ ⟨rfl, rfl, rfl, rfl, trivial⟩ (fun w hw => hw) (fun x hx => ?_)
    refine TR.seq ?_
    refine TR.seq ?_
    refine TR.sub (E' := [(0, _), (1, _), (5, _), (6, _)]) ⟨rfl, rfl, rfl, rfl, trivial⟩ ?_
    refine TR.draw mixed ?_
    cases h2 : decide ((x : Int) < min (a.length : Int) b.length)
    · skip
      apply AR.more [(0, _), (1, _), (2, _), (3, .bool false), (4, undef), (5, undef), (6, undef), (7, undef), (8, undef), (9, undef), (10, undef), (11, .bool false)]
      refine AR.last [0, 1, 2, 3, 4, 5, 6, 7, 8, 9, 10, 11] [0, 1, 2, 3, 4, 5, 6, 7, 8, 9, 10, 11] ⟨QOne.yes rfl rfl rfl (PV.move rfl), QOne.yes rfl rfl rfl (PV.move rfl), QOne.yes rfl rfl rfl (PV.bin rfl rfl BinV.lss), QOne.yes rfl rfl rfl (PV.cast (congrArg Value.bool h2) (PV.move rfl)), QOne.no rfl rfl rfl, QOne.no rfl rfl rfl, QOne.no rfl rfl rfl, QOne.no rfl rfl rfl, QOne.no rfl rfl rfl, QOne.no rfl rfl rfl, QOne.no rfl rfl rfl, QOne.yes rfl rfl rfl (PV.pickF rfl rfl), trivial⟩ rfl rfl rfl ?_
      refine NX.sub (E' := [(0, _), (1, _), (5, _), (6, _), (16, _), (17, _), (18, _), (19, _), (20, _), (21, _), (22, _), (23, _), (24, _), (25, _), (26, _), (27, _)]) ⟨rfl, rfl, rfl, rfl, rfl, rfl, rfl, rfl, rfl, rfl, rfl, rfl, rfl, rfl, rfl, rfl, trivial⟩ ?_
      refine NX.seq ?_
      refine TR.condF rfl ?_
      refine TR.exit ?_
      refine NX.exitThen ?_
      refine NX.exitThen ?_
      refine NX.exitHere ?_
      refine NX.seq ?_
      refine TR.seq ?_
      refine TR.region ?_
      refine RL.assign rfl rfl rfl ?_
      refine RL.nil ?_
      refine NX.seq ?_
      refine TR.seq ?_
      refine TR.block ?_
      refine TR.loopP (ι := Nat) (fun y => x + y ≤ a.length ∧ x + y ≤ b.length ∧ a.drop (a.length - y) = b.drop (b.length - y)) (fun y => [(0, S a), (1, S b), (5, I (min (a.length : Int) b.length)), (6, I x), (7, I y)]) (fun _ => M) (fun _ => F) (fun y => a.length - y) 0 ⟨hx.1, hx.2.1, by simp⟩ ⟨rfl, rfl, rfl, rfl, rfl, trivial⟩ (fun w hw => hw) (fun y hy => ?_)
      refine TR.seq ?_
      refine TR.seq ?_
      refine TR.sub (E' := [(0, _), (1, _), (5, _), (6, _), (7, _)]) ⟨rfl, rfl, rfl, rfl, rfl, trivial⟩ ?_
      refine TR.draw mixed ?_
      cases h3 : decide ((y : Int) < min (a.length : Int) b.length - x)
      · skip
        apply AR.more [(0, _), (1, _), (2, _), (3, _), (4, _), (5, .bool false), (6, undef), (7, undef), (8, undef), (9, undef), (10, undef), (11, undef), (12, undef), (13, undef), (14, undef), (15, undef), (16, undef), (17, undef), (18, undef), (19, undef), (20, undef), (21, .bool false)]
        refine AR.last [0, 1, 2, 3, 4, 5, 6, 7, 8, 9, 10, 11, 12, 13, 14, 15, 16, 17, 18, 19, 20, 21] [0, 1, 2, 3, 4, 5, 6, 7, 8, 9, 10, 11, 12, 13, 14, 15, 16, 17, 18, 19, 20, 21] ⟨QOne.yes rfl rfl rfl (PV.move rfl), QOne.yes rfl rfl rfl (PV.move rfl), QOne.yes rfl rfl rfl (PV.move rfl), QOne.yes rfl rfl rfl (PV.bin rfl rfl (BinV.sub _ rfl (by omega) (by omega))), QOne.yes rfl rfl rfl (PV.bin rfl rfl BinV.lss), QOne.yes rfl rfl rfl (PV.cast (congrArg Value.bool h3) (PV.move rfl)), QOne.no rfl rfl rfl, QOne.no rfl rfl rfl, QOne.no rfl rfl rfl, QOne.no rfl rfl rfl, QOne.no rfl rfl rfl, QOne.no rfl rfl rfl, QOne.no rfl rfl rfl, QOne.no rfl rfl rfl, QOne.no rfl rfl rfl, QOne.no rfl rfl rfl, QOne.no rfl rfl rfl, QOne.no rfl rfl rfl, QOne.no rfl rfl rfl, QOne.no rfl rfl rfl, QOne.no rfl rfl rfl, QOne.yes rfl rfl rfl (PV.pickF rfl rfl), trivial⟩ rfl rfl rfl ?_
        refine NX.sub (E' := [(0, _), (1, _), (5, _), (6, _), (7, _), (30, _), (31, _), (32, _), (33, _), (34, _), (35, _), (36, _), (37, _), (38, _), (39, _), (40, _), (41, _), (42, _), (43, _), (44, _), (45, _), (46, _), (47, _), (48, _), (49, _), (50, _), (51, _)]) ⟨rfl, rfl, rfl, rfl, rfl, rfl, rfl, rfl, rfl, rfl, rfl, rfl, rfl, rfl, rfl, rfl, rfl, rfl, rfl, rfl, rfl, rfl, rfl, rfl, rfl, rfl, rfl, trivial⟩ ?_
        refine NX.seq ?_
        refine TR.condF rfl ?_
        refine TR.exit ?_
        refine NX.exitThen ?_
        refine NX.exitThen ?_
        refine NX.exitHere ?_
        refine NX.seq ?_
        refine TR.seq ?_
        refine TR.region ?_
        refine RL.move rfl rfl rfl ?_
        refine RL.move rfl rfl rfl ?_
        refine RL.lenStr rfl B_tstr9 rfl rfl ?_
        refine RL.move rfl rfl rfl ?_
        refine RL.bin rfl rfl rfl (BinV.sub _ rfl (by omega) (by omega)) rfl ?_
        refine RL.move rfl rfl rfl ?_
        refine RL.move rfl rfl rfl ?_
        refine RL.move rfl rfl rfl ?_
        refine RL.lenStr rfl B_tstr9 rfl rfl ?_
        refine RL.move rfl rfl rfl ?_
        refine RL.bin rfl rfl rfl (BinV.sub _ rfl (by omega) (by omega)) rfl ?_
        refine RL.sliceS rfl B_tstr9 rfl rfl rfl (by omega) (by omega) (by omega) rfl ?_
        refine RL.build rfl rfl (B_bv64_0_1_2 _ _ _) rfl ?_
        refine RL.buildSlice rfl rfl (B_bs65_1_0 _ _ _) rfl (fun b4 => ?_)
        refine RL.assign rfl rfl rfl ?_
        refine RL.nil ?_
        refine NX.seq ?_
        refine TR.ret ?_
        have hD := diff_some hx.2.2 hy.1 hy.2.1 hy.2.2
        have e1 : ((b.length : Int) - y).toNat = b.length - y := by omega
        have e2 : ((a.length : Int) - y) = ((a.length - y : Nat) : Int) := by omega
        refine NX.ret1x rfl rfl (fun w hw => ⟨⟨⟨[⟨x, (a.length - y : Nat), (b.take (b.length - y)).drop x⟩], _, 1⟩, hD⟩, rfl, ?_⟩)
        have h9 := hw.boxArr
        rw [e1, e2, Int.toNat_natCast] at h9
        exact h9
      · skip
        have hy1 : x + y < a.length ∧ x + y < b.length := by have := of_decide_eq_true h3; omega
        have hya : (((a.length : Int) - 1) - y).toNat < a.length := by omega
        have hyb : (((b.length : Int) - 1) - y).toNat < b.length := by omega
        apply AR.more [(0, _), (1, _), (2, _), (3, _), (4, _), (5, .bool true), (6, _), (7, _), (8, _), (9, _), (10, _), (11, _), (12, _), (13, _), (14, _), (15, _), (16, _), (17, _), (18, _), (19, _), (20, _), (21, _)]
        refine AR.last [0, 1, 2, 3, 4, 5, 6, 7, 8, 9, 10, 11, 12, 13, 14, 15, 16, 17, 18, 19, 20, 21] [0, 1, 2, 3, 4, 5, 6, 7, 8, 9, 10, 11, 12, 13, 14, 15, 16, 17, 18, 19, 20, 21] ⟨QOne.yes rfl rfl rfl (PV.move rfl), QOne.yes rfl rfl rfl (PV.move rfl), QOne.yes rfl rfl rfl (PV.move rfl), QOne.yes rfl rfl rfl (PV.bin rfl rfl (BinV.sub _ rfl (by omega) (by omega))), QOne.yes rfl rfl rfl (PV.bin rfl rfl BinV.lss), QOne.yes rfl rfl rfl (PV.cast (congrArg Value.bool h3) (PV.move rfl)), QOne.yes rfl rfl rfl (PV.move rfl), QOne.yes rfl rfl rfl (PV.move rfl), QOne.yes rfl rfl rfl (PV.lenStr B_tstr9 rfl), QOne.yes rfl rfl rfl (PV.bin rfl rfl (BinV.sub _ rfl (by omega) (by omega))), QOne.yes rfl rfl rfl (PV.move rfl), QOne.yes rfl rfl rfl (PV.bin rfl rfl (BinV.sub _ rfl (by omega) (by omega))), QOne.yes rfl rfl rfl (PV.indexS B_tstr9 rfl rfl (by omega) (List.getElem?_eq_getElem hya)), QOne.yes rfl rfl rfl (PV.move rfl), QOne.yes rfl rfl rfl (PV.move rfl), QOne.yes rfl rfl rfl (PV.lenStr B_tstr9 rfl), QOne.yes rfl rfl rfl (PV.bin rfl rfl (BinV.sub _ rfl (by omega) (by omega))), QOne.yes rfl rfl rfl (PV.move rfl), QOne.yes rfl rfl rfl (PV.bin rfl rfl (BinV.sub _ rfl (by omega) (by omega))), QOne.yes rfl rfl rfl (PV.indexS B_tstr9 rfl rfl (by omega) (List.getElem?_eq_getElem hyb)), QOne.yes rfl rfl rfl (PV.bin rfl rfl BinV.eql), QOne.yes rfl rfl rfl (PV.pickT rfl rfl), trivial⟩ rfl rfl rfl ?_
        refine NX.sub (E' := [(0, _), (1, _), (5, _), (6, _), (7, _), (30, _), (31, _), (32, _), (33, _), (34, _), (35, _), (36, _), (37, _), (38, _), (39, _), (40, _), (41, _), (42, _), (43, _), (44, _), (45, _), (46, _), (47, _), (48, _), (49, _), (50, _), (51, _)]) ⟨rfl, rfl, rfl, rfl, rfl, rfl, rfl, rfl, rfl, rfl, rfl, rfl, rfl, rfl, rfl, rfl, rfl, rfl, rfl, rfl, rfl, rfl, rfl, rfl, rfl, rfl, rfl, trivial⟩ ?_
        refine NX.seq ?_
        refine TR.cond rfl (fun h5 => ?_) (fun h5 => ?_)
        · skip
          have hch : a[a.length - 1 - y]'(by omega) = b[b.length - 1 - y]'(by omega) := by
            have h8 := byte_eq (of_decide_eq_true h5)
            have e1 : (((a.length : Int) - 1) - y).toNat = a.length - 1 - y := by omega
            have e2 : (((b.length : Int) - 1) - y).toNat = b.length - 1 - y := by omega
            simp only [e1, e2] at h8
            exact h8
          refine TR.skip ?_
          refine NX.seq ?_
          refine TR.block ?_
          refine TR.region ?_
          refine RL.move rfl rfl rfl ?_
          refine RL.bin rfl rfl rfl (BinV.add _ rfl (by omega) (by omega)) rfl ?_
          refine RL.assign rfl rfl rfl ?_
          refine RL.nil ?_
          refine NX.off ?_
          refine NX.roundP (y + 1) ⟨by omega, by omega, suffix_step (by omega) (by omega) hy.2.2 hch⟩ (by omega) ⟨rfl, rfl, rfl, rfl, rfl, trivial⟩ (fun w hw => hw)
        · skip
          refine TR.exit ?_
          refine NX.exitThen ?_
          refine NX.exitThen ?_
          refine NX.exitHere ?_
          refine NX.seq ?_
          refine TR.seq ?_
          refine TR.region ?_
          refine RL.move rfl rfl rfl ?_
          refine RL.move rfl rfl rfl ?_
          refine RL.lenStr rfl B_tstr9 rfl rfl ?_
          refine RL.move rfl rfl rfl ?_
          refine RL.bin rfl rfl rfl (BinV.sub _ rfl (by omega) (by omega)) rfl ?_
          refine RL.move rfl rfl rfl ?_
          refine RL.move rfl rfl rfl ?_
          refine RL.move rfl rfl rfl ?_
          refine RL.lenStr rfl B_tstr9 rfl rfl ?_
          refine RL.move rfl rfl rfl ?_
          refine RL.bin rfl rfl rfl (BinV.sub _ rfl (by omega) (by omega)) rfl ?_
          refine RL.sliceS rfl B_tstr9 rfl rfl rfl (by omega) (by omega) (by omega) rfl ?_
          refine RL.build rfl rfl (B_bv64_0_1_2 _ _ _) rfl ?_
          refine RL.buildSlice rfl rfl (B_bs65_1_0 _ _ _) rfl (fun b6 => ?_)
          refine RL.assign rfl rfl rfl ?_
          refine RL.nil ?_
          refine NX.seq ?_
          refine TR.ret ?_
          have hD := diff_some hx.2.2 hy.1 hy.2.1 hy.2.2
          have e1 : ((b.length : Int) - y).toNat = b.length - y := by omega
          have e2 : ((a.length : Int) - y) = ((a.length - y : Nat) : Int) := by omega
          refine NX.ret1x rfl rfl (fun w hw => ⟨⟨⟨[⟨x, (a.length - y : Nat), (b.take (b.length - y)).drop x⟩], _, 1⟩, hD⟩, rfl, ?_⟩)
          have h9 := hw.boxArr
          rw [e1, e2, Int.toNat_natCast] at h9
          exact h9
    · skip
      have hx1 : x < a.length ∧ x < b.length := by have := of_decide_eq_true h2; omega
      have hxa : (x : Int).toNat < a.length := by omega
      have hxb : (x : Int).toNat < b.length := by omega
      apply AR.more [(0, _), (1, _), (2, _), (3, .bool true), (4, _), (5, _), (6, _), (7, _), (8, _), (9, _), (10, _), (11, _)]
      refine AR.last [0, 1, 2, 3, 4, 5, 6, 7, 8, 9, 10, 11] [0, 1, 2, 3, 4, 5, 6, 7, 8, 9, 10, 11] ⟨QOne.yes rfl rfl rfl (PV.move rfl), QOne.yes rfl rfl rfl (PV.move rfl), QOne.yes rfl rfl rfl (PV.bin rfl rfl BinV.lss), QOne.yes rfl rfl rfl (PV.cast (congrArg Value.bool h2) (PV.move rfl)), QOne.yes rfl rfl rfl (PV.move rfl), QOne.yes rfl rfl rfl (PV.move rfl), QOne.yes rfl rfl rfl (PV.indexS B_tstr9 rfl rfl (by omega) (List.getElem?_eq_getElem hxa)), QOne.yes rfl rfl rfl (PV.move rfl), QOne.yes rfl rfl rfl (PV.move rfl), QOne.yes rfl rfl rfl (PV.indexS B_tstr9 rfl rfl (by omega) (List.getElem?_eq_getElem hxb)), QOne.yes rfl rfl rfl (PV.bin rfl rfl BinV.eql), QOne.yes rfl rfl rfl (PV.pickT rfl rfl), trivial⟩ rfl rfl rfl ?_
      refine NX.sub (E' := [(0, _), (1, _), (5, _), (6, _), (16, _), (17, _), (18, _), (19, _), (20, _), (21, _), (22, _), (23, _), (24, _), (25, _), (26, _), (27, _)]) ⟨rfl, rfl, rfl, rfl, rfl, rfl, rfl, rfl, rfl, rfl, rfl, rfl, rfl, rfl, rfl, rfl, trivial⟩ ?_
      refine NX.seq ?_
      refine TR.cond rfl (fun h7 => ?_) (fun h7 => ?_)
      · skip
        have hch : a[x]'hx1.1 = b[x]'hx1.2 := byte_eq (of_decide_eq_true h7)
        refine TR.skip ?_
        refine NX.seq ?_
        refine TR.block ?_
        refine TR.region ?_
        refine RL.move rfl rfl rfl ?_
        refine RL.bin rfl rfl rfl (BinV.add _ rfl (by omega) (by omega)) rfl ?_
        refine RL.assign rfl rfl rfl ?_
        refine RL.nil ?_
        refine NX.off ?_
        refine NX.roundP (x + 1) ⟨by omega, by omega, takeEq_step hx1.1 hx1.2 hx.2.2 hch⟩ (by omega) ⟨rfl, rfl, rfl, rfl, trivial⟩ (fun w hw => hw)
      · skip
        refine TR.exit ?_
        refine NX.exitThen ?_
        refine NX.exitThen ?_
        refine NX.exitHere ?_
        refine NX.seq ?_
        refine TR.seq ?_
        refine TR.region ?_
        refine RL.assign rfl rfl rfl ?_
        refine RL.nil ?_
        refine NX.seq ?_
        refine TR.seq ?_
        refine TR.block ?_
        refine TR.loopP (ι := Nat) (fun y => x + y ≤ a.length ∧ x + y ≤ b.length ∧ a.drop (a.length - y) = b.drop (b.length - y)) (fun y => [(0, S a), (1, S b), (5, I (min (a.length : Int) b.length)), (6, I x), (7, I y)]) (fun _ => M) (fun _ => F) (fun y => a.length - y) 0 ⟨hx.1, hx.2.1, by simp⟩ ⟨rfl, rfl, rfl, rfl, rfl, trivial⟩ (fun w hw => hw) (fun y hy => ?_)
        refine TR.seq ?_
        refine TR.seq ?_
        refine TR.sub (E' := [(0, _), (1, _), (5, _), (6, _), (7, _)]) ⟨rfl, rfl, rfl, rfl, rfl, trivial⟩ ?_
        refine TR.draw mixed ?_
        cases h8 : decide ((y : Int) < min (a.length : Int) b.length - x)
        · skip
          apply AR.more [(0, _), (1, _), (2, _), (3, _), (4, _), (5, .bool false), (6, undef), (7, undef), (8, undef), (9, undef), (10, undef), (11, undef), (12, undef), (13, undef), (14, undef), (15, undef), (16, undef), (17, undef), (18, undef), (19, undef), (20, undef), (21, .bool false)]
          refine AR.last [0, 1, 2, 3, 4, 5, 6, 7, 8, 9, 10, 11, 12, 13, 14, 15, 16, 17, 18, 19, 20, 21] [0, 1, 2, 3, 4, 5, 6, 7, 8, 9, 10, 11, 12, 13, 14, 15, 16, 17, 18, 19, 20, 21] ⟨QOne.yes rfl rfl rfl (PV.move rfl), QOne.yes rfl rfl rfl (PV.move rfl), QOne.yes rfl rfl rfl (PV.move rfl), QOne.yes rfl rfl rfl (PV.bin rfl rfl (BinV.sub _ rfl (by omega) (by omega))), QOne.yes rfl rfl rfl (PV.bin rfl rfl BinV.lss), QOne.yes rfl rfl rfl (PV.cast (congrArg Value.bool h8) (PV.move rfl)), QOne.no rfl rfl rfl, QOne.no rfl rfl rfl, QOne.no rfl rfl rfl, QOne.no rfl rfl rfl, QOne.no rfl rfl rfl, QOne.no rfl rfl rfl, QOne.no rfl rfl rfl, QOne.no rfl rfl rfl, QOne.no rfl rfl rfl, QOne.no rfl rfl rfl, QOne.no rfl rfl rfl, QOne.no rfl rfl rfl, QOne.no rfl rfl rfl, QOne.no rfl rfl rfl, QOne.no rfl rfl rfl, QOne.yes rfl rfl rfl (PV.pickF rfl rfl), trivial⟩ rfl rfl rfl ?_
          refine NX.sub (E' := [(0, _), (1, _), (5, _), (6, _), (7, _), (30, _), (31, _), (32, _), (33, _), (34, _), (35, _), (36, _), (37, _), (38, _), (39, _), (40, _), (41, _), (42, _), (43, _), (44, _), (45, _), (46, _), (47, _), (48, _), (49, _), (50, _), (51, _)]) ⟨rfl, rfl, rfl, rfl, rfl, rfl, rfl, rfl, rfl, rfl, rfl, rfl, rfl, rfl, rfl, rfl, rfl, rfl, rfl, rfl, rfl, rfl, rfl, rfl, rfl, rfl, rfl, trivial⟩ ?_
          refine NX.seq ?_
          refine TR.condF rfl ?_
          refine TR.exit ?_
          refine NX.exitThen ?_
          refine NX.exitThen ?_
          refine NX.exitHere ?_
          refine NX.seq ?_
          refine TR.seq ?_
          refine TR.region ?_
          refine RL.move rfl rfl rfl ?_
          refine RL.move rfl rfl rfl ?_
          refine RL.lenStr rfl B_tstr9 rfl rfl ?_
          refine RL.move rfl rfl rfl ?_
          refine RL.bin rfl rfl rfl (BinV.sub _ rfl (by omega) (by omega)) rfl ?_
          refine RL.move rfl rfl rfl ?_
          refine RL.move rfl rfl rfl ?_
          refine RL.move rfl rfl rfl ?_
          refine RL.lenStr rfl B_tstr9 rfl rfl ?_
          refine RL.move rfl rfl rfl ?_
          refine RL.bin rfl rfl rfl (BinV.sub _ rfl (by omega) (by omega)) rfl ?_
          refine RL.sliceS rfl B_tstr9 rfl rfl rfl (by omega) (by omega) (by omega) rfl ?_
          refine RL.build rfl rfl (B_bv64_0_1_2 _ _ _) rfl ?_
          refine RL.buildSlice rfl rfl (B_bs65_1_0 _ _ _) rfl (fun b9 => ?_)
          refine RL.assign rfl rfl rfl ?_
          refine RL.nil ?_
          refine NX.seq ?_
          refine TR.ret ?_
          have hD := diff_some hx.2.2 hy.1 hy.2.1 hy.2.2
          have e1 : ((b.length : Int) - y).toNat = b.length - y := by omega
          have e2 : ((a.length : Int) - y) = ((a.length - y : Nat) : Int) := by omega
          refine NX.ret1x rfl rfl (fun w hw => ⟨⟨⟨[⟨x, (a.length - y : Nat), (b.take (b.length - y)).drop x⟩], _, 1⟩, hD⟩, rfl, ?_⟩)
          have h9 := hw.boxArr
          rw [e1, e2, Int.toNat_natCast] at h9
          exact h9
        · skip
          have hy1 : x + y < a.length ∧ x + y < b.length := by have := of_decide_eq_true h8; omega
          have hya : (((a.length : Int) - 1) - y).toNat < a.length := by omega
          have hyb : (((b.length : Int) - 1) - y).toNat < b.length := by omega
          apply AR.more [(0, _), (1, _), (2, _), (3, _), (4, _), (5, .bool true), (6, _), (7, _), (8, _), (9, _), (10, _), (11, _), (12, _), (13, _), (14, _), (15, _), (16, _), (17, _), (18, _), (19, _), (20, _), (21, _)]
          refine AR.last [0, 1, 2, 3, 4, 5, 6, 7, 8, 9, 10, 11, 12, 13, 14, 15, 16, 17, 18, 19, 20, 21] [0, 1, 2, 3, 4, 5, 6, 7, 8, 9, 10, 11, 12, 13, 14, 15, 16, 17, 18, 19, 20, 21] ⟨QOne.yes rfl rfl rfl (PV.move rfl), QOne.yes rfl rfl rfl (PV.move rfl), QOne.yes rfl rfl rfl (PV.move rfl), QOne.yes rfl rfl rfl (PV.bin rfl rfl (BinV.sub _ rfl (by omega) (by omega))), QOne.yes rfl rfl rfl (PV.bin rfl rfl BinV.lss), QOne.yes rfl rfl rfl (PV.cast (congrArg Value.bool h8) (PV.move rfl)), QOne.yes rfl rfl rfl (PV.move rfl), QOne.yes rfl rfl rfl (PV.move rfl), QOne.yes rfl rfl rfl (PV.lenStr B_tstr9 rfl), QOne.yes rfl rfl rfl (PV.bin rfl rfl (BinV.sub _ rfl (by omega) (by omega))), QOne.yes rfl rfl rfl (PV.move rfl), QOne.yes rfl rfl rfl (PV.bin rfl rfl (BinV.sub _ rfl (by omega) (by omega))), QOne.yes rfl rfl rfl (PV.indexS B_tstr9 rfl rfl (by omega) (List.getElem?_eq_getElem hya)), QOne.yes rfl rfl rfl (PV.move rfl), QOne.yes rfl rfl rfl (PV.move rfl), QOne.yes rfl rfl rfl (PV.lenStr B_tstr9 rfl), QOne.yes rfl rfl rfl (PV.bin rfl rfl (BinV.sub _ rfl (by omega) (by omega))), QOne.yes rfl rfl rfl (PV.move rfl), QOne.yes rfl rfl rfl (PV.bin rfl rfl (BinV.sub _ rfl (by omega) (by omega))), QOne.yes rfl rfl rfl (PV.indexS B_tstr9 rfl rfl (by omega) (List.getElem?_eq_getElem hyb)), QOne.yes rfl rfl rfl (PV.bin rfl rfl BinV.eql), QOne.yes rfl rfl rfl (PV.pickT rfl rfl), trivial⟩ rfl rfl rfl ?_
          refine NX.sub (E' := [(0, _), (1, _), (5, _), (6, _), (7, _), (30, _), (31, _), (32, _), (33, _), (34, _), (35, _), (36, _), (37, _), (38, _), (39, _), (40, _), (41, _), (42, _), (43, _), (44, _), (45, _), (46, _), (47, _), (48, _), (49, _), (50, _), (51, _)]) ⟨rfl, rfl, rfl, rfl, rfl, rfl, rfl, rfl, rfl, rfl, rfl, rfl, rfl, rfl, rfl, rfl, rfl, rfl, rfl, rfl, rfl, rfl, rfl, rfl, rfl, rfl, rfl, trivial⟩ ?_
          refine NX.seq ?_
          refine TR.cond rfl (fun h10 => ?_) (fun h10 => ?_)
          · skip
            have hch : a[a.length - 1 - y]'(by omega) = b[b.length - 1 - y]'(by omega) := by
              have h8 := byte_eq (of_decide_eq_true h10)
              have e1 : (((a.length : Int) - 1) - y).toNat = a.length - 1 - y := by omega
              have e2 : (((b.length : Int) - 1) - y).toNat = b.length - 1 - y := by omega
              simp only [e1, e2] at h8
              exact h8
            refine TR.skip ?_
            refine NX.seq ?_
            refine TR.block ?_
            refine TR.region ?_
            refine RL.move rfl rfl rfl ?_
            refine RL.bin rfl rfl rfl (BinV.add _ rfl (by omega) (by omega)) rfl ?_
            refine RL.assign rfl rfl rfl ?_
            refine RL.nil ?_
            refine NX.off ?_
            refine NX.roundP (y + 1) ⟨by omega, by omega, suffix_step (by omega) (by omega) hy.2.2 hch⟩ (by omega) ⟨rfl, rfl, rfl, rfl, rfl, trivial⟩ (fun w hw => hw)
          · skip
            refine TR.exit ?_
            refine NX.exitThen ?_
            refine NX.exitThen ?_
            refine NX.exitHere ?_
            refine NX.seq ?_
            refine TR.seq ?_
            refine TR.region ?_
            refine RL.move rfl rfl rfl ?_
            refine RL.move rfl rfl rfl ?_
            refine RL.lenStr rfl B_tstr9 rfl rfl ?_
            refine RL.move rfl rfl rfl ?_
            refine RL.bin rfl rfl rfl (BinV.sub _ rfl (by omega) (by omega)) rfl ?_
            refine RL.move rfl rfl rfl ?_
            refine RL.move rfl rfl rfl ?_
            refine RL.move rfl rfl rfl ?_
            refine RL.lenStr rfl B_tstr9 rfl rfl ?_
            refine RL.move rfl rfl rfl ?_
            refine RL.bin rfl rfl rfl (BinV.sub _ rfl (by omega) (by omega)) rfl ?_
            refine RL.sliceS rfl B_tstr9 rfl rfl rfl (by omega) (by omega) (by omega) rfl ?_
            refine RL.build rfl rfl (B_bv64_0_1_2 _ _ _) rfl ?_
            refine RL.buildSlice rfl rfl (B_bs65_1_0 _ _ _) rfl (fun b11 => ?_)
            refine RL.assign rfl rfl rfl ?_
            refine RL.nil ?_
            refine NX.seq ?_
            refine TR.ret ?_
            have hD := diff_some hx.2.2 hy.1 hy.2.1 hy.2.2
            have e1 : ((b.length : Int) - y).toNat = b.length - y := by omega
            have e2 : ((a.length : Int) - y) = ((a.length - y : Nat) : Int) := by omega
            refine NX.ret1x rfl rfl (fun w hw => ⟨⟨⟨[⟨x, (a.length - y : Nat), (b.take (b.length - y)).drop x⟩], _, 1⟩, hD⟩, rfl, ?_⟩)
            have h9 := hw.boxArr
            rw [e1, e2, Int.toNat_natCast] at h9
            exact h9

end Go.Proofs.Ytnolpmigiboanaa
