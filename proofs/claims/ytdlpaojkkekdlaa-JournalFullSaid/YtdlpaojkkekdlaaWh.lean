/- Walks of functions of the program. Printed by sx.py. -/
import Derived.Test.YtdlpaojkkekdlaaWg
namespace Go.Proofs.Ytdlpaojkkekdlaa
open Go.GL
set_option linter.unusedVariables false
theorem wh_tf121_0 : fieldOff Try.prog 121 0 0 = true := by kernel_rfl
theorem wh_tf121_1 : fieldOff Try.prog 121 1 1 = true := by kernel_rfl
theorem wh_ti3 : tyInt Try.prog 3 .i64 = true := by kernel_rfl
theorem wh_ti5 : tyInt Try.prog 5 .u8 = true := by kernel_rfl
theorem wh_ti65 : tyInt Try.prog 65 .u64 = true := by kernel_rfl
theorem wh_tl23 : tySlice Try.prog 23 5 = true := by kernel_rfl
theorem wh_ts23 : tyScalar Try.prog 23 = true := by kernel_rfl
theorem wh_ts39 : tyScalar Try.prog 39 = true := by kernel_rfl
theorem wh_ts5 : tyScalar Try.prog 5 = true := by kernel_rfl
theorem wh_tz5 : tySize Try.prog 5 1 = true := by kernel_rfl
theorem back_spec {z : Nat} {M : List HP} {F : List Fact} (hz : z < 18446744073709551616) : Ctr Try.prog 97 [U z] M F Unit (fun _ => I (uz z)) (fun _ => M) (fun _ => F) := by
  refine Ctr.body Try.func97 rfl rfl ?_
  refine TR.seq ?_
  refine TR.region ?_
  refine RL.assign rfl rfl rfl ?_
  refine RL.nil ?_
  refine NX.seq ?_
  refine TR.seq ?_
  refine TR.seq ?_
  refine TR.region ?_
  refine RL.move rfl rfl rfl ?_
  refine RL.bin rfl rfl rfl (BinV.remK (b := 2) (by omega)) rfl ?_
  refine RL.bin rfl rfl rfl BinV.eql rfl ?_
  refine RL.nil ?_
  refine NX.seq ?_
  refine TR.cond rfl (fun h1 => ?_) (fun h1 => ?_)
  · skip
    have h1 : z % 2 = 1 := by have := of_decide_eq_true h1; omega
    refine TR.seq ?_
    refine TR.region ?_
    refine RL.move rfl rfl rfl ?_
    refine RL.bin rfl rfl rfl (BinV.quoU (b := 2) hz (by omega)) rfl ?_
    refine RL.conv rfl rfl (ConvV.uiS wh_ti65 wh_ti3 (by omega)) rfl ?_
    refine RL.neg rfl rfl (by omega) (by omega) rfl ?_
    refine RL.bin rfl rfl rfl (BinV.sub _ rfl (by omega) (by omega)) rfl ?_
    refine RL.assign rfl rfl rfl ?_
    refine RL.nil ?_
    refine NX.seq ?_
    refine TR.ret ?_
    refine NX.retThen ?_
    exact NX.ret1 () rfl rfl (by rw [← uz_odd h1]) (fun w hw => hw)
  · skip
    have h1 : ¬ z % 2 = 1 := by have := of_decide_eq_false h1; omega
    refine TR.skip ?_
    refine NX.seq ?_
    refine TR.seq ?_
    refine TR.region ?_
    refine RL.move rfl rfl rfl ?_
    refine RL.bin rfl rfl rfl (BinV.quoU (b := 2) hz (by omega)) rfl ?_
    refine RL.conv rfl rfl (ConvV.uiS wh_ti65 wh_ti3 (by omega)) rfl ?_
    refine RL.assign rfl rfl rfl ?_
    refine RL.nil ?_
    refine NX.seq ?_
    refine TR.ret ?_
    exact NX.ret1 () rfl rfl (by rw [← uz_even h1]) (fun w hw => hw)

structure RvX where
  i : Nat
  n : Nat

set_option maxHeartbeats 2000000 in
theorem rrUint_spec {b : Nat} {l : List UInt8} {oa : Option Addr} {c : Nat} {e : Int} {M : List HP} {F : List Fact} (ha : ArrF oa (bytesV l) ∈ F) (hc : l.length ≤ c) : Ctr Try.prog 98 [.pointer (some ⟨b, 0, none⟩)] (Box b 121 [.slice oa l.length c, I e] :: M) F {z : RdX // (refB l e).length ≤ z.c} (fun _ => U (rdU l e).1) (fun z => Box b 121 [.slice z.1.oa (refB l e).length z.1.c, I (rdU l e).2.2] :: M) (fun z => ArrF z.1.oa (bytesV (refB l e)) :: F) := by
  refine Ctr.body Try.func98 rfl rfl ?_
  refine TR.seq ?_
  refine TR.region ?_
  refine RL.assign rfl rfl rfl ?_
  refine RL.nil ?_
  refine NX.seq ?_
  refine TR.seq ?_
  refine TR.region ?_
  refine RL.assign rfl rfl rfl ?_
  refine RL.nil ?_
  refine NX.seq ?_
  refine TR.seq ?_
  refine TR.region ?_
  refine RL.assign rfl rfl rfl ?_
  refine RL.nil ?_
  refine NX.seq ?_
  refine TR.seq ?_
  refine TR.seq ?_
  refine TR.region ?_
  refine RL.assign rfl rfl rfl ?_
  refine RL.nil ?_
  refine NX.seq ?_
  refine TR.block ?_
  refine TR.loopP (ι := RvX) (fun x => e = 0 → x.i ≤ 9 ∧ x.n < 2 ^ (7 * x.i) ∧ rdU l e = decU x.i x.n (l.drop x.i) ∧ x.i ≤ l.length) (fun x => [(0, .pointer (some ⟨b, 0, none⟩)), (3, U x.n), (4, U (2 ^ (7 * x.i))), (5, I x.i)]) (fun x => Box b 121 [.slice oa l.length c, I e] :: M) (fun _ => F) (fun x => l.length - x.i) ⟨0, 0⟩ (fun he => ⟨Nat.zero_le _, by simp, by unfold rdU; rw [if_pos he]; rfl, Nat.zero_le _⟩) ⟨rfl, rfl, rfl, rfl, trivial⟩ (fun w hw => hw) (fun x hx => ?_)
  refine TR.seq ?_
  refine TR.seq ?_
  refine TR.region ?_
  refine RL.move rfl rfl rfl ?_
  refine RL.nilCheck rfl rfl rfl ?_
  refine RL.fieldAddr rfl wh_tf121_1 rfl rfl ?_
  refine RL.load1 0 rfl wh_ts39 rfl rfl rfl rfl ?_
  refine RL.bin rfl rfl rfl BinV.eql rfl ?_
  refine RL.nil ?_
  refine NX.seq ?_
  refine TR.cond rfl (fun h1 => ?_) (fun h1 => ?_)
  · skip
    have hee : e = 0 := of_decide_eq_true h1
    have hin := hx hee
    refine TR.skip ?_
    refine NX.seq ?_
    refine TR.seq ?_
    refine TR.block ?_
    refine TR.seq ?_
    refine TR.seq ?_
    refine TR.region ?_
    refine RL.move rfl rfl rfl ?_
    refine RL.move rfl rfl rfl ?_
    refine RL.nilCheck rfl rfl rfl ?_
    refine RL.fieldAddr rfl wh_tf121_0 rfl rfl ?_
    refine RL.load1 0 rfl wh_ts23 rfl rfl rfl rfl ?_
    refine RL.lenSlice rfl wh_tl23 rfl rfl ?_
    refine RL.bin rfl rfl rfl BinV.geq rfl ?_
    refine RL.nil ?_
    refine NX.seq ?_
    refine TR.cond rfl (fun h2 => ?_) (fun h2 => ?_)
    · skip
      have hfar : l.length ≤ x.i := by have := of_decide_eq_true h2; omega
      refine TR.seq ?_
      refine TR.region ?_
      refine RL.move rfl rfl rfl ?_
      refine RL.nilCheck rfl rfl rfl ?_
      refine RL.fieldAddr rfl wh_tf121_1 rfl rfl ?_
      refine RL.store1 0 rfl wh_ts39 rfl rfl rfl rfl rfl ?_
      refine RL.nil ?_
      refine NX.seq ?_
      refine TR.exit ?_
      refine NX.exitThen ?_
      refine NX.exitOn rfl ?_
      refine NX.exitThen ?_
      refine NX.exitThen ?_
      refine NX.exitHere ?_
      refine NX.seq ?_
      refine TR.seq ?_
      refine TR.region ?_
      refine RL.assign rfl rfl rfl ?_
      refine RL.nil ?_
      refine NX.seq ?_
      refine TR.ret ?_
      have hru : rdU l e = (0, [], 3) := by rw [hin.2.2.1, List.drop_of_length_le hfar, decU]
      have hrb : refB l e = l := by unfold refB; rw [hru]; exact if_neg (show ¬ (3 : Int) = 0 by decide)
      refine NX.ret1x rfl rfl (fun w hw => ⟨⟨⟨oa, c⟩, by rw [hrb]; exact hc⟩, by rw [hru] <;> rfl, ?_⟩)
      show St w (Box b 121 [.slice oa (refB l e).length c, I (rdU l e).2.2] :: M) (ArrF oa (bytesV (refB l e)) :: F)
      rw [hrb, hru]
      exact hw.addFact (ArrF oa (bytesV l)) (fun K hf => hf _ ha)
    · skip
      have hlt : x.i < l.length := by have := of_decide_eq_false h2; omega
      have hdk := List.drop_eq_getElem_cons hlt
      have hcb := (l[x.i]).toNat_lt
      refine TR.openP (open_arr (oa := oa) (xs := bytesV l) ha (bytesV_ne hlt)) (fun pq hpa => ?_)
      refine TR.skip ?_
      refine NX.seq ?_
      refine TR.seq ?_
      refine TR.region ?_
      refine RL.move rfl rfl rfl ?_
      refine RL.nilCheck rfl rfl rfl ?_
      refine RL.fieldAddr rfl wh_tf121_0 rfl rfl ?_
      refine RL.load1 0 rfl wh_ts23 rfl rfl rfl rfl ?_
      refine RL.move rfl rfl rfl ?_
      refine RL.indexAddr rfl wh_tl23 wh_tz5 (congrArg (fun a => some (Value.slice a _ _)) hpa) rfl (by omega) (by omega) rfl ?_
      refine RL.loadF rfl rfl (fun w K hF => run_loadCell1 (j := (x.i : Int).toNat * 1) (v := .int .u8 (l[x.i].toNat : Int)) (hF _ (.head _)) wh_ts5 (bytesV_get hlt)) rfl ?_
      refine RL.assign rfl rfl rfl ?_
      refine RL.nil ?_
      refine NX.seq ?_
      refine TR.seq ?_
      refine TR.seq ?_
      refine TR.region ?_
      refine RL.move rfl rfl rfl ?_
      refine RL.bin rfl rfl rfl BinV.eql rfl ?_
      refine RL.move rfl rfl rfl ?_
      refine RL.part (fun h3 => ?_) (fun h3 => ?_)
      · skip
        have h92 : (x.i : Int) = 9 := of_decide_eq_true h3
        refine RL.move rfl rfl rfl ?_
        refine RL.bin rfl rfl rfl BinV.gtr rfl ?_
        refine RL.pickT rfl rfl rfl rfl ?_
        refine RL.move rfl rfl rfl ?_
        refine RL.part (fun h4 => ?_) (fun h4 => ?_)
        · skip
          have h96 := of_decide_eq_true h4
          refine RL.skip rfl rfl rfl ?_
          refine RL.skip rfl rfl rfl ?_
          refine RL.skip rfl rfl rfl ?_
          refine RL.skip rfl rfl rfl ?_
          refine RL.skip rfl rfl rfl ?_
          refine RL.skip rfl rfl rfl ?_
          refine RL.pickT rfl rfl rfl rfl ?_
          refine RL.nil ?_
          refine NX.seq ?_
          refine TR.condT rfl ?_
          refine TR.seq ?_
          refine TR.region ?_
          refine RL.move rfl rfl rfl ?_
          refine RL.nilCheck rfl rfl rfl ?_
          refine RL.fieldAddr rfl wh_tf121_1 rfl rfl ?_
          refine RL.store1 0 rfl wh_ts39 rfl rfl rfl rfl rfl ?_
          refine RL.nil ?_
          refine NX.seq ?_
          refine TR.exit ?_
          refine NX.exitThen ?_
          refine NX.exitOn rfl ?_
          refine NX.exitThen ?_
          refine NX.exitThen ?_
          refine NX.exitHere ?_
          refine NX.seq ?_
          refine TR.seq ?_
          refine TR.region ?_
          refine RL.assign rfl rfl rfl ?_
          refine RL.nil ?_
          refine NX.seq ?_
          refine TR.ret ?_
          have hb : badU x.i l[x.i] := by unfold badU; omega
          have hru : rdU l e = (0, l.drop (x.i + 1), 2) := by rw [hin.2.2.1, hdk, decU_bad hb]
          have hrb : refB l e = l := by unfold refB; rw [hru]; exact if_neg (show ¬ (2 : Int) = 0 by decide)
          refine NX.ret1x rfl rfl (fun w hw => ⟨⟨⟨oa, c⟩, by rw [hrb]; exact hc⟩, by rw [hru] <;> rfl, ?_⟩)
          show St w (Box b 121 [.slice oa (refB l e).length c, I (rdU l e).2.2] :: M) (ArrF oa (bytesV (refB l e)) :: F)
          rw [hrb, hru]
          exact (hw.facts (F' := F) (fun φ h => .tail _ h)).addFact (ArrF oa (bytesV l)) (fun K hf => hf _ ha)
        · skip
          have h96 := of_decide_eq_false h4
          refine RL.move rfl rfl rfl ?_
          refine RL.bin rfl rfl rfl BinV.gtr rfl ?_
          refine RL.move rfl rfl rfl ?_
          refine RL.part (fun h5 => ?_) (fun h5 => ?_)
          · skip
            have h99 := of_decide_eq_true h5
            refine RL.move rfl rfl rfl ?_
            refine RL.bin rfl rfl rfl BinV.eql rfl ?_
            refine RL.pickT rfl rfl rfl rfl ?_
            refine RL.pickF rfl rfl rfl rfl ?_
            refine RL.nil ?_
            refine NX.seq ?_
            refine TR.cond rfl (fun h6 => ?_) (fun h6 => ?_)
            · skip
              have h44 := of_decide_eq_true h6
              refine TR.seq ?_
              refine TR.region ?_
              refine RL.move rfl rfl rfl ?_
              refine RL.nilCheck rfl rfl rfl ?_
              refine RL.fieldAddr rfl wh_tf121_1 rfl rfl ?_
              refine RL.store1 0 rfl wh_ts39 rfl rfl rfl rfl rfl ?_
              refine RL.nil ?_
              refine NX.seq ?_
              refine TR.exit ?_
              refine NX.exitThen ?_
              refine NX.exitOn rfl ?_
              refine NX.exitThen ?_
              refine NX.exitThen ?_
              refine NX.exitHere ?_
              refine NX.seq ?_
              refine TR.seq ?_
              refine TR.region ?_
              refine RL.assign rfl rfl rfl ?_
              refine RL.nil ?_
              refine NX.seq ?_
              refine TR.ret ?_
              have hb : badU x.i l[x.i] := by unfold badU; omega
              have hru : rdU l e = (0, l.drop (x.i + 1), 2) := by rw [hin.2.2.1, hdk, decU_bad hb]
              have hrb : refB l e = l := by unfold refB; rw [hru]; exact if_neg (show ¬ (2 : Int) = 0 by decide)
              refine NX.ret1x rfl rfl (fun w hw => ⟨⟨⟨oa, c⟩, by rw [hrb]; exact hc⟩, by rw [hru] <;> rfl, ?_⟩)
              show St w (Box b 121 [.slice oa (refB l e).length c, I (rdU l e).2.2] :: M) (ArrF oa (bytesV (refB l e)) :: F)
              rw [hrb, hru]
              exact (hw.facts (F' := F) (fun φ h => .tail _ h)).addFact (ArrF oa (bytesV l)) (fun K hf => hf _ ha)
            · skip
              have h44 := of_decide_eq_false h6
              refine TR.skip ?_
              refine NX.seq ?_
              refine TR.seq ?_
              refine TR.region ?_
              have hgood : ¬ badU x.i l[x.i] := by unfold badU; omega
              have hfit := byte_fits hgood hin.1 hin.2.1
              have hmul : l[x.i].toNat % 128 * 2 ^ (7 * x.i) % 18446744073709551616 = l[x.i].toNat % 128 * 2 ^ (7 * x.i) := Nat.mod_eq_of_lt (by omega)
              have hadd : (x.n + l[x.i].toNat % 128 * 2 ^ (7 * x.i) % 18446744073709551616) % 18446744073709551616 = x.n + l[x.i].toNat % 128 * 2 ^ (7 * x.i) := by rw [hmul, Nat.mod_eq_of_lt hfit.1]
              refine RL.move rfl rfl rfl ?_
              refine RL.move rfl rfl rfl ?_
              refine RL.bin rfl rfl rfl (BinV.remK (b := 128) (by omega)) rfl ?_
              refine RL.conv rfl rfl (ConvV.bu wh_ti5 wh_ti65 (by omega)) rfl ?_
              refine RL.move rfl rfl rfl ?_
              refine RL.bin rfl rfl rfl BinV.mulUw rfl ?_
              refine RL.bin rfl rfl rfl BinV.addUw rfl ?_
              refine RL.assign rfl rfl rfl ?_
              refine RL.nil ?_
              refine NX.seq ?_
              refine TR.seq ?_
              refine TR.region ?_
              refine RL.move rfl rfl rfl ?_
              refine RL.bin rfl rfl rfl (BinV.mulUw (b := 128)) rfl ?_
              refine RL.assign rfl rfl rfl ?_
              refine RL.nil ?_
              refine NX.seq ?_
              refine TR.seq ?_
              refine TR.region ?_
              refine RL.move rfl rfl rfl ?_
              refine RL.bin rfl rfl rfl BinV.lss rfl ?_
              refine RL.nil ?_
              refine NX.seq ?_
              refine TR.cond rfl (fun h7 => ?_) (fun h7 => ?_)
              · skip
                have h128 : l[x.i].toNat < 128 := by have := of_decide_eq_true h7; omega
                refine TR.seq ?_
                refine TR.region ?_
                refine RL.move rfl rfl rfl ?_
                refine RL.move rfl rfl rfl ?_
                refine RL.nilCheck rfl rfl rfl ?_
                refine RL.fieldAddr rfl wh_tf121_0 rfl rfl ?_
                refine RL.load1 0 rfl wh_ts23 rfl rfl rfl rfl ?_
                refine RL.move rfl rfl rfl ?_
                refine RL.bin rfl rfl rfl (BinV.add _ rfl (by omega) (by omega)) rfl ?_
                refine RL.sliceFromB (k := (x.i + 1)) (cap := c) rfl wh_tl23 wh_tz5 rfl rfl (by omega) hc (.tail _ ha) rfl ?_
                refine RL.nilCheck rfl rfl rfl ?_
                refine RL.fieldAddr rfl wh_tf121_0 rfl rfl ?_
                refine RL.store1 0 rfl wh_ts23 rfl rfl rfl rfl rfl ?_
                refine RL.nil ?_
                refine NX.seq ?_
                refine TR.seq ?_
                refine TR.region ?_
                refine RL.move rfl rfl rfl ?_
                refine RL.assign rfl rfl rfl ?_
                refine RL.nil ?_
                refine NX.seq ?_
                refine TR.ret ?_
                refine NX.retBlock ?_
                refine NX.retThen ?_
                refine NX.retThen ?_
                refine NX.retBlock ?_
                refine NX.retThen ?_
                have hru : rdU l e = (x.n + l[x.i].toNat % 128 * 2 ^ (7 * x.i), l.drop (x.i + 1), 0) := by rw [hin.2.2.1, hdk, decU_last hgood h128]
                rw [hadd]
                have hrb : refB l e = (l.drop (x.i + 1)) := by unfold refB; rw [hru]; exact if_pos (show (0 : Int) = 0 from rfl)
                refine NX.ret1x rfl rfl (fun w hw => ⟨⟨⟨(cutA oa (x.i + 1) c 1), (c - (x.i + 1))⟩, by rw [hrb]; exact (show (l.drop (x.i + 1)).length ≤ c - (x.i + 1) by rw [List.length_drop]; omega)⟩, by rw [hru] <;> rfl, ?_⟩)
                show St w (Box b 121 [.slice (cutA oa (x.i + 1) c 1) (refB l e).length (c - (x.i + 1)), I (rdU l e).2.2] :: M) (ArrF (cutA oa (x.i + 1) c 1) (bytesV (refB l e)) :: F)
                rw [hrb, hru]
                exact (by
                  have h9 : St w (Box b 121 [.slice (cutA oa (x.i + 1) c 1) (l.drop (x.i + 1)).length (c - (x.i + 1)), I e] :: M) _ := hw
                  rw [hee] at h9
                  exact h9.facts (fun φ h => by
                    rcases List.mem_cons.1 h with e1 | h
                    · subst e1; exact .head _
                    · exact .tail _ (.tail _ h)))
              · skip
                have h128 : ¬ l[x.i].toNat < 128 := by have := of_decide_eq_false h7; omega
                have hi8 : x.i ≤ 8 := by unfold badU at hgood; omega
                refine TR.skip ?_
                refine NX.off ?_
                refine NX.seq ?_
                refine TR.region ?_
                refine RL.move rfl rfl rfl ?_
                refine RL.bin rfl rfl rfl (BinV.add _ rfl (by omega) (by omega)) rfl ?_
                refine RL.assign rfl rfl rfl ?_
                refine RL.nil ?_
                have hu : 2 ^ (7 * x.i) * 128 % 18446744073709551616 = 2 ^ (7 * (x.i + 1)) := by
                  have e1 : (2 : Nat) ^ (7 * (x.i + 1)) = 2 ^ (7 * x.i) * 128 := by rw [show 7 * (x.i + 1) = 7 * x.i + 7 from by omega, Nat.pow_add]
                  have e2 : (2 : Nat) ^ (7 * (x.i + 1)) ≤ 2 ^ 63 := Nat.pow_le_pow_right (by omega) (by omega)
                  rw [← e1]; exact Nat.mod_eq_of_lt (by omega)
                refine NX.roundP ⟨x.i + 1, x.n + l[x.i].toNat % 128 * 2 ^ (7 * x.i)⟩ (fun _ => ⟨by show x.i + 1 ≤ 9; omega, hfit.2 hi8, ?_, hlt⟩) (by show _ - (x.i + 1) < _ - x.i; omega) ⟨rfl, congrArg (fun z => some (U z)) hadd, congrArg (fun z => some (U z)) hu, rfl, trivial⟩ (fun w hw => hw.facts (fun φ h => .tail _ h))
                show rdU l e = decU (x.i + 1) _ (l.drop (x.i + 1))
                rw [hin.2.2.1, hdk, decU_more hgood h128]
          · skip
            have h99 := of_decide_eq_false h5
            refine RL.skip rfl rfl rfl ?_
            refine RL.skip rfl rfl rfl ?_
            refine RL.pickF rfl rfl rfl rfl ?_
            refine RL.pickF rfl rfl rfl rfl ?_
            refine RL.nil ?_
            refine NX.seq ?_
            refine TR.condF rfl ?_
            refine TR.skip ?_
            refine NX.seq ?_
            refine TR.seq ?_
            refine TR.region ?_
            have hgood : ¬ badU x.i l[x.i] := by unfold badU; omega
            have hfit := byte_fits hgood hin.1 hin.2.1
            have hmul : l[x.i].toNat % 128 * 2 ^ (7 * x.i) % 18446744073709551616 = l[x.i].toNat % 128 * 2 ^ (7 * x.i) := Nat.mod_eq_of_lt (by omega)
            have hadd : (x.n + l[x.i].toNat % 128 * 2 ^ (7 * x.i) % 18446744073709551616) % 18446744073709551616 = x.n + l[x.i].toNat % 128 * 2 ^ (7 * x.i) := by rw [hmul, Nat.mod_eq_of_lt hfit.1]
            refine RL.move rfl rfl rfl ?_
            refine RL.move rfl rfl rfl ?_
            refine RL.bin rfl rfl rfl (BinV.remK (b := 128) (by omega)) rfl ?_
            refine RL.conv rfl rfl (ConvV.bu wh_ti5 wh_ti65 (by omega)) rfl ?_
            refine RL.move rfl rfl rfl ?_
            refine RL.bin rfl rfl rfl BinV.mulUw rfl ?_
            refine RL.bin rfl rfl rfl BinV.addUw rfl ?_
            refine RL.assign rfl rfl rfl ?_
            refine RL.nil ?_
            refine NX.seq ?_
            refine TR.seq ?_
            refine TR.region ?_
            refine RL.move rfl rfl rfl ?_
            refine RL.bin rfl rfl rfl (BinV.mulUw (b := 128)) rfl ?_
            refine RL.assign rfl rfl rfl ?_
            refine RL.nil ?_
            refine NX.seq ?_
            refine TR.seq ?_
            refine TR.region ?_
            refine RL.move rfl rfl rfl ?_
            refine RL.bin rfl rfl rfl BinV.lss rfl ?_
            refine RL.nil ?_
            refine NX.seq ?_
            refine TR.cond rfl (fun h8 => ?_) (fun h8 => ?_)
            · skip
              have h128 : l[x.i].toNat < 128 := by have := of_decide_eq_true h8; omega
              refine TR.seq ?_
              refine TR.region ?_
              refine RL.move rfl rfl rfl ?_
              refine RL.move rfl rfl rfl ?_
              refine RL.nilCheck rfl rfl rfl ?_
              refine RL.fieldAddr rfl wh_tf121_0 rfl rfl ?_
              refine RL.load1 0 rfl wh_ts23 rfl rfl rfl rfl ?_
              refine RL.move rfl rfl rfl ?_
              refine RL.bin rfl rfl rfl (BinV.add _ rfl (by omega) (by omega)) rfl ?_
              refine RL.sliceFromB (k := (x.i + 1)) (cap := c) rfl wh_tl23 wh_tz5 rfl rfl (by omega) hc (.tail _ ha) rfl ?_
              refine RL.nilCheck rfl rfl rfl ?_
              refine RL.fieldAddr rfl wh_tf121_0 rfl rfl ?_
              refine RL.store1 0 rfl wh_ts23 rfl rfl rfl rfl rfl ?_
              refine RL.nil ?_
              refine NX.seq ?_
              refine TR.seq ?_
              refine TR.region ?_
              refine RL.move rfl rfl rfl ?_
              refine RL.assign rfl rfl rfl ?_
              refine RL.nil ?_
              refine NX.seq ?_
              refine TR.ret ?_
              refine NX.retBlock ?_
              refine NX.retThen ?_
              refine NX.retThen ?_
              refine NX.retBlock ?_
              refine NX.retThen ?_
              have hru : rdU l e = (x.n + l[x.i].toNat % 128 * 2 ^ (7 * x.i), l.drop (x.i + 1), 0) := by rw [hin.2.2.1, hdk, decU_last hgood h128]
              rw [hadd]
              have hrb : refB l e = (l.drop (x.i + 1)) := by unfold refB; rw [hru]; exact if_pos (show (0 : Int) = 0 from rfl)
              refine NX.ret1x rfl rfl (fun w hw => ⟨⟨⟨(cutA oa (x.i + 1) c 1), (c - (x.i + 1))⟩, by rw [hrb]; exact (show (l.drop (x.i + 1)).length ≤ c - (x.i + 1) by rw [List.length_drop]; omega)⟩, by rw [hru] <;> rfl, ?_⟩)
              show St w (Box b 121 [.slice (cutA oa (x.i + 1) c 1) (refB l e).length (c - (x.i + 1)), I (rdU l e).2.2] :: M) (ArrF (cutA oa (x.i + 1) c 1) (bytesV (refB l e)) :: F)
              rw [hrb, hru]
              exact (by
                have h9 : St w (Box b 121 [.slice (cutA oa (x.i + 1) c 1) (l.drop (x.i + 1)).length (c - (x.i + 1)), I e] :: M) _ := hw
                rw [hee] at h9
                exact h9.facts (fun φ h => by
                  rcases List.mem_cons.1 h with e1 | h
                  · subst e1; exact .head _
                  · exact .tail _ (.tail _ h)))
            · skip
              have h128 : ¬ l[x.i].toNat < 128 := by have := of_decide_eq_false h8; omega
              have hi8 : x.i ≤ 8 := by unfold badU at hgood; omega
              refine TR.skip ?_
              refine NX.off ?_
              refine NX.seq ?_
              refine TR.region ?_
              refine RL.move rfl rfl rfl ?_
              refine RL.bin rfl rfl rfl (BinV.add _ rfl (by omega) (by omega)) rfl ?_
              refine RL.assign rfl rfl rfl ?_
              refine RL.nil ?_
              have hu : 2 ^ (7 * x.i) * 128 % 18446744073709551616 = 2 ^ (7 * (x.i + 1)) := by
                have e1 : (2 : Nat) ^ (7 * (x.i + 1)) = 2 ^ (7 * x.i) * 128 := by rw [show 7 * (x.i + 1) = 7 * x.i + 7 from by omega, Nat.pow_add]
                have e2 : (2 : Nat) ^ (7 * (x.i + 1)) ≤ 2 ^ 63 := Nat.pow_le_pow_right (by omega) (by omega)
                rw [← e1]; exact Nat.mod_eq_of_lt (by omega)
              refine NX.roundP ⟨x.i + 1, x.n + l[x.i].toNat % 128 * 2 ^ (7 * x.i)⟩ (fun _ => ⟨by show x.i + 1 ≤ 9; omega, hfit.2 hi8, ?_, hlt⟩) (by show _ - (x.i + 1) < _ - x.i; omega) ⟨rfl, congrArg (fun z => some (U z)) hadd, congrArg (fun z => some (U z)) hu, rfl, trivial⟩ (fun w hw => hw.facts (fun φ h => .tail _ h))
              show rdU l e = decU (x.i + 1) _ (l.drop (x.i + 1))
              rw [hin.2.2.1, hdk, decU_more hgood h128]
      · skip
        have h92 : ¬ (x.i : Int) = 9 := of_decide_eq_false h3
        refine RL.skip rfl rfl rfl ?_
        refine RL.skip rfl rfl rfl ?_
        refine RL.pickF rfl rfl rfl rfl ?_
        refine RL.move rfl rfl rfl ?_
        refine RL.move rfl rfl rfl ?_
        refine RL.bin rfl rfl rfl BinV.gtr rfl ?_
        refine RL.move rfl rfl rfl ?_
        refine RL.part (fun h9 => ?_) (fun h9 => ?_)
        · skip
          have h99 := of_decide_eq_true h9
          refine RL.move rfl rfl rfl ?_
          refine RL.bin rfl rfl rfl BinV.eql rfl ?_
          refine RL.pickT rfl rfl rfl rfl ?_
          refine RL.pickF rfl rfl rfl rfl ?_
          refine RL.nil ?_
          refine NX.seq ?_
          refine TR.cond rfl (fun h10 => ?_) (fun h10 => ?_)
          · skip
            have h44 := of_decide_eq_true h10
            refine TR.seq ?_
            refine TR.region ?_
            refine RL.move rfl rfl rfl ?_
            refine RL.nilCheck rfl rfl rfl ?_
            refine RL.fieldAddr rfl wh_tf121_1 rfl rfl ?_
            refine RL.store1 0 rfl wh_ts39 rfl rfl rfl rfl rfl ?_
            refine RL.nil ?_
            refine NX.seq ?_
            refine TR.exit ?_
            refine NX.exitThen ?_
            refine NX.exitOn rfl ?_
            refine NX.exitThen ?_
            refine NX.exitThen ?_
            refine NX.exitHere ?_
            refine NX.seq ?_
            refine TR.seq ?_
            refine TR.region ?_
            refine RL.assign rfl rfl rfl ?_
            refine RL.nil ?_
            refine NX.seq ?_
            refine TR.ret ?_
            have hb : badU x.i l[x.i] := by unfold badU; omega
            have hru : rdU l e = (0, l.drop (x.i + 1), 2) := by rw [hin.2.2.1, hdk, decU_bad hb]
            have hrb : refB l e = l := by unfold refB; rw [hru]; exact if_neg (show ¬ (2 : Int) = 0 by decide)
            refine NX.ret1x rfl rfl (fun w hw => ⟨⟨⟨oa, c⟩, by rw [hrb]; exact hc⟩, by rw [hru] <;> rfl, ?_⟩)
            show St w (Box b 121 [.slice oa (refB l e).length c, I (rdU l e).2.2] :: M) (ArrF oa (bytesV (refB l e)) :: F)
            rw [hrb, hru]
            exact (hw.facts (F' := F) (fun φ h => .tail _ h)).addFact (ArrF oa (bytesV l)) (fun K hf => hf _ ha)
          · skip
            have h44 := of_decide_eq_false h10
            refine TR.skip ?_
            refine NX.seq ?_
            refine TR.seq ?_
            refine TR.region ?_
            have hgood : ¬ badU x.i l[x.i] := by unfold badU; omega
            have hfit := byte_fits hgood hin.1 hin.2.1
            have hmul : l[x.i].toNat % 128 * 2 ^ (7 * x.i) % 18446744073709551616 = l[x.i].toNat % 128 * 2 ^ (7 * x.i) := Nat.mod_eq_of_lt (by omega)
            have hadd : (x.n + l[x.i].toNat % 128 * 2 ^ (7 * x.i) % 18446744073709551616) % 18446744073709551616 = x.n + l[x.i].toNat % 128 * 2 ^ (7 * x.i) := by rw [hmul, Nat.mod_eq_of_lt hfit.1]
            refine RL.move rfl rfl rfl ?_
            refine RL.move rfl rfl rfl ?_
            refine RL.bin rfl rfl rfl (BinV.remK (b := 128) (by omega)) rfl ?_
            refine RL.conv rfl rfl (ConvV.bu wh_ti5 wh_ti65 (by omega)) rfl ?_
            refine RL.move rfl rfl rfl ?_
            refine RL.bin rfl rfl rfl BinV.mulUw rfl ?_
            refine RL.bin rfl rfl rfl BinV.addUw rfl ?_
            refine RL.assign rfl rfl rfl ?_
            refine RL.nil ?_
            refine NX.seq ?_
            refine TR.seq ?_
            refine TR.region ?_
            refine RL.move rfl rfl rfl ?_
            refine RL.bin rfl rfl rfl (BinV.mulUw (b := 128)) rfl ?_
            refine RL.assign rfl rfl rfl ?_
            refine RL.nil ?_
            refine NX.seq ?_
            refine TR.seq ?_
            refine TR.region ?_
            refine RL.move rfl rfl rfl ?_
            refine RL.bin rfl rfl rfl BinV.lss rfl ?_
            refine RL.nil ?_
            refine NX.seq ?_
            refine TR.cond rfl (fun h11 => ?_) (fun h11 => ?_)
            · skip
              have h128 : l[x.i].toNat < 128 := by have := of_decide_eq_true h11; omega
              refine TR.seq ?_
              refine TR.region ?_
              refine RL.move rfl rfl rfl ?_
              refine RL.move rfl rfl rfl ?_
              refine RL.nilCheck rfl rfl rfl ?_
              refine RL.fieldAddr rfl wh_tf121_0 rfl rfl ?_
              refine RL.load1 0 rfl wh_ts23 rfl rfl rfl rfl ?_
              refine RL.move rfl rfl rfl ?_
              refine RL.bin rfl rfl rfl (BinV.add _ rfl (by omega) (by omega)) rfl ?_
              refine RL.sliceFromB (k := (x.i + 1)) (cap := c) rfl wh_tl23 wh_tz5 rfl rfl (by omega) hc (.tail _ ha) rfl ?_
              refine RL.nilCheck rfl rfl rfl ?_
              refine RL.fieldAddr rfl wh_tf121_0 rfl rfl ?_
              refine RL.store1 0 rfl wh_ts23 rfl rfl rfl rfl rfl ?_
              refine RL.nil ?_
              refine NX.seq ?_
              refine TR.seq ?_
              refine TR.region ?_
              refine RL.move rfl rfl rfl ?_
              refine RL.assign rfl rfl rfl ?_
              refine RL.nil ?_
              refine NX.seq ?_
              refine TR.ret ?_
              refine NX.retBlock ?_
              refine NX.retThen ?_
              refine NX.retThen ?_
              refine NX.retBlock ?_
              refine NX.retThen ?_
              have hru : rdU l e = (x.n + l[x.i].toNat % 128 * 2 ^ (7 * x.i), l.drop (x.i + 1), 0) := by rw [hin.2.2.1, hdk, decU_last hgood h128]
              rw [hadd]
              have hrb : refB l e = (l.drop (x.i + 1)) := by unfold refB; rw [hru]; exact if_pos (show (0 : Int) = 0 from rfl)
              refine NX.ret1x rfl rfl (fun w hw => ⟨⟨⟨(cutA oa (x.i + 1) c 1), (c - (x.i + 1))⟩, by rw [hrb]; exact (show (l.drop (x.i + 1)).length ≤ c - (x.i + 1) by rw [List.length_drop]; omega)⟩, by rw [hru] <;> rfl, ?_⟩)
              show St w (Box b 121 [.slice (cutA oa (x.i + 1) c 1) (refB l e).length (c - (x.i + 1)), I (rdU l e).2.2] :: M) (ArrF (cutA oa (x.i + 1) c 1) (bytesV (refB l e)) :: F)
              rw [hrb, hru]
              exact (by
                have h9 : St w (Box b 121 [.slice (cutA oa (x.i + 1) c 1) (l.drop (x.i + 1)).length (c - (x.i + 1)), I e] :: M) _ := hw
                rw [hee] at h9
                exact h9.facts (fun φ h => by
                  rcases List.mem_cons.1 h with e1 | h
                  · subst e1; exact .head _
                  · exact .tail _ (.tail _ h)))
            · skip
              have h128 : ¬ l[x.i].toNat < 128 := by have := of_decide_eq_false h11; omega
              have hi8 : x.i ≤ 8 := by unfold badU at hgood; omega
              refine TR.skip ?_
              refine NX.off ?_
              refine NX.seq ?_
              refine TR.region ?_
              refine RL.move rfl rfl rfl ?_
              refine RL.bin rfl rfl rfl (BinV.add _ rfl (by omega) (by omega)) rfl ?_
              refine RL.assign rfl rfl rfl ?_
              refine RL.nil ?_
              have hu : 2 ^ (7 * x.i) * 128 % 18446744073709551616 = 2 ^ (7 * (x.i + 1)) := by
                have e1 : (2 : Nat) ^ (7 * (x.i + 1)) = 2 ^ (7 * x.i) * 128 := by rw [show 7 * (x.i + 1) = 7 * x.i + 7 from by omega, Nat.pow_add]
                have e2 : (2 : Nat) ^ (7 * (x.i + 1)) ≤ 2 ^ 63 := Nat.pow_le_pow_right (by omega) (by omega)
                rw [← e1]; exact Nat.mod_eq_of_lt (by omega)
              refine NX.roundP ⟨x.i + 1, x.n + l[x.i].toNat % 128 * 2 ^ (7 * x.i)⟩ (fun _ => ⟨by show x.i + 1 ≤ 9; omega, hfit.2 hi8, ?_, hlt⟩) (by show _ - (x.i + 1) < _ - x.i; omega) ⟨rfl, congrArg (fun z => some (U z)) hadd, congrArg (fun z => some (U z)) hu, rfl, trivial⟩ (fun w hw => hw.facts (fun φ h => .tail _ h))
              show rdU l e = decU (x.i + 1) _ (l.drop (x.i + 1))
              rw [hin.2.2.1, hdk, decU_more hgood h128]
        · skip
          have h99 := of_decide_eq_false h9
          refine RL.skip rfl rfl rfl ?_
          refine RL.skip rfl rfl rfl ?_
          refine RL.pickF rfl rfl rfl rfl ?_
          refine RL.pickF rfl rfl rfl rfl ?_
          refine RL.nil ?_
          refine NX.seq ?_
          refine TR.condF rfl ?_
          refine TR.skip ?_
          refine NX.seq ?_
          refine TR.seq ?_
          refine TR.region ?_
          have hgood : ¬ badU x.i l[x.i] := by unfold badU; omega
          have hfit := byte_fits hgood hin.1 hin.2.1
          have hmul : l[x.i].toNat % 128 * 2 ^ (7 * x.i) % 18446744073709551616 = l[x.i].toNat % 128 * 2 ^ (7 * x.i) := Nat.mod_eq_of_lt (by omega)
          have hadd : (x.n + l[x.i].toNat % 128 * 2 ^ (7 * x.i) % 18446744073709551616) % 18446744073709551616 = x.n + l[x.i].toNat % 128 * 2 ^ (7 * x.i) := by rw [hmul, Nat.mod_eq_of_lt hfit.1]
          refine RL.move rfl rfl rfl ?_
          refine RL.move rfl rfl rfl ?_
          refine RL.bin rfl rfl rfl (BinV.remK (b := 128) (by omega)) rfl ?_
          refine RL.conv rfl rfl (ConvV.bu wh_ti5 wh_ti65 (by omega)) rfl ?_
          refine RL.move rfl rfl rfl ?_
          refine RL.bin rfl rfl rfl BinV.mulUw rfl ?_
          refine RL.bin rfl rfl rfl BinV.addUw rfl ?_
          refine RL.assign rfl rfl rfl ?_
          refine RL.nil ?_
          refine NX.seq ?_
          refine TR.seq ?_
          refine TR.region ?_
          refine RL.move rfl rfl rfl ?_
          refine RL.bin rfl rfl rfl (BinV.mulUw (b := 128)) rfl ?_
          refine RL.assign rfl rfl rfl ?_
          refine RL.nil ?_
          refine NX.seq ?_
          refine TR.seq ?_
          refine TR.region ?_
          refine RL.move rfl rfl rfl ?_
          refine RL.bin rfl rfl rfl BinV.lss rfl ?_
          refine RL.nil ?_
          refine NX.seq ?_
          refine TR.cond rfl (fun h12 => ?_) (fun h12 => ?_)
          · skip
            have h128 : l[x.i].toNat < 128 := by have := of_decide_eq_true h12; omega
            refine TR.seq ?_
            refine TR.region ?_
            refine RL.move rfl rfl rfl ?_
            refine RL.move rfl rfl rfl ?_
            refine RL.nilCheck rfl rfl rfl ?_
            refine RL.fieldAddr rfl wh_tf121_0 rfl rfl ?_
            refine RL.load1 0 rfl wh_ts23 rfl rfl rfl rfl ?_
            refine RL.move rfl rfl rfl ?_
            refine RL.bin rfl rfl rfl (BinV.add _ rfl (by omega) (by omega)) rfl ?_
            refine RL.sliceFromB (k := (x.i + 1)) (cap := c) rfl wh_tl23 wh_tz5 rfl rfl (by omega) hc (.tail _ ha) rfl ?_
            refine RL.nilCheck rfl rfl rfl ?_
            refine RL.fieldAddr rfl wh_tf121_0 rfl rfl ?_
            refine RL.store1 0 rfl wh_ts23 rfl rfl rfl rfl rfl ?_
            refine RL.nil ?_
            refine NX.seq ?_
            refine TR.seq ?_
            refine TR.region ?_
            refine RL.move rfl rfl rfl ?_
            refine RL.assign rfl rfl rfl ?_
            refine RL.nil ?_
            refine NX.seq ?_
            refine TR.ret ?_
            refine NX.retBlock ?_
            refine NX.retThen ?_
            refine NX.retThen ?_
            refine NX.retBlock ?_
            refine NX.retThen ?_
            have hru : rdU l e = (x.n + l[x.i].toNat % 128 * 2 ^ (7 * x.i), l.drop (x.i + 1), 0) := by rw [hin.2.2.1, hdk, decU_last hgood h128]
            rw [hadd]
            have hrb : refB l e = (l.drop (x.i + 1)) := by unfold refB; rw [hru]; exact if_pos (show (0 : Int) = 0 from rfl)
            refine NX.ret1x rfl rfl (fun w hw => ⟨⟨⟨(cutA oa (x.i + 1) c 1), (c - (x.i + 1))⟩, by rw [hrb]; exact (show (l.drop (x.i + 1)).length ≤ c - (x.i + 1) by rw [List.length_drop]; omega)⟩, by rw [hru] <;> rfl, ?_⟩)
            show St w (Box b 121 [.slice (cutA oa (x.i + 1) c 1) (refB l e).length (c - (x.i + 1)), I (rdU l e).2.2] :: M) (ArrF (cutA oa (x.i + 1) c 1) (bytesV (refB l e)) :: F)
            rw [hrb, hru]
            exact (by
              have h9 : St w (Box b 121 [.slice (cutA oa (x.i + 1) c 1) (l.drop (x.i + 1)).length (c - (x.i + 1)), I e] :: M) _ := hw
              rw [hee] at h9
              exact h9.facts (fun φ h => by
                rcases List.mem_cons.1 h with e1 | h
                · subst e1; exact .head _
                · exact .tail _ (.tail _ h)))
          · skip
            have h128 : ¬ l[x.i].toNat < 128 := by have := of_decide_eq_false h12; omega
            have hi8 : x.i ≤ 8 := by unfold badU at hgood; omega
            refine TR.skip ?_
            refine NX.off ?_
            refine NX.seq ?_
            refine TR.region ?_
            refine RL.move rfl rfl rfl ?_
            refine RL.bin rfl rfl rfl (BinV.add _ rfl (by omega) (by omega)) rfl ?_
            refine RL.assign rfl rfl rfl ?_
            refine RL.nil ?_
            have hu : 2 ^ (7 * x.i) * 128 % 18446744073709551616 = 2 ^ (7 * (x.i + 1)) := by
              have e1 : (2 : Nat) ^ (7 * (x.i + 1)) = 2 ^ (7 * x.i) * 128 := by rw [show 7 * (x.i + 1) = 7 * x.i + 7 from by omega, Nat.pow_add]
              have e2 : (2 : Nat) ^ (7 * (x.i + 1)) ≤ 2 ^ 63 := Nat.pow_le_pow_right (by omega) (by omega)
              rw [← e1]; exact Nat.mod_eq_of_lt (by omega)
            refine NX.roundP ⟨x.i + 1, x.n + l[x.i].toNat % 128 * 2 ^ (7 * x.i)⟩ (fun _ => ⟨by show x.i + 1 ≤ 9; omega, hfit.2 hi8, ?_, hlt⟩) (by show _ - (x.i + 1) < _ - x.i; omega) ⟨rfl, congrArg (fun z => some (U z)) hadd, congrArg (fun z => some (U z)) hu, rfl, trivial⟩ (fun w hw => hw.facts (fun φ h => .tail _ h))
            show rdU l e = decU (x.i + 1) _ (l.drop (x.i + 1))
            rw [hin.2.2.1, hdk, decU_more hgood h128]
  · skip
    have hee : ¬ e = 0 := of_decide_eq_false h1
    refine TR.exit ?_
    refine NX.exitThen ?_
    refine NX.exitThen ?_
    refine NX.exitHere ?_
    refine NX.seq ?_
    refine TR.seq ?_
    refine TR.region ?_
    refine RL.assign rfl rfl rfl ?_
    refine RL.nil ?_
    refine NX.seq ?_
    refine TR.ret ?_
    have hru : rdU l e = (0, l, e) := by unfold rdU; rw [if_neg hee]
    have hrb : refB l e = l := by unfold refB; rw [hru]; exact if_neg hee
    refine NX.ret1x rfl rfl (fun w hw => ⟨⟨⟨oa, c⟩, by rw [hrb]; exact hc⟩, by rw [hru] <;> rfl, ?_⟩)
    show St w (Box b 121 [.slice oa (refB l e).length c, I (rdU l e).2.2] :: M) (ArrF oa (bytesV (refB l e)) :: F)
    rw [hrb, hru]
    exact hw.addFact (ArrF oa (bytesV l)) (fun K hf => hf _ ha)

theorem rrInt_spec {b : Nat} {l : List UInt8} {oa : Option Addr} {c : Nat} {e : Int} {M : List HP} {F : List Fact} (ha : ArrF oa (bytesV l) ∈ F) (hc : l.length ≤ c) : Ctr Try.prog 80 [.pointer (some ⟨b, 0, none⟩)] (Box b 121 [.slice oa l.length c, I e] :: M) F {z : RdX // (refB l e).length ≤ z.c} (fun _ => I (uz (rdU l e).1)) (fun z => Box b 121 [.slice z.1.oa (refB l e).length z.1.c, I (rdU l e).2.2] :: M) (fun z => ArrF z.1.oa (bytesV (refB l e)) :: F) := by
  refine Ctr.body Try.func80 rfl rfl ?_
  refine TR.seq ?_
  refine TR.region ?_
  refine RL.assign rfl rfl rfl ?_
  refine RL.nil ?_
  refine NX.seq ?_
  refine TR.seq ?_
  refine TR.region ?_
  refine RL.move rfl rfl rfl ?_
  refine RL.call rfl rfl Try.call98 rfl (rrUint_spec ha hc) (fun y => ?_)
  refine RL.call rfl rfl Try.call97 rfl (back_spec rdU_lt) (fun _ => ?_)
  refine RL.assign rfl rfl rfl ?_
  refine RL.nil ?_
  refine NX.seq ?_
  refine TR.ret ?_
  exact NX.ret1 y rfl rfl rfl (fun w hw => hw)

theorem rrLen_spec {b : Nat} {l : List UInt8} {oa : Option Addr} {c : Nat} {e : Int} {M : List HP} {F : List Fact} (ha : ArrF oa (bytesV l) ∈ F) (hc : l.length ≤ c) (hl : l.length ≤ 70368744177664) : Ctr Try.prog 96 [.pointer (some ⟨b, 0, none⟩)] (Box b 121 [.slice oa l.length c, I e] :: M) F {z : RdX // (refB l e).length ≤ z.c} (fun _ => I (if (rdRaw l e).2.2 = 0 then ((rdU l e).1 : Int) else 0)) (fun z => Box b 121 [.slice z.1.oa (refB l e).length z.1.c, I (rdRaw l e).2.2] :: M) (fun z => ArrF z.1.oa (bytesV (refB l e)) :: F) := by
  refine Ctr.body Try.func96 rfl rfl ?_
  refine TR.seq ?_
  refine TR.region ?_
  refine RL.assign rfl rfl rfl ?_
  refine RL.nil ?_
  refine NX.seq ?_
  refine TR.seq ?_
  refine TR.region ?_
  refine RL.move rfl rfl rfl ?_
  refine RL.call rfl rfl Try.call98 rfl (rrUint_spec ha hc) (fun y => ?_)
  refine RL.assign rfl rfl rfl ?_
  refine RL.nil ?_
  refine NX.seq ?_
  refine TR.seq ?_
  refine TR.seq ?_
  refine TR.region ?_
  have hbl := refB_len (l := l) (e := e)
  have hpl := rdU_len (l := l) (e := e)
  refine RL.move rfl rfl rfl ?_
  refine RL.nilCheck rfl rfl rfl ?_
  refine RL.fieldAddr rfl wh_tf121_1 rfl rfl ?_
  refine RL.load1 0 rfl wh_ts39 rfl rfl rfl rfl ?_
  refine RL.bin rfl rfl rfl BinV.eql rfl ?_
  refine RL.move rfl rfl rfl ?_
  refine RL.part (fun h1 => ?_) (fun h1 => ?_)
  · skip
    have he0 : (rdU l e).2.2 = 0 := of_decide_eq_true h1
    have hbe : refB l e = (rdU l e).2.1 := by unfold refB; rw [if_pos he0]
    refine RL.move rfl rfl rfl ?_
    refine RL.move rfl rfl rfl ?_
    refine RL.nilCheck rfl rfl rfl ?_
    refine RL.fieldAddr rfl wh_tf121_0 rfl rfl ?_
    refine RL.load1 0 rfl wh_ts23 rfl rfl rfl rfl ?_
    refine RL.lenSlice rfl wh_tl23 rfl rfl ?_
    refine RL.conv rfl rfl (ConvV.iu wh_ti3 wh_ti65 (by omega)) rfl ?_
    refine RL.bin rfl rfl rfl BinV.gtr rfl ?_
    refine RL.pickT rfl rfl rfl rfl ?_
    refine RL.nil ?_
    refine NX.seq ?_
    refine TR.cond rfl (fun h2 => ?_) (fun h2 => ?_)
    · skip
      have hfar : (rdU l e).2.1.length < (rdU l e).1 := by rw [← hbe]; have := of_decide_eq_true h2; omega
      refine TR.region ?_
      refine RL.move rfl rfl rfl ?_
      refine RL.nilCheck rfl rfl rfl ?_
      refine RL.fieldAddr rfl wh_tf121_1 rfl rfl ?_
      refine RL.store1 0 rfl wh_ts39 rfl rfl rfl rfl rfl ?_
      refine RL.nil ?_
      refine NX.seq ?_
      refine TR.seq ?_
      refine TR.seq ?_
      refine TR.region ?_
      refine RL.move rfl rfl rfl ?_
      refine RL.nilCheck rfl rfl rfl ?_
      refine RL.fieldAddr rfl wh_tf121_1 rfl rfl ?_
      refine RL.load1 0 rfl wh_ts39 rfl rfl rfl rfl ?_
      refine RL.bin rfl rfl rfl BinV.neq rfl ?_
      refine RL.nil ?_
      refine NX.seq ?_
      refine TR.cond rfl (fun h3 => ?_) (fun h3 => ?_)
      · skip
        refine TR.seq ?_
        refine TR.region ?_
        refine RL.assign rfl rfl rfl ?_
        refine RL.nil ?_
        refine NX.seq ?_
        refine TR.ret ?_
        refine NX.retThen ?_
        have hR : rdRaw l e = ([], (rdU l e).2.1, 3) := rdRaw_far he0 hfar
        refine NX.ret1 y rfl rfl (by rw [hR]; rfl) (fun w hw => ?_)
        rw [hR]
        exact hw
      · skip
        exact absurd (of_decide_eq_false h3) (by decide)
    · skip
      have hnear : (rdU l e).1 ≤ (rdU l e).2.1.length := by rw [← hbe]; have := of_decide_eq_false h2; omega
      refine TR.skip ?_
      refine NX.seq ?_
      refine TR.seq ?_
      refine TR.seq ?_
      refine TR.region ?_
      refine RL.move rfl rfl rfl ?_
      refine RL.nilCheck rfl rfl rfl ?_
      refine RL.fieldAddr rfl wh_tf121_1 rfl rfl ?_
      refine RL.load1 0 rfl wh_ts39 rfl rfl rfl rfl ?_
      refine RL.bin rfl rfl rfl BinV.neq rfl ?_
      refine RL.nil ?_
      refine NX.seq ?_
      refine TR.cond rfl (fun h4 => ?_) (fun h4 => ?_)
      · skip
        exact absurd he0 (of_decide_eq_true h4)
      · skip
        refine TR.skip ?_
        refine NX.seq ?_
        refine TR.seq ?_
        refine TR.region ?_
        refine RL.move rfl rfl rfl ?_
        refine RL.conv rfl rfl (ConvV.uiS wh_ti65 wh_ti3 (by omega)) rfl ?_
        refine RL.assign rfl rfl rfl ?_
        refine RL.nil ?_
        refine NX.seq ?_
        refine TR.ret ?_
        have hR := rdRaw_ok he0 hnear
        refine NX.ret1 y rfl rfl (by rw [hR]; exact congrArg (fun z => I z) (if_pos rfl).symm) (fun w hw => ?_)
        rw [hR]
        rw [he0] at hw
        exact hw
  · skip
    have he0 : ¬ (rdU l e).2.2 = 0 := of_decide_eq_false h1
    refine RL.skip rfl rfl rfl ?_
    refine RL.skip rfl rfl rfl ?_
    refine RL.skip rfl rfl rfl ?_
    refine RL.skip rfl rfl rfl ?_
    refine RL.skip rfl rfl rfl ?_
    refine RL.skip rfl rfl rfl ?_
    refine RL.skip rfl rfl rfl ?_
    refine RL.skip rfl rfl rfl ?_
    refine RL.pickF rfl rfl rfl rfl ?_
    refine RL.nil ?_
    refine NX.seq ?_
    refine TR.condF rfl ?_
    refine TR.skip ?_
    refine NX.seq ?_
    refine TR.seq ?_
    refine TR.seq ?_
    refine TR.region ?_
    refine RL.move rfl rfl rfl ?_
    refine RL.nilCheck rfl rfl rfl ?_
    refine RL.fieldAddr rfl wh_tf121_1 rfl rfl ?_
    refine RL.load1 0 rfl wh_ts39 rfl rfl rfl rfl ?_
    refine RL.bin rfl rfl rfl BinV.neq rfl ?_
    refine RL.nil ?_
    refine NX.seq ?_
    refine TR.cond rfl (fun h5 => ?_) (fun h5 => ?_)
    · skip
      refine TR.seq ?_
      refine TR.region ?_
      refine RL.assign rfl rfl rfl ?_
      refine RL.nil ?_
      refine NX.seq ?_
      refine TR.ret ?_
      refine NX.retThen ?_
      have hR := rdRaw_err he0
      refine NX.ret1 y rfl rfl (by rw [hR]; exact congrArg (fun z => I z) (if_neg he0).symm) (fun w hw => ?_)
      rw [hR]
      exact hw
    · skip
      exact absurd he0 (of_decide_eq_false h5)

theorem rrRaw_spec {b : Nat} {l : List UInt8} {oa : Option Addr} {c : Nat} {e : Int} {M : List HP} {F : List Fact} (ha : ArrF oa (bytesV l) ∈ F) (hc : l.length ≤ c) (hl : l.length ≤ 70368744177664) : Ctr Try.prog 79 [.pointer (some ⟨b, 0, none⟩)] (Box b 121 [.slice oa l.length c, I e] :: M) F {z : RwX // (refR l e).length ≤ z.c ∧ (rdRaw l e).1.length ≤ z.rc} (fun z => .slice z.1.ro (rdRaw l e).1.length z.1.rc) (fun z => Box b 121 [.slice z.1.oa (refR l e).length z.1.c, I (rdRaw l e).2.2] :: M) (fun z => ArrF z.1.ro (bytesV (rdRaw l e).1) :: ArrF z.1.oa (bytesV (refR l e)) :: F) := by
  refine Ctr.body Try.func79 rfl rfl ?_
  refine TR.seq ?_
  refine TR.region ?_
  refine RL.assign rfl rfl rfl ?_
  refine RL.nil ?_
  refine NX.seq ?_
  refine TR.seq ?_
  refine TR.region ?_
  refine RL.move rfl rfl rfl ?_
  refine RL.call rfl rfl Try.call96 rfl (rrLen_spec ha hc hl) (fun y => ?_)
  refine RL.assign rfl rfl rfl ?_
  refine RL.nil ?_
  refine NX.seq ?_
  refine TR.seq ?_
  refine TR.seq ?_
  refine TR.region ?_
  refine RL.move rfl rfl rfl ?_
  refine RL.nilCheck rfl rfl rfl ?_
  refine RL.fieldAddr rfl wh_tf121_1 rfl rfl ?_
  refine RL.load1 0 rfl wh_ts39 rfl rfl rfl rfl ?_
  refine RL.bin rfl rfl rfl BinV.neq rfl ?_
  refine RL.nil ?_
  refine NX.seq ?_
  refine TR.cond rfl (fun h1 => ?_) (fun h1 => ?_)
  · skip
    have hE : ¬ (rdRaw l e).2.2 = 0 := of_decide_eq_true h1
    refine TR.seq ?_
    refine TR.region ?_
    refine RL.assign rfl rfl rfl ?_
    refine RL.nil ?_
    refine NX.seq ?_
    refine TR.ret ?_
    refine NX.retThen ?_
    have hRn : (rdRaw l e).1 = [] := by
      rcases Int.decEq (rdU l e).2.2 0 with h | h
      · rw [rdRaw_err h]
      · rcases Nat.lt_or_ge (rdU l e).2.1.length (rdU l e).1 with h2 | h2
        · rw [rdRaw_far h h2]
        · rw [rdRaw_ok h h2] at hE; exact absurd rfl hE
    refine NX.ret1x rfl rfl (fun w hw => ⟨⟨⟨none, 0, y.1.oa, y.1.c⟩, ?_⟩, ?_, ?_⟩)
    · unfold refR; rw [if_neg hE]; exact ⟨y.2, by rw [hRn]; exact Nat.zero_le _⟩
    · show Value.slice none 0 0 = Value.slice none (rdRaw l e).1.length 0; rw [hRn]; rfl
    · show St w (Box b 121 [.slice y.1.oa (refR l e).length y.1.c, I (rdRaw l e).2.2] :: M) (ArrF none (bytesV (rdRaw l e).1) :: ArrF y.1.oa (bytesV (refR l e)) :: F)
      unfold refR
      rw [if_neg hE, hRn]
      exact hw.arr0
  · skip
    have hE : (rdRaw l e).2.2 = 0 := by have := of_decide_eq_false h1; omega
    have he0 : (rdU l e).2.2 = 0 := by
      rcases Int.decEq (rdU l e).2.2 0 with h | h
      · rw [rdRaw_err h] at hE; exact absurd hE h
      · exact h
    have hnear : (rdU l e).1 ≤ (rdU l e).2.1.length := by
      rcases Nat.lt_or_ge (rdU l e).2.1.length (rdU l e).1 with h | h
      · rw [rdRaw_far he0 h] at hE; exact absurd hE (show ¬ (3 : Int) = 0 by decide)
      · exact h
    have hR := rdRaw_ok he0 hnear
    have hbe : refB l e = (rdU l e).2.1 := by unfold refB; rw [if_pos he0]
    have hLV : (if (rdRaw l e).2.2 = 0 then ((rdU l e).1 : Int) else 0) = ((rdU l e).1 : Int) := if_pos hE
    obtain ⟨⟨yoa, yc⟩, hyc⟩ := y
    have hyc : (refB l e).length ≤ yc := hyc
    rw [hLV]
    refine TR.skip ?_
    refine NX.seq ?_
    refine TR.seq ?_
    refine TR.region ?_
    refine RL.move rfl rfl rfl ?_
    refine RL.nilCheck rfl rfl rfl ?_
    refine RL.fieldAddr rfl wh_tf121_0 rfl rfl ?_
    refine RL.load1 0 rfl wh_ts23 rfl rfl rfl rfl ?_
    refine RL.move rfl rfl rfl ?_
    refine RL.sliceToB (k := (rdU l e).1) (cap := yc) rfl wh_tl23 wh_tz5 rfl rfl (by rw [List.length_take, hbe]; omega) hyc (.head _) rfl ?_
    refine RL.assign rfl rfl rfl ?_
    refine RL.nil ?_
    refine NX.seq ?_
    refine TR.seq ?_
    refine TR.region ?_
    refine RL.move rfl rfl rfl ?_
    refine RL.move rfl rfl rfl ?_
    refine RL.nilCheck rfl rfl rfl ?_
    refine RL.fieldAddr rfl wh_tf121_0 rfl rfl ?_
    refine RL.load1 0 rfl wh_ts23 rfl rfl rfl rfl ?_
    refine RL.move rfl rfl rfl ?_
    refine RL.sliceFromB (k := (rdU l e).1) (cap := yc) rfl wh_tl23 wh_tz5 rfl rfl (by rw [hbe]; exact hnear) hyc (.tail _ (.head _)) rfl ?_
    refine RL.nilCheck rfl rfl rfl ?_
    refine RL.fieldAddr rfl wh_tf121_0 rfl rfl ?_
    refine RL.store1 0 rfl wh_ts23 rfl rfl rfl rfl rfl ?_
    refine RL.nil ?_
    refine NX.seq ?_
    refine TR.seq ?_
    refine TR.region ?_
    refine RL.move rfl rfl rfl ?_
    refine RL.assign rfl rfl rfl ?_
    refine RL.nil ?_
    refine NX.seq ?_
    refine TR.ret ?_
    refine NX.ret1x rfl rfl (fun w hw => ⟨⟨⟨cutA yoa 0 yc 1, yc, cutA yoa (rdU l e).1 yc 1, yc - (rdU l e).1⟩, ?_⟩, ?_, ?_⟩)
    · unfold refR; rw [if_pos hE, hR]
      have h7 := hyc
      rw [hbe] at h7
      exact ⟨by show ((rdU l e).2.1.drop (rdU l e).1).length ≤ yc - (rdU l e).1; rw [List.length_drop]; omega, by show ((rdU l e).2.1.take (rdU l e).1).length ≤ yc; rw [List.length_take]; omega⟩
    · show Value.slice (cutA yoa 0 yc 1) ((refB l e).take (rdU l e).1).length yc = Value.slice (cutA yoa 0 yc 1) (rdRaw l e).1.length yc
      rw [hR, hbe]
    · show St w (Box b 121 [.slice (cutA yoa (rdU l e).1 yc 1) (refR l e).length (yc - (rdU l e).1), I (rdRaw l e).2.2] :: M) (ArrF (cutA yoa 0 yc 1) (bytesV (rdRaw l e).1) :: ArrF (cutA yoa (rdU l e).1 yc 1) (bytesV (refR l e)) :: F)
      unfold refR
      rw [if_pos hE]
      have h9 : St w (Box b 121 [.slice (cutA yoa (rdU l e).1 yc 1) ((refB l e).drop (rdU l e).1).length (yc - (rdU l e).1), I (rdRaw l e).2.2] :: M) (ArrF (cutA yoa (rdU l e).1 yc 1) (bytesV ((refB l e).drop (rdU l e).1)) :: ArrF (cutA yoa 0 yc 1) (bytesV ((refB l e).take (rdU l e).1)) :: ArrF yoa (bytesV (refB l e)) :: F) := hw
      rw [hR] at h9 ⊢
      rw [hbe] at h9
      exact h9.facts (fun φ h => by
        rcases List.mem_cons.1 h with e1 | h
        · subst e1; exact .tail _ (.head _)
        rcases List.mem_cons.1 h with e1 | h
        · subst e1; exact .head _
        · exact .tail _ (.tail _ (.tail _ h)))

end Go.Proofs.Ytdlpaojkkekdlaa
