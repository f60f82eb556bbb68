/- Walks of functions of the program. Printed by sx.py. -/
import Derived.Test.YtdlpaojkkekdlaaWb
namespace Go.Proofs.Ytdlpaojkkekdlaa
open Go.GL
set_option linter.unusedVariables false
theorem wc_bs23_1_0 (x0 : Int) : BuildSV Try.prog 23 5 1 [(0, .int .u8 x0)] [.int .u8 x0] := fun w => by kernel_rfl
theorem wc_bv105_0 (x0 : Option Addr) (x0n x0c : Nat) : BuildV Try.prog 105 [(0, .slice x0 x0n x0c)] (.agg #[.slice x0 x0n x0c, .int .i64 0]) := fun w => by kernel_rfl
theorem wc_ni23 : noInt Try.prog 23 = true := by kernel_rfl
theorem wc_te5 : tyElem Try.prog 5 1 1 = true := by kernel_rfl
theorem wc_tf105_0 : fieldOff Try.prog 105 0 0 = true := by kernel_rfl
theorem wc_tf105_1 : fieldOff Try.prog 105 1 1 = true := by kernel_rfl
theorem wc_ti3 : tyInt Try.prog 3 .i64 = true := by kernel_rfl
theorem wc_ti5 : tyInt Try.prog 5 .u8 = true := by kernel_rfl
theorem wc_ti65 : tyInt Try.prog 65 .u64 = true := by kernel_rfl
theorem wc_tl23 : tySlice Try.prog 23 5 = true := by kernel_rfl
theorem wc_ts23 : tyScalar Try.prog 23 = true := by kernel_rfl
theorem wc_ts39 : tyScalar Try.prog 39 = true := by kernel_rfl
theorem wc_ts5 : tyScalar Try.prog 5 = true := by kernel_rfl
theorem wc_tz5 : tySize Try.prog 5 1 = true := by kernel_rfl
theorem read_spec {l : List UInt8} {oa : Option Addr} {c : Nat} {M : List HP} {F : List Fact} (ha : ArrF oa (bytesV l) ∈ F) (hl : l.length ≤ 70368744177664) : Ctr Try.prog 32 [.slice oa l.length c] M F {z : Nat × RdX // l.length ≤ z.2.c} (fun z => .pointer (some ⟨z.1.1, 0, none⟩)) (fun z => Box z.1.1 105 [.slice z.1.2.oa l.length z.1.2.c, I 0] :: M) (fun z => ArrF z.1.2.oa (bytesV l) :: F) := by
  refine Ctr.body Try.func32 rfl rfl ?_
  refine TR.seq ?_
  refine TR.region ?_
  refine RL.assign rfl rfl rfl ?_
  refine RL.nil ?_
  refine NX.seq ?_
  refine TR.seq ?_
  refine TR.region ?_
  refine RL.move rfl rfl rfl ?_
  refine RL.call rfl rfl Try.call61 rfl (cloneB_spec (rd_fact ha) hl) (fun z => ?_)
  refine RL.build rfl rfl (wc_bv105_0 _ _ _) rfl ?_
  refine RL.boxA rfl rfl rfl (fun b1 => ?_)
  refine RL.assign rfl rfl rfl ?_
  refine RL.nil ?_
  refine NX.seq ?_
  refine TR.ret ?_
  refine NX.ret1x rfl rfl (fun w hw => ⟨⟨(b1, ⟨z.1, z.2⟩), hw.swap.ownLen.2⟩, rfl, ?_⟩)
  exact hw.swap.keepSl

theorem fail_spec {b : Nat} {sl : Value} {e k : Int} {M : List HP} {F : List Fact} : Ctr Try.prog 68 [.pointer (some ⟨b, 0, none⟩), I k] (Box b 105 [sl, I e] :: M) F Unit (fun _ => .tuple #[]) (fun _ => Box b 105 [sl, I (if e = 0 then k else e)] :: M) (fun _ => F) := by
  refine Ctr.body Try.func68 rfl rfl ?_
  refine TR.seq ?_
  refine TR.region ?_
  refine RL.move rfl rfl rfl ?_
  refine RL.nilCheck rfl rfl rfl ?_
  refine RL.fieldAddr rfl wc_tf105_1 rfl rfl ?_
  refine RL.load1 0 rfl wc_ts39 rfl rfl rfl rfl ?_
  refine RL.bin rfl rfl rfl BinV.eql rfl ?_
  refine RL.nil ?_
  refine NX.seq ?_
  refine TR.cond rfl (fun h1 => ?_) (fun h1 => ?_)
  · skip
    have he : e = 0 := of_decide_eq_true h1
    refine TR.region ?_
    refine RL.move rfl rfl rfl ?_
    refine RL.move rfl rfl rfl ?_
    refine RL.nilCheck rfl rfl rfl ?_
    refine RL.fieldAddr rfl wc_tf105_1 rfl rfl ?_
    refine RL.store1 0 rfl wc_ts39 rfl rfl rfl rfl rfl ?_
    refine RL.nil ?_
    refine NX.end0 () rfl rfl (fun w hw => ?_)
    rw [if_pos he]
    exact hw
  · skip
    have he : ¬ e = 0 := of_decide_eq_false h1
    refine TR.skip ?_
    refine NX.end0 () rfl rfl (fun w hw => ?_)
    rw [if_neg he]
    exact hw

theorem nextN_spec {b : Nat} {oa : Option Addr} {c : Nat} {M : List HP} {F : List Fact} : Ctr Try.prog 67 [.pointer (some ⟨b, 0, none⟩)] (Box b 105 [.slice oa ([] : List UInt8).length c, I 0] :: M) F Unit (fun _ => .int .u8 0) (fun _ => Box b 105 [.slice oa 0 c, I 3] :: M) (fun _ => F) := by
  refine Ctr.body Try.func67 rfl rfl ?_
  refine TR.seq ?_
  refine TR.region ?_
  refine RL.assign rfl rfl rfl ?_
  refine RL.nil ?_
  refine NX.seq ?_
  refine TR.seq ?_
  refine TR.seq ?_
  refine TR.region ?_
  refine RL.move rfl rfl rfl ?_
  refine RL.nilCheck rfl rfl rfl ?_
  refine RL.fieldAddr rfl wc_tf105_0 rfl rfl ?_
  refine RL.load1 0 rfl wc_ts23 rfl rfl rfl rfl ?_
  refine RL.lenSlice rfl wc_tl23 rfl rfl ?_
  refine RL.bin rfl rfl rfl BinV.eql rfl ?_
  refine RL.nil ?_
  refine NX.seq ?_
  refine TR.cond rfl (fun h1 => ?_) (fun h1 => ?_)
  · skip
    refine TR.region ?_
    refine RL.move rfl rfl rfl ?_
    refine RL.call rfl rfl Try.call68 rfl (fail_spec) (fun _ => ?_)
    refine RL.nil ?_
    refine NX.seq ?_
    refine TR.seq ?_
    refine TR.seq ?_
    refine TR.region ?_
    refine RL.move rfl rfl rfl ?_
    refine RL.nilCheck rfl rfl rfl ?_
    refine RL.fieldAddr rfl wc_tf105_1 rfl rfl ?_
    refine RL.load1 0 rfl wc_ts39 rfl rfl rfl rfl ?_
    refine RL.bin rfl rfl rfl BinV.neq rfl ?_
    refine RL.nil ?_
    refine NX.seq ?_
    refine TR.cond rfl (fun h2 => ?_) (fun h2 => ?_)
    · skip
      refine TR.seq ?_
      refine TR.region ?_
      refine RL.assign rfl rfl rfl ?_
      refine RL.nil ?_
      refine NX.seq ?_
      refine TR.ret ?_
      refine NX.retThen ?_
      refine NX.ret1 () rfl rfl rfl (fun w hw => ?_)
      rw [if_pos rfl] at hw
      exact hw
    · skip
      exact absurd (of_decide_eq_false h2) (by simp)
  · skip
    exact absurd (of_decide_eq_false h1) (by simp)

theorem nextC_spec {b : Nat} {oa : Option Addr} {c : Nat} {M : List HP} {F : List Fact} {x : UInt8} {l : List UInt8} (ha : ArrF oa (bytesV (x :: l)) ∈ F) (hc : (x :: l).length ≤ c) : Ctr Try.prog 67 [.pointer (some ⟨b, 0, none⟩)] (Box b 105 [.slice oa (x :: l).length c, I 0] :: M) F {z : RdX // l.length ≤ z.c} (fun _ => .int .u8 (x.toNat : Int)) (fun z => Box b 105 [.slice z.1.oa l.length z.1.c, I 0] :: M) (fun z => ArrF z.1.oa (bytesV l) :: F) := by
  refine Ctr.body Try.func67 rfl rfl ?_
  refine TR.seq ?_
  refine TR.region ?_
  refine RL.assign rfl rfl rfl ?_
  refine RL.nil ?_
  refine NX.seq ?_
  refine TR.seq ?_
  refine TR.seq ?_
  refine TR.region ?_
  refine RL.move rfl rfl rfl ?_
  refine RL.nilCheck rfl rfl rfl ?_
  refine RL.fieldAddr rfl wc_tf105_0 rfl rfl ?_
  refine RL.load1 0 rfl wc_ts23 rfl rfl rfl rfl ?_
  refine RL.lenSlice rfl wc_tl23 rfl rfl ?_
  refine RL.bin rfl rfl rfl BinV.eql rfl ?_
  refine RL.nil ?_
  refine NX.seq ?_
  refine TR.cond rfl (fun h1 => ?_) (fun h1 => ?_)
  · skip
    exact absurd (of_decide_eq_true h1) (by simp only [List.length_cons]; omega)
  · skip
    refine TR.skip ?_
    refine NX.seq ?_
    refine TR.seq ?_
    refine TR.seq ?_
    refine TR.region ?_
    refine RL.move rfl rfl rfl ?_
    refine RL.nilCheck rfl rfl rfl ?_
    refine RL.fieldAddr rfl wc_tf105_1 rfl rfl ?_
    refine RL.load1 0 rfl wc_ts39 rfl rfl rfl rfl ?_
    refine RL.bin rfl rfl rfl BinV.neq rfl ?_
    refine RL.nil ?_
    refine NX.seq ?_
    refine TR.cond rfl (fun h2 => ?_) (fun h2 => ?_)
    · skip
      exact absurd (of_decide_eq_true h2) (by simp)
    · skip
      refine TR.skip ?_
      refine NX.seq ?_
      refine TR.seq ?_
      refine TR.region ?_
      have hlen1 : (x :: l).length = l.length + 1 := rfl
      refine RL.openP (open_arr (oa := oa) (xs := bytesV (x :: l)) ha (by simp [bytesV])) (fun pq hpa => ?_)
      refine RL.move rfl rfl rfl ?_
      refine RL.nilCheck rfl rfl rfl ?_
      refine RL.fieldAddr rfl wc_tf105_0 rfl rfl ?_
      refine RL.load1 0 rfl wc_ts23 rfl rfl rfl rfl ?_
      refine RL.indexAddr rfl wc_tl23 wc_tz5 (congrArg (fun a => some (Value.slice a _ _)) hpa) rfl (by omega) (by omega) rfl ?_
      refine RL.loadF rfl rfl (fun w K hF => run_loadCell1 (j := (0 : Int).toNat * 1) (v := .int .u8 (x.toNat : Int)) (hF _ (.head _)) wc_ts5 (by simp [bytesV])) rfl ?_
      refine RL.assign rfl rfl rfl ?_
      refine RL.nil ?_
      refine NX.seq ?_
      refine TR.seq ?_
      refine TR.region ?_
      refine RL.move rfl rfl rfl ?_
      refine RL.move rfl rfl rfl ?_
      refine RL.nilCheck rfl rfl rfl ?_
      refine RL.fieldAddr rfl wc_tf105_0 rfl rfl ?_
      refine RL.load1 0 rfl wc_ts23 rfl rfl rfl rfl ?_
      refine RL.sliceLH (l := 1) (h := (x :: l).length) rfl wc_tl23 wc_tz5 rfl (.inr ⟨_, rfl, rfl⟩) (.inl ⟨rfl, rfl⟩) (by simp) hc rfl ?_
      refine RL.nilCheck rfl rfl rfl ?_
      refine RL.fieldAddr rfl wc_tf105_0 rfl rfl ?_
      refine RL.store1 0 rfl wc_ts23 rfl rfl rfl rfl rfl ?_
      refine RL.nil ?_
      refine NX.seq ?_
      refine TR.seq ?_
      refine TR.region ?_
      refine RL.move rfl rfl rfl ?_
      refine RL.assign rfl rfl rfl ?_
      refine RL.nil ?_
      refine NX.seq ?_
      refine TR.ret ?_
      refine NX.ret1x rfl rfl (fun w hw => ⟨⟨⟨cutA oa 1 c 1, c - 1⟩, by rw [List.length_cons] at hc; show l.length ≤ c - 1; omega⟩, rfl, ?_⟩)
      have h9 := (hw.facts (F' := F) (fun φ h => .tail _ h)).cutB (oa := oa) (cap := c) (l := x :: l) 1 (by simp) hc ha
      exact h9

structure RuX where
  i : Nat
  n : Nat
  l : List UInt8
  oa : Option Addr
  c : Nat
  e : Int

set_option maxHeartbeats 2000000 in
theorem rUint_spec {b : Nat} {l : List UInt8} {oa : Option Addr} {c : Nat} {e : Int} {M : List HP} {F : List Fact} (ha : ArrF oa (bytesV l) ∈ F) (hc : l.length ≤ c) : Ctr Try.prog 39 [.pointer (some ⟨b, 0, none⟩)] (Box b 105 [.slice oa l.length c, I e] :: M) F {z : RdX // (rdU l e).2.1.length ≤ z.c} (fun _ => U (rdU l e).1) (fun z => Box b 105 [.slice z.1.oa (rdU l e).2.1.length z.1.c, I (rdU l e).2.2] :: M) (fun z => ArrF z.1.oa (bytesV (rdU l e).2.1) :: F) := by
  refine Ctr.body Try.func39 rfl rfl ?_
  refine TR.seq ?_
  refine TR.region ?_
  refine RL.assign rfl rfl rfl ?_
  refine RL.nil ?_
  refine NX.seq ?_
  refine TR.seq ?_
  refine TR.region ?_
  refine RL.assign rfl rfl rfl ?_
  refine RL.nil ?_
  refine NX.seq ?_
  refine TR.seq ?_
  refine TR.seq ?_
  refine TR.region ?_
  refine RL.assign rfl rfl rfl ?_
  refine RL.nil ?_
  refine NX.seq ?_
  refine TR.block ?_
  refine TR.loopP (ι := RuX) (fun x => x.l.length ≤ x.c ∧ rdU l e = (if x.e = 0 then decU x.i x.n x.l else (0, x.l, x.e)) ∧ (x.e = 0 → x.i ≤ 9 ∧ x.n < 2 ^ (7 * x.i))) (fun x => [(0, .pointer (some ⟨b, 0, none⟩)), (3, U x.n), (4, I x.i)]) (fun x => Box b 105 [.slice x.oa x.l.length x.c, I x.e] :: M) (fun x => ArrF x.oa (bytesV x.l) :: F) (fun x => if x.e = 0 then x.l.length + 1 else 0) ⟨0, 0, l, oa, c, e⟩ ⟨hc, rfl, fun _ => ⟨Nat.zero_le _, by simp⟩⟩ ⟨rfl, rfl, rfl, trivial⟩ (fun w hw => hw.addFact (ArrF oa (bytesV l)) (fun K hf => hf _ ha)) (fun x hx => ?_)
  refine TR.seq ?_
  refine TR.seq ?_
  refine TR.region ?_
  refine RL.move rfl rfl rfl ?_
  refine RL.nilCheck rfl rfl rfl ?_
  refine RL.fieldAddr rfl wc_tf105_1 rfl rfl ?_
  refine RL.load1 0 rfl wc_ts39 rfl rfl rfl rfl ?_
  refine RL.bin rfl rfl rfl BinV.eql rfl ?_
  refine RL.nil ?_
  refine NX.seq ?_
  refine TR.cond rfl (fun h1 => ?_) (fun h1 => ?_)
  · skip
    have hxe : x.e = 0 := of_decide_eq_true h1
    have hin := hx.2.2 hxe
    have hru := hx.2.1
    rw [if_pos hxe] at hru
    have hx1 := hx.1
    refine TR.skip ?_
    refine NX.seq ?_
    refine TR.seq ?_
    refine TR.block ?_
    refine TR.seq ?_
    refine TR.region ?_
    rcases hxl : x.l with _ | ⟨cc, l2⟩
    · skip
      refine RL.move rfl rfl rfl ?_
      rw [hxl] at hru hx1
      rw [hxe]
      rw [decU] at hru
      refine RL.call rfl rfl Try.call67 rfl (nextN_spec) (fun _ => ?_)
      refine RL.assign rfl rfl rfl ?_
      refine RL.nil ?_
      refine NX.seq ?_
      refine TR.seq ?_
      refine TR.seq ?_
      refine TR.region ?_
      refine RL.move rfl rfl rfl ?_
      refine RL.bin rfl rfl rfl BinV.eql rfl ?_
      refine RL.move rfl rfl rfl ?_
      refine RL.part (fun h2 => ?_) (fun h2 => ?_)
      · skip
        have h62 : (x.i : Int) = 9 := of_decide_eq_true h2
        refine RL.move rfl rfl rfl ?_
        refine RL.bin rfl rfl rfl BinV.gtr rfl ?_
        refine RL.pickT rfl rfl rfl rfl ?_
        refine RL.move rfl rfl rfl ?_
        refine RL.part (fun h3 => ?_) (fun h3 => ?_)
        · skip
          have h66 := of_decide_eq_true h3
          refine RL.skip rfl rfl rfl ?_
          refine RL.skip rfl rfl rfl ?_
          refine RL.skip rfl rfl rfl ?_
          refine RL.skip rfl rfl rfl ?_
          refine RL.skip rfl rfl rfl ?_
          refine RL.skip rfl rfl rfl ?_
          refine RL.pickT rfl rfl rfl rfl ?_
          refine RL.nil ?_
          refine NX.seq ?_
          refine TR.condT rfl ?_
          refine TR.region ?_
          refine RL.move rfl rfl rfl ?_
          refine RL.call rfl rfl Try.call68 rfl (fail_spec) (fun _ => ?_)
          refine RL.nil ?_
          refine NX.seq ?_
          refine TR.seq ?_
          refine TR.region ?_
          refine RL.move rfl rfl rfl ?_
          refine RL.move rfl rfl rfl ?_
          refine RL.bin rfl rfl rfl (BinV.clear7 (a := 0) (by omega)) rfl ?_
          refine RL.conv rfl rfl (ConvV.bu wc_ti5 wc_ti65 (by omega)) rfl ?_
          refine RL.move rfl rfl rfl ?_
          refine RL.bin rfl rfl rfl (BinV.mul ((7 * x.i : Nat) : Int) (by omega) (by omega) (by omega)) rfl ?_
          refine RL.bin rfl rfl rfl (BinV.shlU (s := 7 * x.i) (by omega)) rfl ?_
          refine RL.bin rfl rfl rfl (BinV.orU (Nat.lt_of_lt_of_le hin.2 (Nat.pow_le_pow_right (by omega) (show 7 * x.i ≤ 64 by omega))) (Nat.mod_lt _ (by omega))) rfl ?_
          refine RL.assign rfl rfl rfl ?_
          refine RL.nil ?_
          refine NX.seq ?_
          refine TR.seq ?_
          refine TR.region ?_
          refine RL.move rfl rfl rfl ?_
          refine RL.bin rfl rfl rfl BinV.lss rfl ?_
          refine RL.move rfl rfl rfl ?_
          refine RL.part (fun h4 => ?_) (fun h4 => ?_)
          · skip
            have h92 := h4
            refine RL.move rfl rfl rfl ?_
            refine RL.nilCheck rfl rfl rfl ?_
            refine RL.fieldAddr rfl wc_tf105_1 rfl rfl ?_
            refine RL.load1 0 rfl wc_ts39 rfl rfl rfl rfl ?_
            refine RL.bin rfl rfl rfl BinV.eql rfl ?_
            refine RL.pickT rfl rfl rfl rfl ?_
            refine RL.nil ?_
            refine NX.seq ?_
            refine TR.cond rfl (fun h5 => ?_) (fun h5 => ?_)
            · skip
              exact absurd (of_decide_eq_true h5) (by decide)
            · skip
              refine TR.skip ?_
              refine NX.off ?_
              refine NX.seq ?_
              refine TR.region ?_
              refine RL.move rfl rfl rfl ?_
              refine RL.bin rfl rfl rfl (BinV.add _ rfl (by omega) (by omega)) rfl ?_
              refine RL.assign rfl rfl rfl ?_
              refine RL.nil ?_
              refine NX.roundP ⟨x.i + 1, (x.n ||| (0 % 128 * 2 ^ (7 * x.i) % 18446744073709551616)), [], x.oa, x.c, 3⟩ ⟨Nat.zero_le _, ?_, fun h => absurd (show (3 : Int) = 0 from h) (by decide)⟩ (by simp) ⟨rfl, rfl, rfl, trivial⟩ (fun w hw => hw)
              · show rdU l e = if (3 : Int) = 0 then _ else (0, [], 3)
                rw [if_neg (by decide)]; exact hru
          · skip
            have h92 := h4
            refine RL.skip rfl rfl rfl ?_
            refine RL.skip rfl rfl rfl ?_
            refine RL.skip rfl rfl rfl ?_
            refine RL.skip rfl rfl rfl ?_
            refine RL.skip rfl rfl rfl ?_
            refine RL.pickF rfl rfl rfl rfl ?_
            refine RL.nil ?_
            refine NX.seq ?_
            refine TR.condF rfl ?_
            refine TR.skip ?_
            refine NX.off ?_
            refine NX.seq ?_
            refine TR.region ?_
            refine RL.move rfl rfl rfl ?_
            refine RL.bin rfl rfl rfl (BinV.add _ rfl (by omega) (by omega)) rfl ?_
            refine RL.assign rfl rfl rfl ?_
            refine RL.nil ?_
            refine NX.roundP ⟨x.i + 1, (x.n ||| (0 % 128 * 2 ^ (7 * x.i) % 18446744073709551616)), [], x.oa, x.c, 3⟩ ⟨Nat.zero_le _, ?_, fun h => absurd (show (3 : Int) = 0 from h) (by decide)⟩ (by simp) ⟨rfl, rfl, rfl, trivial⟩ (fun w hw => hw)
            · show rdU l e = if (3 : Int) = 0 then _ else (0, [], 3)
              rw [if_neg (by decide)]; exact hru
        · skip
          have h66 := of_decide_eq_false h3
          refine RL.move rfl rfl rfl ?_
          refine RL.bin rfl rfl rfl BinV.gtr rfl ?_
          refine RL.move rfl rfl rfl ?_
          refine RL.part (fun h6 => ?_) (fun h6 => ?_)
          · skip
            have h69 := of_decide_eq_true h6
            refine RL.move rfl rfl rfl ?_
            refine RL.bin rfl rfl rfl BinV.eql rfl ?_
            refine RL.pickT rfl rfl rfl rfl ?_
            refine RL.pickF rfl rfl rfl rfl ?_
            refine RL.nil ?_
            refine NX.seq ?_
            refine TR.cond rfl (fun h7 => ?_) (fun h7 => ?_)
            · skip
              have h28 := of_decide_eq_true h7
              refine TR.region ?_
              refine RL.move rfl rfl rfl ?_
              refine RL.call rfl rfl Try.call68 rfl (fail_spec) (fun _ => ?_)
              refine RL.nil ?_
              refine NX.seq ?_
              refine TR.seq ?_
              refine TR.region ?_
              refine RL.move rfl rfl rfl ?_
              refine RL.move rfl rfl rfl ?_
              refine RL.bin rfl rfl rfl (BinV.clear7 (a := 0) (by omega)) rfl ?_
              refine RL.conv rfl rfl (ConvV.bu wc_ti5 wc_ti65 (by omega)) rfl ?_
              refine RL.move rfl rfl rfl ?_
              refine RL.bin rfl rfl rfl (BinV.mul ((7 * x.i : Nat) : Int) (by omega) (by omega) (by omega)) rfl ?_
              refine RL.bin rfl rfl rfl (BinV.shlU (s := 7 * x.i) (by omega)) rfl ?_
              refine RL.bin rfl rfl rfl (BinV.orU (Nat.lt_of_lt_of_le hin.2 (Nat.pow_le_pow_right (by omega) (show 7 * x.i ≤ 64 by omega))) (Nat.mod_lt _ (by omega))) rfl ?_
              refine RL.assign rfl rfl rfl ?_
              refine RL.nil ?_
              refine NX.seq ?_
              refine TR.seq ?_
              refine TR.region ?_
              refine RL.move rfl rfl rfl ?_
              refine RL.bin rfl rfl rfl BinV.lss rfl ?_
              refine RL.move rfl rfl rfl ?_
              refine RL.part (fun h8 => ?_) (fun h8 => ?_)
              · skip
                have h92 := h8
                refine RL.move rfl rfl rfl ?_
                refine RL.nilCheck rfl rfl rfl ?_
                refine RL.fieldAddr rfl wc_tf105_1 rfl rfl ?_
                refine RL.load1 0 rfl wc_ts39 rfl rfl rfl rfl ?_
                refine RL.bin rfl rfl rfl BinV.eql rfl ?_
                refine RL.pickT rfl rfl rfl rfl ?_
                refine RL.nil ?_
                refine NX.seq ?_
                refine TR.cond rfl (fun h9 => ?_) (fun h9 => ?_)
                · skip
                  exact absurd (of_decide_eq_true h9) (by decide)
                · skip
                  refine TR.skip ?_
                  refine NX.off ?_
                  refine NX.seq ?_
                  refine TR.region ?_
                  refine RL.move rfl rfl rfl ?_
                  refine RL.bin rfl rfl rfl (BinV.add _ rfl (by omega) (by omega)) rfl ?_
                  refine RL.assign rfl rfl rfl ?_
                  refine RL.nil ?_
                  refine NX.roundP ⟨x.i + 1, (x.n ||| (0 % 128 * 2 ^ (7 * x.i) % 18446744073709551616)), [], x.oa, x.c, 3⟩ ⟨Nat.zero_le _, ?_, fun h => absurd (show (3 : Int) = 0 from h) (by decide)⟩ (by simp) ⟨rfl, rfl, rfl, trivial⟩ (fun w hw => hw)
                  · show rdU l e = if (3 : Int) = 0 then _ else (0, [], 3)
                    rw [if_neg (by decide)]; exact hru
              · skip
                have h92 := h8
                refine RL.skip rfl rfl rfl ?_
                refine RL.skip rfl rfl rfl ?_
                refine RL.skip rfl rfl rfl ?_
                refine RL.skip rfl rfl rfl ?_
                refine RL.skip rfl rfl rfl ?_
                refine RL.pickF rfl rfl rfl rfl ?_
                refine RL.nil ?_
                refine NX.seq ?_
                refine TR.condF rfl ?_
                refine TR.skip ?_
                refine NX.off ?_
                refine NX.seq ?_
                refine TR.region ?_
                refine RL.move rfl rfl rfl ?_
                refine RL.bin rfl rfl rfl (BinV.add _ rfl (by omega) (by omega)) rfl ?_
                refine RL.assign rfl rfl rfl ?_
                refine RL.nil ?_
                refine NX.roundP ⟨x.i + 1, (x.n ||| (0 % 128 * 2 ^ (7 * x.i) % 18446744073709551616)), [], x.oa, x.c, 3⟩ ⟨Nat.zero_le _, ?_, fun h => absurd (show (3 : Int) = 0 from h) (by decide)⟩ (by simp) ⟨rfl, rfl, rfl, trivial⟩ (fun w hw => hw)
                · show rdU l e = if (3 : Int) = 0 then _ else (0, [], 3)
                  rw [if_neg (by decide)]; exact hru
            · skip
              have h28 := of_decide_eq_false h7
              refine TR.skip ?_
              refine NX.seq ?_
              refine TR.seq ?_
              refine TR.region ?_
              refine RL.move rfl rfl rfl ?_
              refine RL.move rfl rfl rfl ?_
              refine RL.bin rfl rfl rfl (BinV.clear7 (a := 0) (by omega)) rfl ?_
              refine RL.conv rfl rfl (ConvV.bu wc_ti5 wc_ti65 (by omega)) rfl ?_
              refine RL.move rfl rfl rfl ?_
              refine RL.bin rfl rfl rfl (BinV.mul ((7 * x.i : Nat) : Int) (by omega) (by omega) (by omega)) rfl ?_
              refine RL.bin rfl rfl rfl (BinV.shlU (s := 7 * x.i) (by omega)) rfl ?_
              refine RL.bin rfl rfl rfl (BinV.orU (Nat.lt_of_lt_of_le hin.2 (Nat.pow_le_pow_right (by omega) (show 7 * x.i ≤ 64 by omega))) (Nat.mod_lt _ (by omega))) rfl ?_
              refine RL.assign rfl rfl rfl ?_
              refine RL.nil ?_
              refine NX.seq ?_
              refine TR.seq ?_
              refine TR.region ?_
              refine RL.move rfl rfl rfl ?_
              refine RL.bin rfl rfl rfl BinV.lss rfl ?_
              refine RL.move rfl rfl rfl ?_
              refine RL.part (fun h10 => ?_) (fun h10 => ?_)
              · skip
                have h92 := h10
                refine RL.move rfl rfl rfl ?_
                refine RL.nilCheck rfl rfl rfl ?_
                refine RL.fieldAddr rfl wc_tf105_1 rfl rfl ?_
                refine RL.load1 0 rfl wc_ts39 rfl rfl rfl rfl ?_
                refine RL.bin rfl rfl rfl BinV.eql rfl ?_
                refine RL.pickT rfl rfl rfl rfl ?_
                refine RL.nil ?_
                refine NX.seq ?_
                refine TR.cond rfl (fun h11 => ?_) (fun h11 => ?_)
                · skip
                  exact absurd (of_decide_eq_true h11) (by decide)
                · skip
                  refine TR.skip ?_
                  refine NX.off ?_
                  refine NX.seq ?_
                  refine TR.region ?_
                  refine RL.move rfl rfl rfl ?_
                  refine RL.bin rfl rfl rfl (BinV.add _ rfl (by omega) (by omega)) rfl ?_
                  refine RL.assign rfl rfl rfl ?_
                  refine RL.nil ?_
                  refine NX.roundP ⟨x.i + 1, (x.n ||| (0 % 128 * 2 ^ (7 * x.i) % 18446744073709551616)), [], x.oa, x.c, 3⟩ ⟨Nat.zero_le _, ?_, fun h => absurd (show (3 : Int) = 0 from h) (by decide)⟩ (by simp) ⟨rfl, rfl, rfl, trivial⟩ (fun w hw => hw)
                  · show rdU l e = if (3 : Int) = 0 then _ else (0, [], 3)
                    rw [if_neg (by decide)]; exact hru
              · skip
                have h92 := h10
                refine RL.skip rfl rfl rfl ?_
                refine RL.skip rfl rfl rfl ?_
                refine RL.skip rfl rfl rfl ?_
                refine RL.skip rfl rfl rfl ?_
                refine RL.skip rfl rfl rfl ?_
                refine RL.pickF rfl rfl rfl rfl ?_
                refine RL.nil ?_
                refine NX.seq ?_
                refine TR.condF rfl ?_
                refine TR.skip ?_
                refine NX.off ?_
                refine NX.seq ?_
                refine TR.region ?_
                refine RL.move rfl rfl rfl ?_
                refine RL.bin rfl rfl rfl (BinV.add _ rfl (by omega) (by omega)) rfl ?_
                refine RL.assign rfl rfl rfl ?_
                refine RL.nil ?_
                refine NX.roundP ⟨x.i + 1, (x.n ||| (0 % 128 * 2 ^ (7 * x.i) % 18446744073709551616)), [], x.oa, x.c, 3⟩ ⟨Nat.zero_le _, ?_, fun h => absurd (show (3 : Int) = 0 from h) (by decide)⟩ (by simp) ⟨rfl, rfl, rfl, trivial⟩ (fun w hw => hw)
                · show rdU l e = if (3 : Int) = 0 then _ else (0, [], 3)
                  rw [if_neg (by decide)]; exact hru
          · skip
            have h69 := of_decide_eq_false h6
            refine RL.skip rfl rfl rfl ?_
            refine RL.skip rfl rfl rfl ?_
            refine RL.pickF rfl rfl rfl rfl ?_
            refine RL.pickF rfl rfl rfl rfl ?_
            refine RL.nil ?_
            refine NX.seq ?_
            refine TR.condF rfl ?_
            refine TR.skip ?_
            refine NX.seq ?_
            refine TR.seq ?_
            refine TR.region ?_
            refine RL.move rfl rfl rfl ?_
            refine RL.move rfl rfl rfl ?_
            refine RL.bin rfl rfl rfl (BinV.clear7 (a := 0) (by omega)) rfl ?_
            refine RL.conv rfl rfl (ConvV.bu wc_ti5 wc_ti65 (by omega)) rfl ?_
            refine RL.move rfl rfl rfl ?_
            refine RL.bin rfl rfl rfl (BinV.mul ((7 * x.i : Nat) : Int) (by omega) (by omega) (by omega)) rfl ?_
            refine RL.bin rfl rfl rfl (BinV.shlU (s := 7 * x.i) (by omega)) rfl ?_
            refine RL.bin rfl rfl rfl (BinV.orU (Nat.lt_of_lt_of_le hin.2 (Nat.pow_le_pow_right (by omega) (show 7 * x.i ≤ 64 by omega))) (Nat.mod_lt _ (by omega))) rfl ?_
            refine RL.assign rfl rfl rfl ?_
            refine RL.nil ?_
            refine NX.seq ?_
            refine TR.seq ?_
            refine TR.region ?_
            refine RL.move rfl rfl rfl ?_
            refine RL.bin rfl rfl rfl BinV.lss rfl ?_
            refine RL.move rfl rfl rfl ?_
            refine RL.part (fun h12 => ?_) (fun h12 => ?_)
            · skip
              have h92 := h12
              refine RL.move rfl rfl rfl ?_
              refine RL.nilCheck rfl rfl rfl ?_
              refine RL.fieldAddr rfl wc_tf105_1 rfl rfl ?_
              refine RL.load1 0 rfl wc_ts39 rfl rfl rfl rfl ?_
              refine RL.bin rfl rfl rfl BinV.eql rfl ?_
              refine RL.pickT rfl rfl rfl rfl ?_
              refine RL.nil ?_
              refine NX.seq ?_
              refine TR.cond rfl (fun h13 => ?_) (fun h13 => ?_)
              · skip
                exact absurd (of_decide_eq_true h13) (by decide)
              · skip
                refine TR.skip ?_
                refine NX.off ?_
                refine NX.seq ?_
                refine TR.region ?_
                refine RL.move rfl rfl rfl ?_
                refine RL.bin rfl rfl rfl (BinV.add _ rfl (by omega) (by omega)) rfl ?_
                refine RL.assign rfl rfl rfl ?_
                refine RL.nil ?_
                refine NX.roundP ⟨x.i + 1, (x.n ||| (0 % 128 * 2 ^ (7 * x.i) % 18446744073709551616)), [], x.oa, x.c, 3⟩ ⟨Nat.zero_le _, ?_, fun h => absurd (show (3 : Int) = 0 from h) (by decide)⟩ (by simp) ⟨rfl, rfl, rfl, trivial⟩ (fun w hw => hw)
                · show rdU l e = if (3 : Int) = 0 then _ else (0, [], 3)
                  rw [if_neg (by decide)]; exact hru
            · skip
              have h92 := h12
              refine RL.skip rfl rfl rfl ?_
              refine RL.skip rfl rfl rfl ?_
              refine RL.skip rfl rfl rfl ?_
              refine RL.skip rfl rfl rfl ?_
              refine RL.skip rfl rfl rfl ?_
              refine RL.pickF rfl rfl rfl rfl ?_
              refine RL.nil ?_
              refine NX.seq ?_
              refine TR.condF rfl ?_
              refine TR.skip ?_
              refine NX.off ?_
              refine NX.seq ?_
              refine TR.region ?_
              refine RL.move rfl rfl rfl ?_
              refine RL.bin rfl rfl rfl (BinV.add _ rfl (by omega) (by omega)) rfl ?_
              refine RL.assign rfl rfl rfl ?_
              refine RL.nil ?_
              refine NX.roundP ⟨x.i + 1, (x.n ||| (0 % 128 * 2 ^ (7 * x.i) % 18446744073709551616)), [], x.oa, x.c, 3⟩ ⟨Nat.zero_le _, ?_, fun h => absurd (show (3 : Int) = 0 from h) (by decide)⟩ (by simp) ⟨rfl, rfl, rfl, trivial⟩ (fun w hw => hw)
              · show rdU l e = if (3 : Int) = 0 then _ else (0, [], 3)
                rw [if_neg (by decide)]; exact hru
      · skip
        have h62 : ¬ (x.i : Int) = 9 := of_decide_eq_false h2
        refine RL.skip rfl rfl rfl ?_
        refine RL.skip rfl rfl rfl ?_
        refine RL.pickF rfl rfl rfl rfl ?_
        refine RL.move rfl rfl rfl ?_
        refine RL.move rfl rfl rfl ?_
        refine RL.bin rfl rfl rfl BinV.gtr rfl ?_
        refine RL.move rfl rfl rfl ?_
        refine RL.part (fun h14 => ?_) (fun h14 => ?_)
        · skip
          have h69 := of_decide_eq_true h14
          refine RL.move rfl rfl rfl ?_
          refine RL.bin rfl rfl rfl BinV.eql rfl ?_
          refine RL.pickT rfl rfl rfl rfl ?_
          refine RL.pickF rfl rfl rfl rfl ?_
          refine RL.nil ?_
          refine NX.seq ?_
          refine TR.cond rfl (fun h15 => ?_) (fun h15 => ?_)
          · skip
            have h28 := of_decide_eq_true h15
            refine TR.region ?_
            refine RL.move rfl rfl rfl ?_
            refine RL.call rfl rfl Try.call68 rfl (fail_spec) (fun _ => ?_)
            refine RL.nil ?_
            refine NX.seq ?_
            refine TR.seq ?_
            refine TR.region ?_
            refine RL.move rfl rfl rfl ?_
            refine RL.move rfl rfl rfl ?_
            refine RL.bin rfl rfl rfl (BinV.clear7 (a := 0) (by omega)) rfl ?_
            refine RL.conv rfl rfl (ConvV.bu wc_ti5 wc_ti65 (by omega)) rfl ?_
            refine RL.move rfl rfl rfl ?_
            refine RL.bin rfl rfl rfl (BinV.mul ((7 * x.i : Nat) : Int) (by omega) (by omega) (by omega)) rfl ?_
            refine RL.bin rfl rfl rfl (BinV.shlU (s := 7 * x.i) (by omega)) rfl ?_
            refine RL.bin rfl rfl rfl (BinV.orU (Nat.lt_of_lt_of_le hin.2 (Nat.pow_le_pow_right (by omega) (show 7 * x.i ≤ 64 by omega))) (Nat.mod_lt _ (by omega))) rfl ?_
            refine RL.assign rfl rfl rfl ?_
            refine RL.nil ?_
            refine NX.seq ?_
            refine TR.seq ?_
            refine TR.region ?_
            refine RL.move rfl rfl rfl ?_
            refine RL.bin rfl rfl rfl BinV.lss rfl ?_
            refine RL.move rfl rfl rfl ?_
            refine RL.part (fun h16 => ?_) (fun h16 => ?_)
            · skip
              have h92 := h16
              refine RL.move rfl rfl rfl ?_
              refine RL.nilCheck rfl rfl rfl ?_
              refine RL.fieldAddr rfl wc_tf105_1 rfl rfl ?_
              refine RL.load1 0 rfl wc_ts39 rfl rfl rfl rfl ?_
              refine RL.bin rfl rfl rfl BinV.eql rfl ?_
              refine RL.pickT rfl rfl rfl rfl ?_
              refine RL.nil ?_
              refine NX.seq ?_
              refine TR.cond rfl (fun h17 => ?_) (fun h17 => ?_)
              · skip
                exact absurd (of_decide_eq_true h17) (by decide)
              · skip
                refine TR.skip ?_
                refine NX.off ?_
                refine NX.seq ?_
                refine TR.region ?_
                refine RL.move rfl rfl rfl ?_
                refine RL.bin rfl rfl rfl (BinV.add _ rfl (by omega) (by omega)) rfl ?_
                refine RL.assign rfl rfl rfl ?_
                refine RL.nil ?_
                refine NX.roundP ⟨x.i + 1, (x.n ||| (0 % 128 * 2 ^ (7 * x.i) % 18446744073709551616)), [], x.oa, x.c, 3⟩ ⟨Nat.zero_le _, ?_, fun h => absurd (show (3 : Int) = 0 from h) (by decide)⟩ (by simp) ⟨rfl, rfl, rfl, trivial⟩ (fun w hw => hw)
                · show rdU l e = if (3 : Int) = 0 then _ else (0, [], 3)
                  rw [if_neg (by decide)]; exact hru
            · skip
              have h92 := h16
              refine RL.skip rfl rfl rfl ?_
              refine RL.skip rfl rfl rfl ?_
              refine RL.skip rfl rfl rfl ?_
              refine RL.skip rfl rfl rfl ?_
              refine RL.skip rfl rfl rfl ?_
              refine RL.pickF rfl rfl rfl rfl ?_
              refine RL.nil ?_
              refine NX.seq ?_
              refine TR.condF rfl ?_
              refine TR.skip ?_
              refine NX.off ?_
              refine NX.seq ?_
              refine TR.region ?_
              refine RL.move rfl rfl rfl ?_
              refine RL.bin rfl rfl rfl (BinV.add _ rfl (by omega) (by omega)) rfl ?_
              refine RL.assign rfl rfl rfl ?_
              refine RL.nil ?_
              refine NX.roundP ⟨x.i + 1, (x.n ||| (0 % 128 * 2 ^ (7 * x.i) % 18446744073709551616)), [], x.oa, x.c, 3⟩ ⟨Nat.zero_le _, ?_, fun h => absurd (show (3 : Int) = 0 from h) (by decide)⟩ (by simp) ⟨rfl, rfl, rfl, trivial⟩ (fun w hw => hw)
              · show rdU l e = if (3 : Int) = 0 then _ else (0, [], 3)
                rw [if_neg (by decide)]; exact hru
          · skip
            have h28 := of_decide_eq_false h15
            refine TR.skip ?_
            refine NX.seq ?_
            refine TR.seq ?_
            refine TR.region ?_
            refine RL.move rfl rfl rfl ?_
            refine RL.move rfl rfl rfl ?_
            refine RL.bin rfl rfl rfl (BinV.clear7 (a := 0) (by omega)) rfl ?_
            refine RL.conv rfl rfl (ConvV.bu wc_ti5 wc_ti65 (by omega)) rfl ?_
            refine RL.move rfl rfl rfl ?_
            refine RL.bin rfl rfl rfl (BinV.mul ((7 * x.i : Nat) : Int) (by omega) (by omega) (by omega)) rfl ?_
            refine RL.bin rfl rfl rfl (BinV.shlU (s := 7 * x.i) (by omega)) rfl ?_
            refine RL.bin rfl rfl rfl (BinV.orU (Nat.lt_of_lt_of_le hin.2 (Nat.pow_le_pow_right (by omega) (show 7 * x.i ≤ 64 by omega))) (Nat.mod_lt _ (by omega))) rfl ?_
            refine RL.assign rfl rfl rfl ?_
            refine RL.nil ?_
            refine NX.seq ?_
            refine TR.seq ?_
            refine TR.region ?_
            refine RL.move rfl rfl rfl ?_
            refine RL.bin rfl rfl rfl BinV.lss rfl ?_
            refine RL.move rfl rfl rfl ?_
            refine RL.part (fun h18 => ?_) (fun h18 => ?_)
            · skip
              have h92 := h18
              refine RL.move rfl rfl rfl ?_
              refine RL.nilCheck rfl rfl rfl ?_
              refine RL.fieldAddr rfl wc_tf105_1 rfl rfl ?_
              refine RL.load1 0 rfl wc_ts39 rfl rfl rfl rfl ?_
              refine RL.bin rfl rfl rfl BinV.eql rfl ?_
              refine RL.pickT rfl rfl rfl rfl ?_
              refine RL.nil ?_
              refine NX.seq ?_
              refine TR.cond rfl (fun h19 => ?_) (fun h19 => ?_)
              · skip
                exact absurd (of_decide_eq_true h19) (by decide)
              · skip
                refine TR.skip ?_
                refine NX.off ?_
                refine NX.seq ?_
                refine TR.region ?_
                refine RL.move rfl rfl rfl ?_
                refine RL.bin rfl rfl rfl (BinV.add _ rfl (by omega) (by omega)) rfl ?_
                refine RL.assign rfl rfl rfl ?_
                refine RL.nil ?_
                refine NX.roundP ⟨x.i + 1, (x.n ||| (0 % 128 * 2 ^ (7 * x.i) % 18446744073709551616)), [], x.oa, x.c, 3⟩ ⟨Nat.zero_le _, ?_, fun h => absurd (show (3 : Int) = 0 from h) (by decide)⟩ (by simp) ⟨rfl, rfl, rfl, trivial⟩ (fun w hw => hw)
                · show rdU l e = if (3 : Int) = 0 then _ else (0, [], 3)
                  rw [if_neg (by decide)]; exact hru
            · skip
              have h92 := h18
              refine RL.skip rfl rfl rfl ?_
              refine RL.skip rfl rfl rfl ?_
              refine RL.skip rfl rfl rfl ?_
              refine RL.skip rfl rfl rfl ?_
              refine RL.skip rfl rfl rfl ?_
              refine RL.pickF rfl rfl rfl rfl ?_
              refine RL.nil ?_
              refine NX.seq ?_
              refine TR.condF rfl ?_
              refine TR.skip ?_
              refine NX.off ?_
              refine NX.seq ?_
              refine TR.region ?_
              refine RL.move rfl rfl rfl ?_
              refine RL.bin rfl rfl rfl (BinV.add _ rfl (by omega) (by omega)) rfl ?_
              refine RL.assign rfl rfl rfl ?_
              refine RL.nil ?_
              refine NX.roundP ⟨x.i + 1, (x.n ||| (0 % 128 * 2 ^ (7 * x.i) % 18446744073709551616)), [], x.oa, x.c, 3⟩ ⟨Nat.zero_le _, ?_, fun h => absurd (show (3 : Int) = 0 from h) (by decide)⟩ (by simp) ⟨rfl, rfl, rfl, trivial⟩ (fun w hw => hw)
              · show rdU l e = if (3 : Int) = 0 then _ else (0, [], 3)
                rw [if_neg (by decide)]; exact hru
        · skip
          have h69 := of_decide_eq_false h14
          refine RL.skip rfl rfl rfl ?_
          refine RL.skip rfl rfl rfl ?_
          refine RL.pickF rfl rfl rfl rfl ?_
          refine RL.pickF rfl rfl rfl rfl ?_
          refine RL.nil ?_
          refine NX.seq ?_
          refine TR.condF rfl ?_
          refine TR.skip ?_
          refine NX.seq ?_
          refine TR.seq ?_
          refine TR.region ?_
          refine RL.move rfl rfl rfl ?_
          refine RL.move rfl rfl rfl ?_
          refine RL.bin rfl rfl rfl (BinV.clear7 (a := 0) (by omega)) rfl ?_
          refine RL.conv rfl rfl (ConvV.bu wc_ti5 wc_ti65 (by omega)) rfl ?_
          refine RL.move rfl rfl rfl ?_
          refine RL.bin rfl rfl rfl (BinV.mul ((7 * x.i : Nat) : Int) (by omega) (by omega) (by omega)) rfl ?_
          refine RL.bin rfl rfl rfl (BinV.shlU (s := 7 * x.i) (by omega)) rfl ?_
          refine RL.bin rfl rfl rfl (BinV.orU (Nat.lt_of_lt_of_le hin.2 (Nat.pow_le_pow_right (by omega) (show 7 * x.i ≤ 64 by omega))) (Nat.mod_lt _ (by omega))) rfl ?_
          refine RL.assign rfl rfl rfl ?_
          refine RL.nil ?_
          refine NX.seq ?_
          refine TR.seq ?_
          refine TR.region ?_
          refine RL.move rfl rfl rfl ?_
          refine RL.bin rfl rfl rfl BinV.lss rfl ?_
          refine RL.move rfl rfl rfl ?_
          refine RL.part (fun h20 => ?_) (fun h20 => ?_)
          · skip
            have h92 := h20
            refine RL.move rfl rfl rfl ?_
            refine RL.nilCheck rfl rfl rfl ?_
            refine RL.fieldAddr rfl wc_tf105_1 rfl rfl ?_
            refine RL.load1 0 rfl wc_ts39 rfl rfl rfl rfl ?_
            refine RL.bin rfl rfl rfl BinV.eql rfl ?_
            refine RL.pickT rfl rfl rfl rfl ?_
            refine RL.nil ?_
            refine NX.seq ?_
            refine TR.cond rfl (fun h21 => ?_) (fun h21 => ?_)
            · skip
              exact absurd (of_decide_eq_true h21) (by decide)
            · skip
              refine TR.skip ?_
              refine NX.off ?_
              refine NX.seq ?_
              refine TR.region ?_
              refine RL.move rfl rfl rfl ?_
              refine RL.bin rfl rfl rfl (BinV.add _ rfl (by omega) (by omega)) rfl ?_
              refine RL.assign rfl rfl rfl ?_
              refine RL.nil ?_
              refine NX.roundP ⟨x.i + 1, (x.n ||| (0 % 128 * 2 ^ (7 * x.i) % 18446744073709551616)), [], x.oa, x.c, 3⟩ ⟨Nat.zero_le _, ?_, fun h => absurd (show (3 : Int) = 0 from h) (by decide)⟩ (by simp) ⟨rfl, rfl, rfl, trivial⟩ (fun w hw => hw)
              · show rdU l e = if (3 : Int) = 0 then _ else (0, [], 3)
                rw [if_neg (by decide)]; exact hru
          · skip
            have h92 := h20
            refine RL.skip rfl rfl rfl ?_
            refine RL.skip rfl rfl rfl ?_
            refine RL.skip rfl rfl rfl ?_
            refine RL.skip rfl rfl rfl ?_
            refine RL.skip rfl rfl rfl ?_
            refine RL.pickF rfl rfl rfl rfl ?_
            refine RL.nil ?_
            refine NX.seq ?_
            refine TR.condF rfl ?_
            refine TR.skip ?_
            refine NX.off ?_
            refine NX.seq ?_
            refine TR.region ?_
            refine RL.move rfl rfl rfl ?_
            refine RL.bin rfl rfl rfl (BinV.add _ rfl (by omega) (by omega)) rfl ?_
            refine RL.assign rfl rfl rfl ?_
            refine RL.nil ?_
            refine NX.roundP ⟨x.i + 1, (x.n ||| (0 % 128 * 2 ^ (7 * x.i) % 18446744073709551616)), [], x.oa, x.c, 3⟩ ⟨Nat.zero_le _, ?_, fun h => absurd (show (3 : Int) = 0 from h) (by decide)⟩ (by simp) ⟨rfl, rfl, rfl, trivial⟩ (fun w hw => hw)
            · show rdU l e = if (3 : Int) = 0 then _ else (0, [], 3)
              rw [if_neg (by decide)]; exact hru
    · skip
      refine RL.move rfl rfl rfl ?_
      rw [hxl] at hru hx1
      rw [hxe]
      have hcl : (cc :: l2).length ≤ x.c := hx1
      have hcb := cc.toNat_lt
      refine RL.call rfl rfl Try.call67 rfl (nextC_spec (x := cc) (l := l2) (.head _) hcl) (fun y => ?_)
      refine RL.assign rfl rfl rfl ?_
      refine RL.nil ?_
      refine NX.seq ?_
      refine TR.seq ?_
      refine TR.seq ?_
      refine TR.region ?_
      refine RL.move rfl rfl rfl ?_
      refine RL.bin rfl rfl rfl BinV.eql rfl ?_
      refine RL.move rfl rfl rfl ?_
      refine RL.part (fun h22 => ?_) (fun h22 => ?_)
      · skip
        have h62 : (x.i : Int) = 9 := of_decide_eq_true h22
        refine RL.move rfl rfl rfl ?_
        refine RL.bin rfl rfl rfl BinV.gtr rfl ?_
        refine RL.pickT rfl rfl rfl rfl ?_
        refine RL.move rfl rfl rfl ?_
        refine RL.part (fun h23 => ?_) (fun h23 => ?_)
        · skip
          have h66 := of_decide_eq_true h23
          refine RL.skip rfl rfl rfl ?_
          refine RL.skip rfl rfl rfl ?_
          refine RL.skip rfl rfl rfl ?_
          refine RL.skip rfl rfl rfl ?_
          refine RL.skip rfl rfl rfl ?_
          refine RL.skip rfl rfl rfl ?_
          refine RL.pickT rfl rfl rfl rfl ?_
          refine RL.nil ?_
          refine NX.seq ?_
          refine TR.condT rfl ?_
          refine TR.region ?_
          refine RL.move rfl rfl rfl ?_
          refine RL.call rfl rfl Try.call68 rfl (fail_spec) (fun _ => ?_)
          refine RL.nil ?_
          refine NX.seq ?_
          refine TR.seq ?_
          refine TR.region ?_
          refine RL.move rfl rfl rfl ?_
          refine RL.move rfl rfl rfl ?_
          refine RL.bin rfl rfl rfl (BinV.clear7 (a := cc.toNat) (by have := cc.toNat_lt; omega)) rfl ?_
          refine RL.conv rfl rfl (ConvV.bu wc_ti5 wc_ti65 (by omega)) rfl ?_
          refine RL.move rfl rfl rfl ?_
          refine RL.bin rfl rfl rfl (BinV.mul ((7 * x.i : Nat) : Int) (by omega) (by omega) (by omega)) rfl ?_
          refine RL.bin rfl rfl rfl (BinV.shlU (s := 7 * x.i) (by omega)) rfl ?_
          refine RL.bin rfl rfl rfl (BinV.orU (Nat.lt_of_lt_of_le hin.2 (Nat.pow_le_pow_right (by omega) (show 7 * x.i ≤ 64 by omega))) (Nat.mod_lt _ (by omega))) rfl ?_
          refine RL.assign rfl rfl rfl ?_
          refine RL.nil ?_
          refine NX.seq ?_
          refine TR.seq ?_
          refine TR.region ?_
          refine RL.move rfl rfl rfl ?_
          refine RL.bin rfl rfl rfl BinV.lss rfl ?_
          refine RL.move rfl rfl rfl ?_
          refine RL.part (fun h24 => ?_) (fun h24 => ?_)
          · skip
            have h92 := h24
            refine RL.move rfl rfl rfl ?_
            refine RL.nilCheck rfl rfl rfl ?_
            refine RL.fieldAddr rfl wc_tf105_1 rfl rfl ?_
            refine RL.load1 0 rfl wc_ts39 rfl rfl rfl rfl ?_
            refine RL.bin rfl rfl rfl BinV.eql rfl ?_
            refine RL.pickT rfl rfl rfl rfl ?_
            refine RL.nil ?_
            refine NX.seq ?_
            refine TR.cond rfl (fun h25 => ?_) (fun h25 => ?_)
            · skip
              exact absurd (of_decide_eq_true h25) (by decide)
            · skip
              refine TR.skip ?_
              refine NX.off ?_
              refine NX.seq ?_
              refine TR.region ?_
              refine RL.move rfl rfl rfl ?_
              refine RL.bin rfl rfl rfl (BinV.add _ rfl (by omega) (by omega)) rfl ?_
              refine RL.assign rfl rfl rfl ?_
              refine RL.nil ?_
              have hb : badU x.i cc := by unfold badU; omega
              refine NX.roundP ⟨x.i + 1, (x.n ||| (cc.toNat % 128 * 2 ^ (7 * x.i) % 18446744073709551616)), l2, y.1.oa, y.1.c, 2⟩ ⟨y.2, ?_, fun h => absurd (show (2 : Int) = 0 from h) (by decide)⟩ (by simp) ⟨rfl, rfl, rfl, trivial⟩ (fun w hw => hw.facts (fun φ h => by
                rcases List.mem_cons.1 h with e | h
                · subst e; exact .head _
                · exact .tail _ (.tail _ h)))
              · show rdU l e = if (2 : Int) = 0 then _ else (0, l2, 2)
                rw [if_neg (by decide), hru, decU_bad hb]
          · skip
            have h92 := h24
            refine RL.skip rfl rfl rfl ?_
            refine RL.skip rfl rfl rfl ?_
            refine RL.skip rfl rfl rfl ?_
            refine RL.skip rfl rfl rfl ?_
            refine RL.skip rfl rfl rfl ?_
            refine RL.pickF rfl rfl rfl rfl ?_
            refine RL.nil ?_
            refine NX.seq ?_
            refine TR.condF rfl ?_
            refine TR.skip ?_
            refine NX.off ?_
            refine NX.seq ?_
            refine TR.region ?_
            refine RL.move rfl rfl rfl ?_
            refine RL.bin rfl rfl rfl (BinV.add _ rfl (by omega) (by omega)) rfl ?_
            refine RL.assign rfl rfl rfl ?_
            refine RL.nil ?_
            have hb : badU x.i cc := by unfold badU; omega
            refine NX.roundP ⟨x.i + 1, (x.n ||| (cc.toNat % 128 * 2 ^ (7 * x.i) % 18446744073709551616)), l2, y.1.oa, y.1.c, 2⟩ ⟨y.2, ?_, fun h => absurd (show (2 : Int) = 0 from h) (by decide)⟩ (by simp) ⟨rfl, rfl, rfl, trivial⟩ (fun w hw => hw.facts (fun φ h => by
              rcases List.mem_cons.1 h with e | h
              · subst e; exact .head _
              · exact .tail _ (.tail _ h)))
            · show rdU l e = if (2 : Int) = 0 then _ else (0, l2, 2)
              rw [if_neg (by decide), hru, decU_bad hb]
        · skip
          have h66 := of_decide_eq_false h23
          refine RL.move rfl rfl rfl ?_
          refine RL.bin rfl rfl rfl BinV.gtr rfl ?_
          refine RL.move rfl rfl rfl ?_
          refine RL.part (fun h26 => ?_) (fun h26 => ?_)
          · skip
            have h69 := of_decide_eq_true h26
            refine RL.move rfl rfl rfl ?_
            refine RL.bin rfl rfl rfl BinV.eql rfl ?_
            refine RL.pickT rfl rfl rfl rfl ?_
            refine RL.pickF rfl rfl rfl rfl ?_
            refine RL.nil ?_
            refine NX.seq ?_
            refine TR.cond rfl (fun h27 => ?_) (fun h27 => ?_)
            · skip
              have h28 := of_decide_eq_true h27
              refine TR.region ?_
              refine RL.move rfl rfl rfl ?_
              refine RL.call rfl rfl Try.call68 rfl (fail_spec) (fun _ => ?_)
              refine RL.nil ?_
              refine NX.seq ?_
              refine TR.seq ?_
              refine TR.region ?_
              refine RL.move rfl rfl rfl ?_
              refine RL.move rfl rfl rfl ?_
              refine RL.bin rfl rfl rfl (BinV.clear7 (a := cc.toNat) (by have := cc.toNat_lt; omega)) rfl ?_
              refine RL.conv rfl rfl (ConvV.bu wc_ti5 wc_ti65 (by omega)) rfl ?_
              refine RL.move rfl rfl rfl ?_
              refine RL.bin rfl rfl rfl (BinV.mul ((7 * x.i : Nat) : Int) (by omega) (by omega) (by omega)) rfl ?_
              refine RL.bin rfl rfl rfl (BinV.shlU (s := 7 * x.i) (by omega)) rfl ?_
              refine RL.bin rfl rfl rfl (BinV.orU (Nat.lt_of_lt_of_le hin.2 (Nat.pow_le_pow_right (by omega) (show 7 * x.i ≤ 64 by omega))) (Nat.mod_lt _ (by omega))) rfl ?_
              refine RL.assign rfl rfl rfl ?_
              refine RL.nil ?_
              refine NX.seq ?_
              refine TR.seq ?_
              refine TR.region ?_
              refine RL.move rfl rfl rfl ?_
              refine RL.bin rfl rfl rfl BinV.lss rfl ?_
              refine RL.move rfl rfl rfl ?_
              refine RL.part (fun h28 => ?_) (fun h28 => ?_)
              · skip
                have h92 := h28
                refine RL.move rfl rfl rfl ?_
                refine RL.nilCheck rfl rfl rfl ?_
                refine RL.fieldAddr rfl wc_tf105_1 rfl rfl ?_
                refine RL.load1 0 rfl wc_ts39 rfl rfl rfl rfl ?_
                refine RL.bin rfl rfl rfl BinV.eql rfl ?_
                refine RL.pickT rfl rfl rfl rfl ?_
                refine RL.nil ?_
                refine NX.seq ?_
                refine TR.cond rfl (fun h29 => ?_) (fun h29 => ?_)
                · skip
                  exact absurd (of_decide_eq_true h29) (by decide)
                · skip
                  refine TR.skip ?_
                  refine NX.off ?_
                  refine NX.seq ?_
                  refine TR.region ?_
                  refine RL.move rfl rfl rfl ?_
                  refine RL.bin rfl rfl rfl (BinV.add _ rfl (by omega) (by omega)) rfl ?_
                  refine RL.assign rfl rfl rfl ?_
                  refine RL.nil ?_
                  have hb : badU x.i cc := by unfold badU; omega
                  refine NX.roundP ⟨x.i + 1, (x.n ||| (cc.toNat % 128 * 2 ^ (7 * x.i) % 18446744073709551616)), l2, y.1.oa, y.1.c, 2⟩ ⟨y.2, ?_, fun h => absurd (show (2 : Int) = 0 from h) (by decide)⟩ (by simp) ⟨rfl, rfl, rfl, trivial⟩ (fun w hw => hw.facts (fun φ h => by
                    rcases List.mem_cons.1 h with e | h
                    · subst e; exact .head _
                    · exact .tail _ (.tail _ h)))
                  · show rdU l e = if (2 : Int) = 0 then _ else (0, l2, 2)
                    rw [if_neg (by decide), hru, decU_bad hb]
              · skip
                have h92 := h28
                refine RL.skip rfl rfl rfl ?_
                refine RL.skip rfl rfl rfl ?_
                refine RL.skip rfl rfl rfl ?_
                refine RL.skip rfl rfl rfl ?_
                refine RL.skip rfl rfl rfl ?_
                refine RL.pickF rfl rfl rfl rfl ?_
                refine RL.nil ?_
                refine NX.seq ?_
                refine TR.condF rfl ?_
                refine TR.skip ?_
                refine NX.off ?_
                refine NX.seq ?_
                refine TR.region ?_
                refine RL.move rfl rfl rfl ?_
                refine RL.bin rfl rfl rfl (BinV.add _ rfl (by omega) (by omega)) rfl ?_
                refine RL.assign rfl rfl rfl ?_
                refine RL.nil ?_
                have hb : badU x.i cc := by unfold badU; omega
                refine NX.roundP ⟨x.i + 1, (x.n ||| (cc.toNat % 128 * 2 ^ (7 * x.i) % 18446744073709551616)), l2, y.1.oa, y.1.c, 2⟩ ⟨y.2, ?_, fun h => absurd (show (2 : Int) = 0 from h) (by decide)⟩ (by simp) ⟨rfl, rfl, rfl, trivial⟩ (fun w hw => hw.facts (fun φ h => by
                  rcases List.mem_cons.1 h with e | h
                  · subst e; exact .head _
                  · exact .tail _ (.tail _ h)))
                · show rdU l e = if (2 : Int) = 0 then _ else (0, l2, 2)
                  rw [if_neg (by decide), hru, decU_bad hb]
            · skip
              have h28 := of_decide_eq_false h27
              refine TR.skip ?_
              refine NX.seq ?_
              refine TR.seq ?_
              refine TR.region ?_
              refine RL.move rfl rfl rfl ?_
              refine RL.move rfl rfl rfl ?_
              refine RL.bin rfl rfl rfl (BinV.clear7 (a := cc.toNat) (by have := cc.toNat_lt; omega)) rfl ?_
              refine RL.conv rfl rfl (ConvV.bu wc_ti5 wc_ti65 (by omega)) rfl ?_
              refine RL.move rfl rfl rfl ?_
              refine RL.bin rfl rfl rfl (BinV.mul ((7 * x.i : Nat) : Int) (by omega) (by omega) (by omega)) rfl ?_
              refine RL.bin rfl rfl rfl (BinV.shlU (s := 7 * x.i) (by omega)) rfl ?_
              refine RL.bin rfl rfl rfl (BinV.orU (Nat.lt_of_lt_of_le hin.2 (Nat.pow_le_pow_right (by omega) (show 7 * x.i ≤ 64 by omega))) (Nat.mod_lt _ (by omega))) rfl ?_
              refine RL.assign rfl rfl rfl ?_
              refine RL.nil ?_
              refine NX.seq ?_
              refine TR.seq ?_
              refine TR.region ?_
              refine RL.move rfl rfl rfl ?_
              refine RL.bin rfl rfl rfl BinV.lss rfl ?_
              refine RL.move rfl rfl rfl ?_
              refine RL.part (fun h30 => ?_) (fun h30 => ?_)
              · skip
                have h92 := h30
                refine RL.move rfl rfl rfl ?_
                refine RL.nilCheck rfl rfl rfl ?_
                refine RL.fieldAddr rfl wc_tf105_1 rfl rfl ?_
                refine RL.load1 0 rfl wc_ts39 rfl rfl rfl rfl ?_
                refine RL.bin rfl rfl rfl BinV.eql rfl ?_
                refine RL.pickT rfl rfl rfl rfl ?_
                refine RL.nil ?_
                refine NX.seq ?_
                refine TR.cond rfl (fun h31 => ?_) (fun h31 => ?_)
                · skip
                  refine TR.seq ?_
                  refine TR.region ?_
                  refine RL.move rfl rfl rfl ?_
                  refine RL.assign rfl rfl rfl ?_
                  refine RL.nil ?_
                  refine NX.seq ?_
                  refine TR.ret ?_
                  refine NX.retBlock ?_
                  refine NX.retThen ?_
                  refine NX.retThen ?_
                  refine NX.retBlock ?_
                  refine NX.retThen ?_
                  have hb : ¬ badU x.i cc := by unfold badU; omega
                  have hc128 : cc.toNat < 128 := by have := of_decide_eq_true h92; omega
                  have hfit := byte_fits hb hin.1 hin.2
                  have hor : (x.n ||| (cc.toNat % 128 * 2 ^ (7 * x.i) % 18446744073709551616)) = x.n + cc.toNat % 128 * 2 ^ (7 * x.i) := or_add hin.2 (by omega)
                  have hrr : rdU l e = (x.n + cc.toNat % 128 * 2 ^ (7 * x.i), l2, 0) := by rw [hru, decU_last hb hc128]
                  rw [hor]
                  refine NX.ret1x rfl rfl (fun w hw => ?_)
                  refine ⟨⟨⟨y.1.oa, y.1.c⟩, by rw [hrr]; exact y.2⟩, by rw [hrr] <;> rfl, ?_⟩
                  show St w (Box b 105 [.slice y.1.oa (rdU l e).2.1.length y.1.c, I (rdU l e).2.2] :: M) (ArrF y.1.oa (bytesV (rdU l e).2.1) :: F)
                  rw [hrr]
                  exact hw.facts (fun φ h => by
                    rcases List.mem_cons.1 h with e | h
                    · subst e; exact .head _
                    · exact .tail _ (.tail _ h))
                · skip
                  exact absurd rfl (of_decide_eq_false h31)
              · skip
                have h92 := h30
                refine RL.skip rfl rfl rfl ?_
                refine RL.skip rfl rfl rfl ?_
                refine RL.skip rfl rfl rfl ?_
                refine RL.skip rfl rfl rfl ?_
                refine RL.skip rfl rfl rfl ?_
                refine RL.pickF rfl rfl rfl rfl ?_
                refine RL.nil ?_
                refine NX.seq ?_
                refine TR.condF rfl ?_
                refine TR.skip ?_
                refine NX.off ?_
                refine NX.seq ?_
                refine TR.region ?_
                refine RL.move rfl rfl rfl ?_
                refine RL.bin rfl rfl rfl (BinV.add _ rfl (by omega) (by omega)) rfl ?_
                refine RL.assign rfl rfl rfl ?_
                refine RL.nil ?_
                have hb : ¬ badU x.i cc := by unfold badU; omega
                have hc128 : ¬ cc.toNat < 128 := by have := of_decide_eq_false h92; omega
                have hi8 : x.i ≤ 8 := by unfold badU at hb; omega
                have hfit := byte_fits hb hin.1 hin.2
                have hor : (x.n ||| (cc.toNat % 128 * 2 ^ (7 * x.i) % 18446744073709551616)) = x.n + cc.toNat % 128 * 2 ^ (7 * x.i) := or_add hin.2 (by omega)
                refine NX.roundP ⟨x.i + 1, x.n + cc.toNat % 128 * 2 ^ (7 * x.i), l2, y.1.oa, y.1.c, 0⟩ ⟨y.2, ?_, fun _ => ⟨by show x.i + 1 ≤ 9; omega, hfit.2 hi8⟩⟩ (by simp) ⟨rfl, congrArg (fun z => some (U z)) hor, rfl, trivial⟩ (fun w hw => hw.facts (fun φ h => by
                  rcases List.mem_cons.1 h with e | h
                  · subst e; exact .head _
                  · exact .tail _ (.tail _ h)))
                · show rdU l e = if (0 : Int) = 0 then decU (x.i + 1) (x.n + cc.toNat % 128 * 2 ^ (7 * x.i)) l2 else _
                  rw [if_pos rfl, hru, decU_more hb hc128]
          · skip
            have h69 := of_decide_eq_false h26
            refine RL.skip rfl rfl rfl ?_
            refine RL.skip rfl rfl rfl ?_
            refine RL.pickF rfl rfl rfl rfl ?_
            refine RL.pickF rfl rfl rfl rfl ?_
            refine RL.nil ?_
            refine NX.seq ?_
            refine TR.condF rfl ?_
            refine TR.skip ?_
            refine NX.seq ?_
            refine TR.seq ?_
            refine TR.region ?_
            refine RL.move rfl rfl rfl ?_
            refine RL.move rfl rfl rfl ?_
            refine RL.bin rfl rfl rfl (BinV.clear7 (a := cc.toNat) (by have := cc.toNat_lt; omega)) rfl ?_
            refine RL.conv rfl rfl (ConvV.bu wc_ti5 wc_ti65 (by omega)) rfl ?_
            refine RL.move rfl rfl rfl ?_
            refine RL.bin rfl rfl rfl (BinV.mul ((7 * x.i : Nat) : Int) (by omega) (by omega) (by omega)) rfl ?_
            refine RL.bin rfl rfl rfl (BinV.shlU (s := 7 * x.i) (by omega)) rfl ?_
            refine RL.bin rfl rfl rfl (BinV.orU (Nat.lt_of_lt_of_le hin.2 (Nat.pow_le_pow_right (by omega) (show 7 * x.i ≤ 64 by omega))) (Nat.mod_lt _ (by omega))) rfl ?_
            refine RL.assign rfl rfl rfl ?_
            refine RL.nil ?_
            refine NX.seq ?_
            refine TR.seq ?_
            refine TR.region ?_
            refine RL.move rfl rfl rfl ?_
            refine RL.bin rfl rfl rfl BinV.lss rfl ?_
            refine RL.move rfl rfl rfl ?_
            refine RL.part (fun h32 => ?_) (fun h32 => ?_)
            · skip
              have h92 := h32
              refine RL.move rfl rfl rfl ?_
              refine RL.nilCheck rfl rfl rfl ?_
              refine RL.fieldAddr rfl wc_tf105_1 rfl rfl ?_
              refine RL.load1 0 rfl wc_ts39 rfl rfl rfl rfl ?_
              refine RL.bin rfl rfl rfl BinV.eql rfl ?_
              refine RL.pickT rfl rfl rfl rfl ?_
              refine RL.nil ?_
              refine NX.seq ?_
              refine TR.cond rfl (fun h33 => ?_) (fun h33 => ?_)
              · skip
                refine TR.seq ?_
                refine TR.region ?_
                refine RL.move rfl rfl rfl ?_
                refine RL.assign rfl rfl rfl ?_
                refine RL.nil ?_
                refine NX.seq ?_
                refine TR.ret ?_
                refine NX.retBlock ?_
                refine NX.retThen ?_
                refine NX.retThen ?_
                refine NX.retBlock ?_
                refine NX.retThen ?_
                have hb : ¬ badU x.i cc := by unfold badU; omega
                have hc128 : cc.toNat < 128 := by have := of_decide_eq_true h92; omega
                have hfit := byte_fits hb hin.1 hin.2
                have hor : (x.n ||| (cc.toNat % 128 * 2 ^ (7 * x.i) % 18446744073709551616)) = x.n + cc.toNat % 128 * 2 ^ (7 * x.i) := or_add hin.2 (by omega)
                have hrr : rdU l e = (x.n + cc.toNat % 128 * 2 ^ (7 * x.i), l2, 0) := by rw [hru, decU_last hb hc128]
                rw [hor]
                refine NX.ret1x rfl rfl (fun w hw => ?_)
                refine ⟨⟨⟨y.1.oa, y.1.c⟩, by rw [hrr]; exact y.2⟩, by rw [hrr] <;> rfl, ?_⟩
                show St w (Box b 105 [.slice y.1.oa (rdU l e).2.1.length y.1.c, I (rdU l e).2.2] :: M) (ArrF y.1.oa (bytesV (rdU l e).2.1) :: F)
                rw [hrr]
                exact hw.facts (fun φ h => by
                  rcases List.mem_cons.1 h with e | h
                  · subst e; exact .head _
                  · exact .tail _ (.tail _ h))
              · skip
                exact absurd rfl (of_decide_eq_false h33)
            · skip
              have h92 := h32
              refine RL.skip rfl rfl rfl ?_
              refine RL.skip rfl rfl rfl ?_
              refine RL.skip rfl rfl rfl ?_
              refine RL.skip rfl rfl rfl ?_
              refine RL.skip rfl rfl rfl ?_
              refine RL.pickF rfl rfl rfl rfl ?_
              refine RL.nil ?_
              refine NX.seq ?_
              refine TR.condF rfl ?_
              refine TR.skip ?_
              refine NX.off ?_
              refine NX.seq ?_
              refine TR.region ?_
              refine RL.move rfl rfl rfl ?_
              refine RL.bin rfl rfl rfl (BinV.add _ rfl (by omega) (by omega)) rfl ?_
              refine RL.assign rfl rfl rfl ?_
              refine RL.nil ?_
              have hb : ¬ badU x.i cc := by unfold badU; omega
              have hc128 : ¬ cc.toNat < 128 := by have := of_decide_eq_false h92; omega
              have hi8 : x.i ≤ 8 := by unfold badU at hb; omega
              have hfit := byte_fits hb hin.1 hin.2
              have hor : (x.n ||| (cc.toNat % 128 * 2 ^ (7 * x.i) % 18446744073709551616)) = x.n + cc.toNat % 128 * 2 ^ (7 * x.i) := or_add hin.2 (by omega)
              refine NX.roundP ⟨x.i + 1, x.n + cc.toNat % 128 * 2 ^ (7 * x.i), l2, y.1.oa, y.1.c, 0⟩ ⟨y.2, ?_, fun _ => ⟨by show x.i + 1 ≤ 9; omega, hfit.2 hi8⟩⟩ (by simp) ⟨rfl, congrArg (fun z => some (U z)) hor, rfl, trivial⟩ (fun w hw => hw.facts (fun φ h => by
                rcases List.mem_cons.1 h with e | h
                · subst e; exact .head _
                · exact .tail _ (.tail _ h)))
              · show rdU l e = if (0 : Int) = 0 then decU (x.i + 1) (x.n + cc.toNat % 128 * 2 ^ (7 * x.i)) l2 else _
                rw [if_pos rfl, hru, decU_more hb hc128]
      · skip
        have h62 : ¬ (x.i : Int) = 9 := of_decide_eq_false h22
        refine RL.skip rfl rfl rfl ?_
        refine RL.skip rfl rfl rfl ?_
        refine RL.pickF rfl rfl rfl rfl ?_
        refine RL.move rfl rfl rfl ?_
        refine RL.move rfl rfl rfl ?_
        refine RL.bin rfl rfl rfl BinV.gtr rfl ?_
        refine RL.move rfl rfl rfl ?_
        refine RL.part (fun h34 => ?_) (fun h34 => ?_)
        · skip
          have h69 := of_decide_eq_true h34
          refine RL.move rfl rfl rfl ?_
          refine RL.bin rfl rfl rfl BinV.eql rfl ?_
          refine RL.pickT rfl rfl rfl rfl ?_
          refine RL.pickF rfl rfl rfl rfl ?_
          refine RL.nil ?_
          refine NX.seq ?_
          refine TR.cond rfl (fun h35 => ?_) (fun h35 => ?_)
          · skip
            have h28 := of_decide_eq_true h35
            refine TR.region ?_
            refine RL.move rfl rfl rfl ?_
            refine RL.call rfl rfl Try.call68 rfl (fail_spec) (fun _ => ?_)
            refine RL.nil ?_
            refine NX.seq ?_
            refine TR.seq ?_
            refine TR.region ?_
            refine RL.move rfl rfl rfl ?_
            refine RL.move rfl rfl rfl ?_
            refine RL.bin rfl rfl rfl (BinV.clear7 (a := cc.toNat) (by have := cc.toNat_lt; omega)) rfl ?_
            refine RL.conv rfl rfl (ConvV.bu wc_ti5 wc_ti65 (by omega)) rfl ?_
            refine RL.move rfl rfl rfl ?_
            refine RL.bin rfl rfl rfl (BinV.mul ((7 * x.i : Nat) : Int) (by omega) (by omega) (by omega)) rfl ?_
            refine RL.bin rfl rfl rfl (BinV.shlU (s := 7 * x.i) (by omega)) rfl ?_
            refine RL.bin rfl rfl rfl (BinV.orU (Nat.lt_of_lt_of_le hin.2 (Nat.pow_le_pow_right (by omega) (show 7 * x.i ≤ 64 by omega))) (Nat.mod_lt _ (by omega))) rfl ?_
            refine RL.assign rfl rfl rfl ?_
            refine RL.nil ?_
            refine NX.seq ?_
            refine TR.seq ?_
            refine TR.region ?_
            refine RL.move rfl rfl rfl ?_
            refine RL.bin rfl rfl rfl BinV.lss rfl ?_
            refine RL.move rfl rfl rfl ?_
            refine RL.part (fun h36 => ?_) (fun h36 => ?_)
            · skip
              have h92 := h36
              refine RL.move rfl rfl rfl ?_
              refine RL.nilCheck rfl rfl rfl ?_
              refine RL.fieldAddr rfl wc_tf105_1 rfl rfl ?_
              refine RL.load1 0 rfl wc_ts39 rfl rfl rfl rfl ?_
              refine RL.bin rfl rfl rfl BinV.eql rfl ?_
              refine RL.pickT rfl rfl rfl rfl ?_
              refine RL.nil ?_
              refine NX.seq ?_
              refine TR.cond rfl (fun h37 => ?_) (fun h37 => ?_)
              · skip
                exact absurd (of_decide_eq_true h37) (by decide)
              · skip
                refine TR.skip ?_
                refine NX.off ?_
                refine NX.seq ?_
                refine TR.region ?_
                refine RL.move rfl rfl rfl ?_
                refine RL.bin rfl rfl rfl (BinV.add _ rfl (by omega) (by omega)) rfl ?_
                refine RL.assign rfl rfl rfl ?_
                refine RL.nil ?_
                have hb : badU x.i cc := by unfold badU; omega
                refine NX.roundP ⟨x.i + 1, (x.n ||| (cc.toNat % 128 * 2 ^ (7 * x.i) % 18446744073709551616)), l2, y.1.oa, y.1.c, 2⟩ ⟨y.2, ?_, fun h => absurd (show (2 : Int) = 0 from h) (by decide)⟩ (by simp) ⟨rfl, rfl, rfl, trivial⟩ (fun w hw => hw.facts (fun φ h => by
                  rcases List.mem_cons.1 h with e | h
                  · subst e; exact .head _
                  · exact .tail _ (.tail _ h)))
                · show rdU l e = if (2 : Int) = 0 then _ else (0, l2, 2)
                  rw [if_neg (by decide), hru, decU_bad hb]
            · skip
              have h92 := h36
              refine RL.skip rfl rfl rfl ?_
              refine RL.skip rfl rfl rfl ?_
              refine RL.skip rfl rfl rfl ?_
              refine RL.skip rfl rfl rfl ?_
              refine RL.skip rfl rfl rfl ?_
              refine RL.pickF rfl rfl rfl rfl ?_
              refine RL.nil ?_
              refine NX.seq ?_
              refine TR.condF rfl ?_
              refine TR.skip ?_
              refine NX.off ?_
              refine NX.seq ?_
              refine TR.region ?_
              refine RL.move rfl rfl rfl ?_
              refine RL.bin rfl rfl rfl (BinV.add _ rfl (by omega) (by omega)) rfl ?_
              refine RL.assign rfl rfl rfl ?_
              refine RL.nil ?_
              have hb : badU x.i cc := by unfold badU; omega
              refine NX.roundP ⟨x.i + 1, (x.n ||| (cc.toNat % 128 * 2 ^ (7 * x.i) % 18446744073709551616)), l2, y.1.oa, y.1.c, 2⟩ ⟨y.2, ?_, fun h => absurd (show (2 : Int) = 0 from h) (by decide)⟩ (by simp) ⟨rfl, rfl, rfl, trivial⟩ (fun w hw => hw.facts (fun φ h => by
                rcases List.mem_cons.1 h with e | h
                · subst e; exact .head _
                · exact .tail _ (.tail _ h)))
              · show rdU l e = if (2 : Int) = 0 then _ else (0, l2, 2)
                rw [if_neg (by decide), hru, decU_bad hb]
          · skip
            have h28 := of_decide_eq_false h35
            refine TR.skip ?_
            refine NX.seq ?_
            refine TR.seq ?_
            refine TR.region ?_
            refine RL.move rfl rfl rfl ?_
            refine RL.move rfl rfl rfl ?_
            refine RL.bin rfl rfl rfl (BinV.clear7 (a := cc.toNat) (by have := cc.toNat_lt; omega)) rfl ?_
            refine RL.conv rfl rfl (ConvV.bu wc_ti5 wc_ti65 (by omega)) rfl ?_
            refine RL.move rfl rfl rfl ?_
            refine RL.bin rfl rfl rfl (BinV.mul ((7 * x.i : Nat) : Int) (by omega) (by omega) (by omega)) rfl ?_
            refine RL.bin rfl rfl rfl (BinV.shlU (s := 7 * x.i) (by omega)) rfl ?_
            refine RL.bin rfl rfl rfl (BinV.orU (Nat.lt_of_lt_of_le hin.2 (Nat.pow_le_pow_right (by omega) (show 7 * x.i ≤ 64 by omega))) (Nat.mod_lt _ (by omega))) rfl ?_
            refine RL.assign rfl rfl rfl ?_
            refine RL.nil ?_
            refine NX.seq ?_
            refine TR.seq ?_
            refine TR.region ?_
            refine RL.move rfl rfl rfl ?_
            refine RL.bin rfl rfl rfl BinV.lss rfl ?_
            refine RL.move rfl rfl rfl ?_
            refine RL.part (fun h38 => ?_) (fun h38 => ?_)
            · skip
              have h92 := h38
              refine RL.move rfl rfl rfl ?_
              refine RL.nilCheck rfl rfl rfl ?_
              refine RL.fieldAddr rfl wc_tf105_1 rfl rfl ?_
              refine RL.load1 0 rfl wc_ts39 rfl rfl rfl rfl ?_
              refine RL.bin rfl rfl rfl BinV.eql rfl ?_
              refine RL.pickT rfl rfl rfl rfl ?_
              refine RL.nil ?_
              refine NX.seq ?_
              refine TR.cond rfl (fun h39 => ?_) (fun h39 => ?_)
              · skip
                refine TR.seq ?_
                refine TR.region ?_
                refine RL.move rfl rfl rfl ?_
                refine RL.assign rfl rfl rfl ?_
                refine RL.nil ?_
                refine NX.seq ?_
                refine TR.ret ?_
                refine NX.retBlock ?_
                refine NX.retThen ?_
                refine NX.retThen ?_
                refine NX.retBlock ?_
                refine NX.retThen ?_
                have hb : ¬ badU x.i cc := by unfold badU; omega
                have hc128 : cc.toNat < 128 := by have := of_decide_eq_true h92; omega
                have hfit := byte_fits hb hin.1 hin.2
                have hor : (x.n ||| (cc.toNat % 128 * 2 ^ (7 * x.i) % 18446744073709551616)) = x.n + cc.toNat % 128 * 2 ^ (7 * x.i) := or_add hin.2 (by omega)
                have hrr : rdU l e = (x.n + cc.toNat % 128 * 2 ^ (7 * x.i), l2, 0) := by rw [hru, decU_last hb hc128]
                rw [hor]
                refine NX.ret1x rfl rfl (fun w hw => ?_)
                refine ⟨⟨⟨y.1.oa, y.1.c⟩, by rw [hrr]; exact y.2⟩, by rw [hrr] <;> rfl, ?_⟩
                show St w (Box b 105 [.slice y.1.oa (rdU l e).2.1.length y.1.c, I (rdU l e).2.2] :: M) (ArrF y.1.oa (bytesV (rdU l e).2.1) :: F)
                rw [hrr]
                exact hw.facts (fun φ h => by
                  rcases List.mem_cons.1 h with e | h
                  · subst e; exact .head _
                  · exact .tail _ (.tail _ h))
              · skip
                exact absurd rfl (of_decide_eq_false h39)
            · skip
              have h92 := h38
              refine RL.skip rfl rfl rfl ?_
              refine RL.skip rfl rfl rfl ?_
              refine RL.skip rfl rfl rfl ?_
              refine RL.skip rfl rfl rfl ?_
              refine RL.skip rfl rfl rfl ?_
              refine RL.pickF rfl rfl rfl rfl ?_
              refine RL.nil ?_
              refine NX.seq ?_
              refine TR.condF rfl ?_
              refine TR.skip ?_
              refine NX.off ?_
              refine NX.seq ?_
              refine TR.region ?_
              refine RL.move rfl rfl rfl ?_
              refine RL.bin rfl rfl rfl (BinV.add _ rfl (by omega) (by omega)) rfl ?_
              refine RL.assign rfl rfl rfl ?_
              refine RL.nil ?_
              have hb : ¬ badU x.i cc := by unfold badU; omega
              have hc128 : ¬ cc.toNat < 128 := by have := of_decide_eq_false h92; omega
              have hi8 : x.i ≤ 8 := by unfold badU at hb; omega
              have hfit := byte_fits hb hin.1 hin.2
              have hor : (x.n ||| (cc.toNat % 128 * 2 ^ (7 * x.i) % 18446744073709551616)) = x.n + cc.toNat % 128 * 2 ^ (7 * x.i) := or_add hin.2 (by omega)
              refine NX.roundP ⟨x.i + 1, x.n + cc.toNat % 128 * 2 ^ (7 * x.i), l2, y.1.oa, y.1.c, 0⟩ ⟨y.2, ?_, fun _ => ⟨by show x.i + 1 ≤ 9; omega, hfit.2 hi8⟩⟩ (by simp) ⟨rfl, congrArg (fun z => some (U z)) hor, rfl, trivial⟩ (fun w hw => hw.facts (fun φ h => by
                rcases List.mem_cons.1 h with e | h
                · subst e; exact .head _
                · exact .tail _ (.tail _ h)))
              · show rdU l e = if (0 : Int) = 0 then decU (x.i + 1) (x.n + cc.toNat % 128 * 2 ^ (7 * x.i)) l2 else _
                rw [if_pos rfl, hru, decU_more hb hc128]
        · skip
          have h69 := of_decide_eq_false h34
          refine RL.skip rfl rfl rfl ?_
          refine RL.skip rfl rfl rfl ?_
          refine RL.pickF rfl rfl rfl rfl ?_
          refine RL.pickF rfl rfl rfl rfl ?_
          refine RL.nil ?_
          refine NX.seq ?_
          refine TR.condF rfl ?_
          refine TR.skip ?_
          refine NX.seq ?_
          refine TR.seq ?_
          refine TR.region ?_
          refine RL.move rfl rfl rfl ?_
          refine RL.move rfl rfl rfl ?_
          refine RL.bin rfl rfl rfl (BinV.clear7 (a := cc.toNat) (by have := cc.toNat_lt; omega)) rfl ?_
          refine RL.conv rfl rfl (ConvV.bu wc_ti5 wc_ti65 (by omega)) rfl ?_
          refine RL.move rfl rfl rfl ?_
          refine RL.bin rfl rfl rfl (BinV.mul ((7 * x.i : Nat) : Int) (by omega) (by omega) (by omega)) rfl ?_
          refine RL.bin rfl rfl rfl (BinV.shlU (s := 7 * x.i) (by omega)) rfl ?_
          refine RL.bin rfl rfl rfl (BinV.orU (Nat.lt_of_lt_of_le hin.2 (Nat.pow_le_pow_right (by omega) (show 7 * x.i ≤ 64 by omega))) (Nat.mod_lt _ (by omega))) rfl ?_
          refine RL.assign rfl rfl rfl ?_
          refine RL.nil ?_
          refine NX.seq ?_
          refine TR.seq ?_
          refine TR.region ?_
          refine RL.move rfl rfl rfl ?_
          refine RL.bin rfl rfl rfl BinV.lss rfl ?_
          refine RL.move rfl rfl rfl ?_
          refine RL.part (fun h40 => ?_) (fun h40 => ?_)
          · skip
            have h92 := h40
            refine RL.move rfl rfl rfl ?_
            refine RL.nilCheck rfl rfl rfl ?_
            refine RL.fieldAddr rfl wc_tf105_1 rfl rfl ?_
            refine RL.load1 0 rfl wc_ts39 rfl rfl rfl rfl ?_
            refine RL.bin rfl rfl rfl BinV.eql rfl ?_
            refine RL.pickT rfl rfl rfl rfl ?_
            refine RL.nil ?_
            refine NX.seq ?_
            refine TR.cond rfl (fun h41 => ?_) (fun h41 => ?_)
            · skip
              refine TR.seq ?_
              refine TR.region ?_
              refine RL.move rfl rfl rfl ?_
              refine RL.assign rfl rfl rfl ?_
              refine RL.nil ?_
              refine NX.seq ?_
              refine TR.ret ?_
              refine NX.retBlock ?_
              refine NX.retThen ?_
              refine NX.retThen ?_
              refine NX.retBlock ?_
              refine NX.retThen ?_
              have hb : ¬ badU x.i cc := by unfold badU; omega
              have hc128 : cc.toNat < 128 := by have := of_decide_eq_true h92; omega
              have hfit := byte_fits hb hin.1 hin.2
              have hor : (x.n ||| (cc.toNat % 128 * 2 ^ (7 * x.i) % 18446744073709551616)) = x.n + cc.toNat % 128 * 2 ^ (7 * x.i) := or_add hin.2 (by omega)
              have hrr : rdU l e = (x.n + cc.toNat % 128 * 2 ^ (7 * x.i), l2, 0) := by rw [hru, decU_last hb hc128]
              rw [hor]
              refine NX.ret1x rfl rfl (fun w hw => ?_)
              refine ⟨⟨⟨y.1.oa, y.1.c⟩, by rw [hrr]; exact y.2⟩, by rw [hrr] <;> rfl, ?_⟩
              show St w (Box b 105 [.slice y.1.oa (rdU l e).2.1.length y.1.c, I (rdU l e).2.2] :: M) (ArrF y.1.oa (bytesV (rdU l e).2.1) :: F)
              rw [hrr]
              exact hw.facts (fun φ h => by
                rcases List.mem_cons.1 h with e | h
                · subst e; exact .head _
                · exact .tail _ (.tail _ h))
            · skip
              exact absurd rfl (of_decide_eq_false h41)
          · skip
            have h92 := h40
            refine RL.skip rfl rfl rfl ?_
            refine RL.skip rfl rfl rfl ?_
            refine RL.skip rfl rfl rfl ?_
            refine RL.skip rfl rfl rfl ?_
            refine RL.skip rfl rfl rfl ?_
            refine RL.pickF rfl rfl rfl rfl ?_
            refine RL.nil ?_
            refine NX.seq ?_
            refine TR.condF rfl ?_
            refine TR.skip ?_
            refine NX.off ?_
            refine NX.seq ?_
            refine TR.region ?_
            refine RL.move rfl rfl rfl ?_
            refine RL.bin rfl rfl rfl (BinV.add _ rfl (by omega) (by omega)) rfl ?_
            refine RL.assign rfl rfl rfl ?_
            refine RL.nil ?_
            have hb : ¬ badU x.i cc := by unfold badU; omega
            have hc128 : ¬ cc.toNat < 128 := by have := of_decide_eq_false h92; omega
            have hi8 : x.i ≤ 8 := by unfold badU at hb; omega
            have hfit := byte_fits hb hin.1 hin.2
            have hor : (x.n ||| (cc.toNat % 128 * 2 ^ (7 * x.i) % 18446744073709551616)) = x.n + cc.toNat % 128 * 2 ^ (7 * x.i) := or_add hin.2 (by omega)
            refine NX.roundP ⟨x.i + 1, x.n + cc.toNat % 128 * 2 ^ (7 * x.i), l2, y.1.oa, y.1.c, 0⟩ ⟨y.2, ?_, fun _ => ⟨by show x.i + 1 ≤ 9; omega, hfit.2 hi8⟩⟩ (by simp) ⟨rfl, congrArg (fun z => some (U z)) hor, rfl, trivial⟩ (fun w hw => hw.facts (fun φ h => by
              rcases List.mem_cons.1 h with e | h
              · subst e; exact .head _
              · exact .tail _ (.tail _ h)))
            · show rdU l e = if (0 : Int) = 0 then decU (x.i + 1) (x.n + cc.toNat % 128 * 2 ^ (7 * x.i)) l2 else _
              rw [if_pos rfl, hru, decU_more hb hc128]
  · skip
    have hxe : ¬ x.e = 0 := of_decide_eq_false h1
    have hru := hx.2.1
    rw [if_neg hxe] at hru
    refine TR.exit ?_
    refine NX.exitThen ?_
    refine NX.exitThen ?_
    refine NX.exitHere ?_
    refine NX.seq ?_
    refine TR.seq ?_
    refine TR.region ?_
    refine RL.assign rfl rfl rfl ?_
    refine RL.nil ?_
    refine NX.seq ?_
    refine TR.ret ?_
    have hrr : rdU l e = (0, x.l, x.e) := hru
    refine NX.ret1x rfl rfl (fun w hw => ?_)
    refine ⟨⟨⟨x.oa, x.c⟩, by rw [hrr]; exact hx.1⟩, by rw [hrr] <;> rfl, ?_⟩
    show St w (Box b 105 [.slice x.oa (rdU l e).2.1.length x.c, I (rdU l e).2.2] :: M) (ArrF x.oa (bytesV (rdU l e).2.1) :: F)
    rw [hrr]
    exact hw

theorem unzigzag_spec {z : Nat} {M : List HP} {F : List Fact} (hz : z < 18446744073709551616) : Ctr Try.prog 65 [U z] M F Unit (fun _ => I (uz z)) (fun _ => M) (fun _ => F) := by
  refine Ctr.body Try.func65 rfl rfl ?_
  refine TR.seq ?_
  refine TR.region ?_
  refine RL.assign rfl rfl rfl ?_
  refine RL.nil ?_
  refine NX.seq ?_
  refine TR.seq ?_
  refine TR.region ?_
  refine RL.move rfl rfl rfl ?_
  refine RL.bin rfl rfl rfl (BinV.shrU (s := 1) (by omega)) rfl ?_
  refine RL.conv rfl rfl (ConvV.ui64 wc_ti65 wc_ti3) rfl ?_
  refine RL.move rfl rfl rfl ?_
  refine RL.bin rfl rfl rfl (BinV.andU (b := 1) hz (by omega)) rfl ?_
  refine RL.conv rfl rfl (ConvV.ui64 wc_ti65 wc_ti3) rfl ?_
  have hr1 := i64of_range (z &&& 1)
  have hr2 : i64of (z &&& 1) = ((z % 2 : Nat) : Int) := by rw [nat_mask1]; exact i64of_small (by omega)
  refine RL.neg rfl rfl (by omega) (by omega) rfl ?_
  refine RL.bin rfl rfl rfl (BinV.bitsK (by simp)) rfl ?_
  refine RL.assign rfl rfl rfl ?_
  refine RL.nil ?_
  refine NX.seq ?_
  refine TR.ret ?_
  exact NX.ret1 () rfl rfl (by rw [uz_bits hz]) (fun w hw => hw)

theorem rInt_spec {b : Nat} {l : List UInt8} {oa : Option Addr} {c : Nat} {e : Int} {M : List HP} {F : List Fact} (ha : ArrF oa (bytesV l) ∈ F) (hc : l.length ≤ c) : Ctr Try.prog 33 [.pointer (some ⟨b, 0, none⟩)] (Box b 105 [.slice oa l.length c, I e] :: M) F {z : RdX // (rdU l e).2.1.length ≤ z.c} (fun _ => I (uz (rdU l e).1)) (fun z => Box b 105 [.slice z.1.oa (rdU l e).2.1.length z.1.c, I (rdU l e).2.2] :: M) (fun z => ArrF z.1.oa (bytesV (rdU l e).2.1) :: F) := by
  refine Ctr.body Try.func33 rfl rfl ?_
  refine TR.seq ?_
  refine TR.region ?_
  refine RL.assign rfl rfl rfl ?_
  refine RL.nil ?_
  refine NX.seq ?_
  refine TR.seq ?_
  refine TR.region ?_
  refine RL.move rfl rfl rfl ?_
  refine RL.call rfl rfl Try.call39 rfl (rUint_spec ha hc) (fun y => ?_)
  refine RL.call rfl rfl Try.call65 rfl (unzigzag_spec rdU_lt) (fun _ => ?_)
  refine RL.assign rfl rfl rfl ?_
  refine RL.nil ?_
  refine NX.seq ?_
  refine TR.ret ?_
  exact NX.ret1 y rfl rfl rfl (fun w hw => hw)

theorem rEnd_spec {b n c : Nat} {oa : Option Addr} {e : Int} {M : List HP} {F : List Fact} : Ctr Try.prog 35 [.pointer (some ⟨b, 0, none⟩)] (Box b 105 [.slice oa n c, I e] :: M) F Unit (fun _ => I (if e = 0 ∧ 0 < n then 2 else e)) (fun _ => Box b 105 [.slice oa n c, I e] :: M) (fun _ => F) := by
  refine Ctr.body Try.func35 rfl rfl ?_
  refine TR.seq ?_
  refine TR.region ?_
  refine RL.assign rfl rfl rfl ?_
  refine RL.nil ?_
  refine NX.seq ?_
  refine TR.seq ?_
  refine TR.seq ?_
  refine TR.region ?_
  refine RL.move rfl rfl rfl ?_
  refine RL.nilCheck rfl rfl rfl ?_
  refine RL.fieldAddr rfl wc_tf105_1 rfl rfl ?_
  refine RL.load1 0 rfl wc_ts39 rfl rfl rfl rfl ?_
  refine RL.bin rfl rfl rfl BinV.eql rfl ?_
  refine RL.move rfl rfl rfl ?_
  refine RL.part (fun h1 => ?_) (fun h1 => ?_)
  · skip
    have h5 : e = 0 := of_decide_eq_true h1
    refine RL.move rfl rfl rfl ?_
    refine RL.nilCheck rfl rfl rfl ?_
    refine RL.fieldAddr rfl wc_tf105_0 rfl rfl ?_
    refine RL.load1 0 rfl wc_ts23 rfl rfl rfl rfl ?_
    refine RL.lenSlice rfl wc_tl23 rfl rfl ?_
    refine RL.bin rfl rfl rfl BinV.gtr rfl ?_
    refine RL.pickT rfl rfl rfl rfl ?_
    refine RL.nil ?_
    refine NX.seq ?_
    refine TR.cond rfl (fun h2 => ?_) (fun h2 => ?_)
    · skip
      have h15 := of_decide_eq_true h2
      refine TR.seq ?_
      refine TR.region ?_
      refine RL.assign rfl rfl rfl ?_
      refine RL.nil ?_
      refine NX.seq ?_
      refine TR.ret ?_
      refine NX.retThen ?_
      refine NX.ret1 () rfl rfl ?_ (fun w hw => hw)
      congr 1
      rw [if_pos ⟨h5, by omega⟩]
    · skip
      have h15 := of_decide_eq_false h2
      refine TR.skip ?_
      refine NX.seq ?_
      refine TR.seq ?_
      refine TR.region ?_
      refine RL.move rfl rfl rfl ?_
      refine RL.nilCheck rfl rfl rfl ?_
      refine RL.fieldAddr rfl wc_tf105_1 rfl rfl ?_
      refine RL.load1 0 rfl wc_ts39 rfl rfl rfl rfl ?_
      refine RL.assign rfl rfl rfl ?_
      refine RL.nil ?_
      refine NX.seq ?_
      refine TR.ret ?_
      refine NX.ret1 () rfl rfl ?_ (fun w hw => hw)
      congr 1
      rw [if_neg (by omega)]
  · skip
    have h5 : ¬ e = 0 := of_decide_eq_false h1
    refine RL.skip rfl rfl rfl ?_
    refine RL.skip rfl rfl rfl ?_
    refine RL.skip rfl rfl rfl ?_
    refine RL.skip rfl rfl rfl ?_
    refine RL.skip rfl rfl rfl ?_
    refine RL.skip rfl rfl rfl ?_
    refine RL.pickF rfl rfl rfl rfl ?_
    refine RL.nil ?_
    refine NX.seq ?_
    refine TR.condF rfl ?_
    refine TR.skip ?_
    refine NX.seq ?_
    refine TR.seq ?_
    refine TR.region ?_
    refine RL.move rfl rfl rfl ?_
    refine RL.nilCheck rfl rfl rfl ?_
    refine RL.fieldAddr rfl wc_tf105_1 rfl rfl ?_
    refine RL.load1 0 rfl wc_ts39 rfl rfl rfl rfl ?_
    refine RL.assign rfl rfl rfl ?_
    refine RL.nil ?_
    refine NX.seq ?_
    refine TR.ret ?_
    refine NX.ret1 () rfl rfl ?_ (fun w hw => hw)
    congr 1
    rw [if_neg (by omega)]

structure RlX where
  i : Nat
  oo : Option Addr
  oc : Nat
  oa : Option Addr
  c : Nat
  e : Int
structure RwX where
  ro : Option Addr
  rc : Nat
  oa : Option Addr
  c : Nat

set_option maxHeartbeats 1000000 in
theorem rList_spec {b : Nat} {l : List UInt8} {oa : Option Addr} {c : Nat} {e : Int} {M : List HP} {F : List Fact} (ha : ArrF oa (bytesV l) ∈ F) (hc : l.length ≤ c) (hl : l.length ≤ 70368744177664) : Ctr Try.prog 66 [.pointer (some ⟨b, 0, none⟩), (.func (.func 67) #[.pointer (some ⟨b, 0, none⟩)] #[])] (Box b 105 [.slice oa l.length c, I e] :: M) F {z : RwX // (rdRaw l e).2.1.length ≤ z.c} (fun z => .slice z.1.ro (rdRaw l e).1.length z.1.rc) (fun z => OwnSl 5 1 z.1.ro (rdRaw l e).1.length z.1.rc (bytesV (rdRaw l e).1) :: Box b 105 [.slice z.1.oa (rdRaw l e).2.1.length z.1.c, I (rdRaw l e).2.2] :: M) (fun z => ArrF z.1.oa (bytesV (rdRaw l e).2.1) :: F) := by
  refine Ctr.body Try.func66 rfl rfl ?_
  refine TR.seq ?_
  refine TR.region ?_
  refine RL.assign rfl rfl rfl ?_
  refine RL.nil ?_
  refine NX.seq ?_
  refine TR.seq ?_
  refine TR.region ?_
  refine RL.move rfl rfl rfl ?_
  refine RL.call rfl rfl Try.call39 rfl (rUint_spec ha hc) (fun y => ?_)
  refine RL.assign rfl rfl rfl ?_
  refine RL.nil ?_
  refine NX.seq ?_
  refine TR.seq ?_
  refine TR.seq ?_
  refine TR.region ?_
  have hy := y.2
  obtain ⟨pp, hpp⟩ := rdU_suf (l := l) (e := e)
  have hpl := congrArg List.length hpp
  rw [List.length_append] at hpl
  have hN := rdU_lt (l := l) (e := e)
  refine RL.move rfl rfl rfl ?_
  refine RL.move rfl rfl rfl ?_
  refine RL.nilCheck rfl rfl rfl ?_
  refine RL.fieldAddr rfl wc_tf105_0 rfl rfl ?_
  refine RL.load1 0 rfl wc_ts23 rfl rfl rfl rfl ?_
  refine RL.lenSlice rfl wc_tl23 rfl rfl ?_
  refine RL.conv rfl rfl (ConvV.iu wc_ti3 wc_ti65 (by omega)) rfl ?_
  refine RL.bin rfl rfl rfl BinV.gtr rfl ?_
  refine RL.nil ?_
  refine NX.seq ?_
  refine TR.cond rfl (fun h1 => ?_) (fun h1 => ?_)
  · skip
    have hfar : (rdU l e).2.1.length < (rdU l e).1 := by have := of_decide_eq_true h1; omega
    have he0 : (rdU l e).2.2 = 0 := by
      rcases Int.decEq (rdU l e).2.2 0 with h | h
      · rw [rdU_err h] at hfar; omega
      · exact h
    refine TR.region ?_
    refine RL.move rfl rfl rfl ?_
    refine RL.call rfl rfl Try.call68 rfl (fail_spec) (fun _ => ?_)
    refine RL.nil ?_
    refine NX.seq ?_
    refine TR.seq ?_
    refine TR.region ?_
    refine RL.assign rfl rfl rfl ?_
    refine RL.nil ?_
    refine NX.seq ?_
    refine TR.seq ?_
    refine TR.seq ?_
    refine TR.region ?_
    refine RL.assign rfl rfl rfl ?_
    refine RL.nil ?_
    refine NX.seq ?_
    refine TR.block ?_
    refine TR.loopP (ι := RlX) (fun x => (x.e = 0 ∧ x.i ≤ (rdU l e).1 ∧ (rdU l e).1 ≤ (rdU l e).2.1.length ∧ (rdU l e).2.2 = 0 ∧ ((rdU l e).2.1.drop x.i).length ≤ x.c) ∨ (x.e ≠ 0 ∧ x.i = 0 ∧ rdRaw l e = ([], (rdU l e).2.1, x.e) ∧ (rdU l e).2.1.length ≤ x.c)) (fun x => [(0, .pointer (some ⟨b, 0, none⟩)), (1, (.func (.func 67) #[.pointer (some ⟨b, 0, none⟩)] #[])), (5, U (rdU l e).1), (6, .slice x.oo x.i x.oc), (7, U x.i)]) (fun x => OwnSl 5 1 x.oo x.i x.oc (bytesV ((rdU l e).2.1.take x.i)) :: Box b 105 [.slice x.oa ((rdU l e).2.1.drop x.i).length x.c, I x.e] :: M) (fun x => ArrF x.oa (bytesV ((rdU l e).2.1.drop x.i)) :: F) (fun x => (rdU l e).1 - x.i) ⟨0, none, 0, y.1.oa, y.1.c, (if (rdU l e).2.2 = 0 then 3 else (rdU l e).2.2)⟩ (.inr ⟨by show (if (rdU l e).2.2 = 0 then (3 : Int) else (rdU l e).2.2) ≠ 0; rw [if_pos he0]; decide, rfl, by show rdRaw l e = ([], _, (if (rdU l e).2.2 = 0 then (3 : Int) else (rdU l e).2.2)); rw [if_pos he0]; exact rdRaw_far he0 hfar, hy⟩) ⟨rfl, rfl, rfl, rfl, rfl, trivial⟩ (fun w hw => OwnSl.nil_new 5 1 hw) (fun x hx => ?_)
    refine TR.seq ?_
    refine TR.seq ?_
    refine TR.region ?_
    refine RL.move rfl rfl rfl ?_
    refine RL.move rfl rfl rfl ?_
    refine RL.bin rfl rfl rfl BinV.lss rfl ?_
    refine RL.move rfl rfl rfl ?_
    refine RL.part (fun h2 => ?_) (fun h2 => ?_)
    · skip
      have hlt : x.i < (rdU l e).1 := by have := of_decide_eq_true h2; omega
      refine RL.move rfl rfl rfl ?_
      refine RL.nilCheck rfl rfl rfl ?_
      refine RL.fieldAddr rfl wc_tf105_1 rfl rfl ?_
      refine RL.load1 1 rfl wc_ts39 rfl rfl rfl rfl ?_
      refine RL.bin rfl rfl rfl BinV.eql rfl ?_
      refine RL.pickT rfl rfl rfl rfl ?_
      refine RL.nil ?_
      refine NX.seq ?_
      refine TR.cond rfl (fun h3 => ?_) (fun h3 => ?_)
      · skip
        have hxe : x.e = 0 := of_decide_eq_true h3
        have hx5 : (rdU l e).1 ≤ (rdU l e).2.1.length ∧ ((rdU l e).2.1.drop x.i).length ≤ x.c := by
          rcases hx with h | h
          · exact ⟨h.2.2.1, h.2.2.2.2⟩
          · exact absurd hxe h.1
        have hxl : x.i < (rdU l e).2.1.length := by omega
        have hdk := List.drop_eq_getElem_cons hxl
        have hcx : ((rdU l e).2.1[x.i] :: (rdU l e).2.1.drop (x.i + 1)).length ≤ x.c := by rw [← hdk]; exact hx5.2
        rw [hdk, hxe]
        have hFx : ArrF x.oa (bytesV ((rdU l e).2.1[x.i] :: (rdU l e).2.1.drop (x.i + 1))) ∈ ArrF x.oa (bytesV ((rdU l e).2.1[x.i] :: (rdU l e).2.1.drop (x.i + 1))) :: F := .head _
        refine TR.skip ?_
        refine NX.seq ?_
        refine TR.seq ?_
        refine TR.block ?_
        refine TR.region ?_
        refine RL.move rfl rfl rfl ?_
        refine RL.move rfl rfl rfl ?_
        refine RL.callV (fst := [.pointer (some ⟨b, 0, none⟩)]) (cap := []) rfl rfl rfl Try.call67 rfl (Ctr.frame1 [_] (nextC_spec (x := (rdU l e).2.1[x.i]) (l := (rdU l e).2.1.drop (x.i + 1)) hFx hcx)) (fun z => ?_)
        refine RL.buildSlice rfl rfl (wc_bs23_1_0 _) rfl (fun b4 => ?_)
        refine RL.ofGV rfl rfl (GV.append (j := 1) wc_tl23 wc_ni23 wc_te5 rfl rfl rfl (src_box (i := 0) rfl rfl rfl) (by omega) (by omega)) (fun v => ?_)
        refine RL.assign rfl rfl rfl ?_
        refine RL.nil ?_
        refine NX.off ?_
        refine NX.seq ?_
        refine TR.region ?_
        refine RL.move rfl rfl rfl ?_
        refine RL.bin rfl rfl rfl (BinV.addU (b := 1) (by omega)) rfl ?_
        refine RL.assign rfl rfl rfl ?_
        refine RL.nil ?_
        have ht : (rdU l e).2.1.take (x.i + 1) = (rdU l e).2.1.take x.i ++ [(rdU l e).2.1[x.i]] := List.take_succ_eq_append_getElem hxl
        refine NX.roundP ⟨x.i + 1, v.1, v.2, z.1.oa, z.1.c, 0⟩ (.inl ⟨rfl, hlt, hx5.1, ?_, z.2⟩) (by show _ - (x.i + 1) < _ - x.i; omega) ⟨rfl, rfl, rfl, rfl, rfl, trivial⟩ (fun w hw => ?_)
        · rcases hx with h | h
          · exact h.2.2.2.1
          · exact absurd hxe h.1
        · have h9 := (hw.drop 0 rfl).facts (F' := ArrF z.1.oa (bytesV ((rdU l e).2.1.drop (x.i + 1))) :: F) (fun φ h => by
            rcases List.mem_cons.1 h with e | h
            · subst e; exact .head _
            · exact .tail _ (.tail _ h))
          show St w (OwnSl 5 1 v.1 (x.i + 1) v.2 (bytesV ((rdU l e).2.1.take (x.i + 1))) :: _) _
          rw [ht, bytesV_snoc]
          exact h9
      · skip
        have hex : x.i < (rdU l e).1 → ¬ x.e = 0 := fun _ => of_decide_eq_false h3
        refine TR.exit ?_
        refine NX.exitThen ?_
        refine NX.exitThen ?_
        refine NX.exitHere ?_
        refine NX.seq ?_
        refine TR.seq ?_
        refine TR.seq ?_
        refine TR.region ?_
        refine RL.move rfl rfl rfl ?_
        refine RL.nilCheck rfl rfl rfl ?_
        refine RL.fieldAddr rfl wc_tf105_1 rfl rfl ?_
        refine RL.load1 1 rfl wc_ts39 rfl rfl rfl rfl ?_
        refine RL.bin rfl rfl rfl BinV.neq rfl ?_
        refine RL.nil ?_
        refine NX.seq ?_
        refine TR.cond rfl (fun h6 => ?_) (fun h6 => ?_)
        · skip
          have h41 := h6
          refine TR.seq ?_
          refine TR.region ?_
          refine RL.assign rfl rfl rfl ?_
          refine RL.nil ?_
          refine NX.seq ?_
          refine TR.ret ?_
          refine NX.retThen ?_
          have hE : x.e ≠ 0 := of_decide_eq_true h41
          have hR : rdRaw l e = ([], (rdU l e).2.1, x.e) ∧ (rdU l e).2.1.length ≤ x.c ∧ x.i = 0 := by
            rcases hx with h | h
            · exact absurd h.1 hE
            · exact ⟨h.2.2.1, h.2.2.2, h.2.1⟩
          refine NX.ret1x rfl rfl (fun w hw => ⟨⟨⟨none, 0, x.oa, x.c⟩, by rw [hR.1]; exact hR.2.1⟩, by show Value.slice none 0 0 = Value.slice none (rdRaw l e).1.length 0; rw [hR.1]; rfl, ?_⟩)
          show St w (OwnSl 5 1 none (rdRaw l e).1.length 0 (bytesV (rdRaw l e).1) :: Box b 105 [.slice x.oa (rdRaw l e).2.1.length x.c, I (rdRaw l e).2.2] :: M) (ArrF x.oa (bytesV (rdRaw l e).2.1) :: F)
          rw [hR.1]
          have h9 := hw.drop 0 rfl
          rw [hR.2.2] at h9
          exact OwnSl.nil_new 5 1 h9
        · skip
          have h41 := h6
          refine TR.skip ?_
          refine NX.seq ?_
          refine TR.seq ?_
          refine TR.region ?_
          refine RL.move rfl rfl rfl ?_
          refine RL.assign rfl rfl rfl ?_
          refine RL.nil ?_
          refine NX.seq ?_
          refine TR.ret ?_
          have hE : x.e = 0 := by have := of_decide_eq_false h41; omega
          have hR : x.i = (rdU l e).1 ∧ rdRaw l e = ((rdU l e).2.1.take (rdU l e).1, (rdU l e).2.1.drop (rdU l e).1, 0) ∧ ((rdU l e).2.1.drop (rdU l e).1).length ≤ x.c ∧ ((rdU l e).2.1.take (rdU l e).1).length = (rdU l e).1 := by
            rcases hx with h | h
            · have hi : x.i = (rdU l e).1 := by
                have h8 := h.2.1
                rcases Nat.lt_or_ge x.i (rdU l e).1 with h7 | h7
                · exact absurd hE (hex h7)
                · omega
              refine ⟨hi, rdRaw_ok h.2.2.2.1 h.2.2.1, by rw [← hi]; exact h.2.2.2.2, by rw [List.length_take]; omega⟩
            · exact absurd hE h.1
          obtain ⟨hi, hR1, hR2, hR3⟩ := hR
          refine NX.ret1x rfl rfl (fun w hw => ⟨⟨⟨x.oo, x.oc, x.oa, x.c⟩, ?_⟩, ?_, ?_⟩)
          · rw [hR1]; exact hR2
          · show Value.slice x.oo x.i x.oc = Value.slice x.oo (rdRaw l e).1.length x.oc; rw [hR1]; show Value.slice x.oo x.i x.oc = Value.slice x.oo ((rdU l e).2.1.take (rdU l e).1).length x.oc; rw [hR3, hi]
          · show St w (OwnSl 5 1 x.oo (rdRaw l e).1.length x.oc (bytesV (rdRaw l e).1) :: Box b 105 [.slice x.oa (rdRaw l e).2.1.length x.c, I (rdRaw l e).2.2] :: M) (ArrF x.oa (bytesV (rdRaw l e).2.1) :: F)
            rw [hR1]
            show St w (OwnSl 5 1 x.oo ((rdU l e).2.1.take (rdU l e).1).length x.oc _ :: _) _
            rw [hR3]
            have h9 := hw
            rw [hi, hE] at h9
            exact h9
    · skip
      have hge : ¬ x.i < (rdU l e).1 := by have := of_decide_eq_false h2; omega
      have hex : x.i < (rdU l e).1 → ¬ x.e = 0 := fun h => absurd h hge
      refine RL.skip rfl rfl rfl ?_
      refine RL.skip rfl rfl rfl ?_
      refine RL.skip rfl rfl rfl ?_
      refine RL.skip rfl rfl rfl ?_
      refine RL.skip rfl rfl rfl ?_
      refine RL.pickF rfl rfl rfl rfl ?_
      refine RL.nil ?_
      refine NX.seq ?_
      refine TR.condF rfl ?_
      refine TR.exit ?_
      refine NX.exitThen ?_
      refine NX.exitThen ?_
      refine NX.exitHere ?_
      refine NX.seq ?_
      refine TR.seq ?_
      refine TR.seq ?_
      refine TR.region ?_
      refine RL.move rfl rfl rfl ?_
      refine RL.nilCheck rfl rfl rfl ?_
      refine RL.fieldAddr rfl wc_tf105_1 rfl rfl ?_
      refine RL.load1 1 rfl wc_ts39 rfl rfl rfl rfl ?_
      refine RL.bin rfl rfl rfl BinV.neq rfl ?_
      refine RL.nil ?_
      refine NX.seq ?_
      refine TR.cond rfl (fun h7 => ?_) (fun h7 => ?_)
      · skip
        have h41 := h7
        refine TR.seq ?_
        refine TR.region ?_
        refine RL.assign rfl rfl rfl ?_
        refine RL.nil ?_
        refine NX.seq ?_
        refine TR.ret ?_
        refine NX.retThen ?_
        have hE : x.e ≠ 0 := of_decide_eq_true h41
        have hR : rdRaw l e = ([], (rdU l e).2.1, x.e) ∧ (rdU l e).2.1.length ≤ x.c ∧ x.i = 0 := by
          rcases hx with h | h
          · exact absurd h.1 hE
          · exact ⟨h.2.2.1, h.2.2.2, h.2.1⟩
        refine NX.ret1x rfl rfl (fun w hw => ⟨⟨⟨none, 0, x.oa, x.c⟩, by rw [hR.1]; exact hR.2.1⟩, by show Value.slice none 0 0 = Value.slice none (rdRaw l e).1.length 0; rw [hR.1]; rfl, ?_⟩)
        show St w (OwnSl 5 1 none (rdRaw l e).1.length 0 (bytesV (rdRaw l e).1) :: Box b 105 [.slice x.oa (rdRaw l e).2.1.length x.c, I (rdRaw l e).2.2] :: M) (ArrF x.oa (bytesV (rdRaw l e).2.1) :: F)
        rw [hR.1]
        have h9 := hw.drop 0 rfl
        rw [hR.2.2] at h9
        exact OwnSl.nil_new 5 1 h9
      · skip
        have h41 := h7
        refine TR.skip ?_
        refine NX.seq ?_
        refine TR.seq ?_
        refine TR.region ?_
        refine RL.move rfl rfl rfl ?_
        refine RL.assign rfl rfl rfl ?_
        refine RL.nil ?_
        refine NX.seq ?_
        refine TR.ret ?_
        have hE : x.e = 0 := by have := of_decide_eq_false h41; omega
        have hR : x.i = (rdU l e).1 ∧ rdRaw l e = ((rdU l e).2.1.take (rdU l e).1, (rdU l e).2.1.drop (rdU l e).1, 0) ∧ ((rdU l e).2.1.drop (rdU l e).1).length ≤ x.c ∧ ((rdU l e).2.1.take (rdU l e).1).length = (rdU l e).1 := by
          rcases hx with h | h
          · have hi : x.i = (rdU l e).1 := by
              have h8 := h.2.1
              rcases Nat.lt_or_ge x.i (rdU l e).1 with h7 | h7
              · exact absurd hE (hex h7)
              · omega
            refine ⟨hi, rdRaw_ok h.2.2.2.1 h.2.2.1, by rw [← hi]; exact h.2.2.2.2, by rw [List.length_take]; omega⟩
          · exact absurd hE h.1
        obtain ⟨hi, hR1, hR2, hR3⟩ := hR
        refine NX.ret1x rfl rfl (fun w hw => ⟨⟨⟨x.oo, x.oc, x.oa, x.c⟩, ?_⟩, ?_, ?_⟩)
        · rw [hR1]; exact hR2
        · show Value.slice x.oo x.i x.oc = Value.slice x.oo (rdRaw l e).1.length x.oc; rw [hR1]; show Value.slice x.oo x.i x.oc = Value.slice x.oo ((rdU l e).2.1.take (rdU l e).1).length x.oc; rw [hR3, hi]
        · show St w (OwnSl 5 1 x.oo (rdRaw l e).1.length x.oc (bytesV (rdRaw l e).1) :: Box b 105 [.slice x.oa (rdRaw l e).2.1.length x.c, I (rdRaw l e).2.2] :: M) (ArrF x.oa (bytesV (rdRaw l e).2.1) :: F)
          rw [hR1]
          show St w (OwnSl 5 1 x.oo ((rdU l e).2.1.take (rdU l e).1).length x.oc _ :: _) _
          rw [hR3]
          have h9 := hw
          rw [hi, hE] at h9
          exact h9
  · skip
    have hnear : (rdU l e).1 ≤ (rdU l e).2.1.length := by have := of_decide_eq_false h1; omega
    refine TR.skip ?_
    refine NX.seq ?_
    refine TR.seq ?_
    refine TR.region ?_
    refine RL.assign rfl rfl rfl ?_
    refine RL.nil ?_
    refine NX.seq ?_
    refine TR.seq ?_
    refine TR.seq ?_
    refine TR.region ?_
    refine RL.assign rfl rfl rfl ?_
    refine RL.nil ?_
    refine NX.seq ?_
    refine TR.block ?_
    refine TR.loopP (ι := RlX) (fun x => (x.e = 0 ∧ x.i ≤ (rdU l e).1 ∧ (rdU l e).1 ≤ (rdU l e).2.1.length ∧ (rdU l e).2.2 = 0 ∧ ((rdU l e).2.1.drop x.i).length ≤ x.c) ∨ (x.e ≠ 0 ∧ x.i = 0 ∧ rdRaw l e = ([], (rdU l e).2.1, x.e) ∧ (rdU l e).2.1.length ≤ x.c)) (fun x => [(0, .pointer (some ⟨b, 0, none⟩)), (1, (.func (.func 67) #[.pointer (some ⟨b, 0, none⟩)] #[])), (5, U (rdU l e).1), (6, .slice x.oo x.i x.oc), (7, U x.i)]) (fun x => OwnSl 5 1 x.oo x.i x.oc (bytesV ((rdU l e).2.1.take x.i)) :: Box b 105 [.slice x.oa ((rdU l e).2.1.drop x.i).length x.c, I x.e] :: M) (fun x => ArrF x.oa (bytesV ((rdU l e).2.1.drop x.i)) :: F) (fun x => (rdU l e).1 - x.i) ⟨0, none, 0, y.1.oa, y.1.c, (rdU l e).2.2⟩ (by
      rcases Int.decEq (rdU l e).2.2 0 with h | h
      · exact .inr ⟨h, rfl, rdRaw_err h, hy⟩
      · exact .inl ⟨h, Nat.zero_le _, hnear, h, hy⟩) ⟨rfl, rfl, rfl, rfl, rfl, trivial⟩ (fun w hw => OwnSl.nil_new 5 1 hw) (fun x hx => ?_)
    refine TR.seq ?_
    refine TR.seq ?_
    refine TR.region ?_
    refine RL.move rfl rfl rfl ?_
    refine RL.move rfl rfl rfl ?_
    refine RL.bin rfl rfl rfl BinV.lss rfl ?_
    refine RL.move rfl rfl rfl ?_
    refine RL.part (fun h8 => ?_) (fun h8 => ?_)
    · skip
      have hlt : x.i < (rdU l e).1 := by have := of_decide_eq_true h8; omega
      refine RL.move rfl rfl rfl ?_
      refine RL.nilCheck rfl rfl rfl ?_
      refine RL.fieldAddr rfl wc_tf105_1 rfl rfl ?_
      refine RL.load1 1 rfl wc_ts39 rfl rfl rfl rfl ?_
      refine RL.bin rfl rfl rfl BinV.eql rfl ?_
      refine RL.pickT rfl rfl rfl rfl ?_
      refine RL.nil ?_
      refine NX.seq ?_
      refine TR.cond rfl (fun h9 => ?_) (fun h9 => ?_)
      · skip
        have hxe : x.e = 0 := of_decide_eq_true h9
        have hx5 : (rdU l e).1 ≤ (rdU l e).2.1.length ∧ ((rdU l e).2.1.drop x.i).length ≤ x.c := by
          rcases hx with h | h
          · exact ⟨h.2.2.1, h.2.2.2.2⟩
          · exact absurd hxe h.1
        have hxl : x.i < (rdU l e).2.1.length := by omega
        have hdk := List.drop_eq_getElem_cons hxl
        have hcx : ((rdU l e).2.1[x.i] :: (rdU l e).2.1.drop (x.i + 1)).length ≤ x.c := by rw [← hdk]; exact hx5.2
        rw [hdk, hxe]
        have hFx : ArrF x.oa (bytesV ((rdU l e).2.1[x.i] :: (rdU l e).2.1.drop (x.i + 1))) ∈ ArrF x.oa (bytesV ((rdU l e).2.1[x.i] :: (rdU l e).2.1.drop (x.i + 1))) :: F := .head _
        refine TR.skip ?_
        refine NX.seq ?_
        refine TR.seq ?_
        refine TR.block ?_
        refine TR.region ?_
        refine RL.move rfl rfl rfl ?_
        refine RL.move rfl rfl rfl ?_
        refine RL.callV (fst := [.pointer (some ⟨b, 0, none⟩)]) (cap := []) rfl rfl rfl Try.call67 rfl (Ctr.frame1 [_] (nextC_spec (x := (rdU l e).2.1[x.i]) (l := (rdU l e).2.1.drop (x.i + 1)) hFx hcx)) (fun z => ?_)
        refine RL.buildSlice rfl rfl (wc_bs23_1_0 _) rfl (fun b10 => ?_)
        refine RL.ofGV rfl rfl (GV.append (j := 1) wc_tl23 wc_ni23 wc_te5 rfl rfl rfl (src_box (i := 0) rfl rfl rfl) (by omega) (by omega)) (fun v => ?_)
        refine RL.assign rfl rfl rfl ?_
        refine RL.nil ?_
        refine NX.off ?_
        refine NX.seq ?_
        refine TR.region ?_
        refine RL.move rfl rfl rfl ?_
        refine RL.bin rfl rfl rfl (BinV.addU (b := 1) (by omega)) rfl ?_
        refine RL.assign rfl rfl rfl ?_
        refine RL.nil ?_
        have ht : (rdU l e).2.1.take (x.i + 1) = (rdU l e).2.1.take x.i ++ [(rdU l e).2.1[x.i]] := List.take_succ_eq_append_getElem hxl
        refine NX.roundP ⟨x.i + 1, v.1, v.2, z.1.oa, z.1.c, 0⟩ (.inl ⟨rfl, hlt, hx5.1, ?_, z.2⟩) (by show _ - (x.i + 1) < _ - x.i; omega) ⟨rfl, rfl, rfl, rfl, rfl, trivial⟩ (fun w hw => ?_)
        · rcases hx with h | h
          · exact h.2.2.2.1
          · exact absurd hxe h.1
        · have h9 := (hw.drop 0 rfl).facts (F' := ArrF z.1.oa (bytesV ((rdU l e).2.1.drop (x.i + 1))) :: F) (fun φ h => by
            rcases List.mem_cons.1 h with e | h
            · subst e; exact .head _
            · exact .tail _ (.tail _ h))
          show St w (OwnSl 5 1 v.1 (x.i + 1) v.2 (bytesV ((rdU l e).2.1.take (x.i + 1))) :: _) _
          rw [ht, bytesV_snoc]
          exact h9
      · skip
        have hex : x.i < (rdU l e).1 → ¬ x.e = 0 := fun _ => of_decide_eq_false h9
        refine TR.exit ?_
        refine NX.exitThen ?_
        refine NX.exitThen ?_
        refine NX.exitHere ?_
        refine NX.seq ?_
        refine TR.seq ?_
        refine TR.seq ?_
        refine TR.region ?_
        refine RL.move rfl rfl rfl ?_
        refine RL.nilCheck rfl rfl rfl ?_
        refine RL.fieldAddr rfl wc_tf105_1 rfl rfl ?_
        refine RL.load1 1 rfl wc_ts39 rfl rfl rfl rfl ?_
        refine RL.bin rfl rfl rfl BinV.neq rfl ?_
        refine RL.nil ?_
        refine NX.seq ?_
        refine TR.cond rfl (fun h12 => ?_) (fun h12 => ?_)
        · skip
          have h41 := h12
          refine TR.seq ?_
          refine TR.region ?_
          refine RL.assign rfl rfl rfl ?_
          refine RL.nil ?_
          refine NX.seq ?_
          refine TR.ret ?_
          refine NX.retThen ?_
          have hE : x.e ≠ 0 := of_decide_eq_true h41
          have hR : rdRaw l e = ([], (rdU l e).2.1, x.e) ∧ (rdU l e).2.1.length ≤ x.c ∧ x.i = 0 := by
            rcases hx with h | h
            · exact absurd h.1 hE
            · exact ⟨h.2.2.1, h.2.2.2, h.2.1⟩
          refine NX.ret1x rfl rfl (fun w hw => ⟨⟨⟨none, 0, x.oa, x.c⟩, by rw [hR.1]; exact hR.2.1⟩, by show Value.slice none 0 0 = Value.slice none (rdRaw l e).1.length 0; rw [hR.1]; rfl, ?_⟩)
          show St w (OwnSl 5 1 none (rdRaw l e).1.length 0 (bytesV (rdRaw l e).1) :: Box b 105 [.slice x.oa (rdRaw l e).2.1.length x.c, I (rdRaw l e).2.2] :: M) (ArrF x.oa (bytesV (rdRaw l e).2.1) :: F)
          rw [hR.1]
          have h9 := hw.drop 0 rfl
          rw [hR.2.2] at h9
          exact OwnSl.nil_new 5 1 h9
        · skip
          have h41 := h12
          refine TR.skip ?_
          refine NX.seq ?_
          refine TR.seq ?_
          refine TR.region ?_
          refine RL.move rfl rfl rfl ?_
          refine RL.assign rfl rfl rfl ?_
          refine RL.nil ?_
          refine NX.seq ?_
          refine TR.ret ?_
          have hE : x.e = 0 := by have := of_decide_eq_false h41; omega
          have hR : x.i = (rdU l e).1 ∧ rdRaw l e = ((rdU l e).2.1.take (rdU l e).1, (rdU l e).2.1.drop (rdU l e).1, 0) ∧ ((rdU l e).2.1.drop (rdU l e).1).length ≤ x.c ∧ ((rdU l e).2.1.take (rdU l e).1).length = (rdU l e).1 := by
            rcases hx with h | h
            · have hi : x.i = (rdU l e).1 := by
                have h8 := h.2.1
                rcases Nat.lt_or_ge x.i (rdU l e).1 with h7 | h7
                · exact absurd hE (hex h7)
                · omega
              refine ⟨hi, rdRaw_ok h.2.2.2.1 h.2.2.1, by rw [← hi]; exact h.2.2.2.2, by rw [List.length_take]; omega⟩
            · exact absurd hE h.1
          obtain ⟨hi, hR1, hR2, hR3⟩ := hR
          refine NX.ret1x rfl rfl (fun w hw => ⟨⟨⟨x.oo, x.oc, x.oa, x.c⟩, ?_⟩, ?_, ?_⟩)
          · rw [hR1]; exact hR2
          · show Value.slice x.oo x.i x.oc = Value.slice x.oo (rdRaw l e).1.length x.oc; rw [hR1]; show Value.slice x.oo x.i x.oc = Value.slice x.oo ((rdU l e).2.1.take (rdU l e).1).length x.oc; rw [hR3, hi]
          · show St w (OwnSl 5 1 x.oo (rdRaw l e).1.length x.oc (bytesV (rdRaw l e).1) :: Box b 105 [.slice x.oa (rdRaw l e).2.1.length x.c, I (rdRaw l e).2.2] :: M) (ArrF x.oa (bytesV (rdRaw l e).2.1) :: F)
            rw [hR1]
            show St w (OwnSl 5 1 x.oo ((rdU l e).2.1.take (rdU l e).1).length x.oc _ :: _) _
            rw [hR3]
            have h9 := hw
            rw [hi, hE] at h9
            exact h9
    · skip
      have hge : ¬ x.i < (rdU l e).1 := by have := of_decide_eq_false h8; omega
      have hex : x.i < (rdU l e).1 → ¬ x.e = 0 := fun h => absurd h hge
      refine RL.skip rfl rfl rfl ?_
      refine RL.skip rfl rfl rfl ?_
      refine RL.skip rfl rfl rfl ?_
      refine RL.skip rfl rfl rfl ?_
      refine RL.skip rfl rfl rfl ?_
      refine RL.pickF rfl rfl rfl rfl ?_
      refine RL.nil ?_
      refine NX.seq ?_
      refine TR.condF rfl ?_
      refine TR.exit ?_
      refine NX.exitThen ?_
      refine NX.exitThen ?_
      refine NX.exitHere ?_
      refine NX.seq ?_
      refine TR.seq ?_
      refine TR.seq ?_
      refine TR.region ?_
      refine RL.move rfl rfl rfl ?_
      refine RL.nilCheck rfl rfl rfl ?_
      refine RL.fieldAddr rfl wc_tf105_1 rfl rfl ?_
      refine RL.load1 1 rfl wc_ts39 rfl rfl rfl rfl ?_
      refine RL.bin rfl rfl rfl BinV.neq rfl ?_
      refine RL.nil ?_
      refine NX.seq ?_
      refine TR.cond rfl (fun h13 => ?_) (fun h13 => ?_)
      · skip
        have h41 := h13
        refine TR.seq ?_
        refine TR.region ?_
        refine RL.assign rfl rfl rfl ?_
        refine RL.nil ?_
        refine NX.seq ?_
        refine TR.ret ?_
        refine NX.retThen ?_
        have hE : x.e ≠ 0 := of_decide_eq_true h41
        have hR : rdRaw l e = ([], (rdU l e).2.1, x.e) ∧ (rdU l e).2.1.length ≤ x.c ∧ x.i = 0 := by
          rcases hx with h | h
          · exact absurd h.1 hE
          · exact ⟨h.2.2.1, h.2.2.2, h.2.1⟩
        refine NX.ret1x rfl rfl (fun w hw => ⟨⟨⟨none, 0, x.oa, x.c⟩, by rw [hR.1]; exact hR.2.1⟩, by show Value.slice none 0 0 = Value.slice none (rdRaw l e).1.length 0; rw [hR.1]; rfl, ?_⟩)
        show St w (OwnSl 5 1 none (rdRaw l e).1.length 0 (bytesV (rdRaw l e).1) :: Box b 105 [.slice x.oa (rdRaw l e).2.1.length x.c, I (rdRaw l e).2.2] :: M) (ArrF x.oa (bytesV (rdRaw l e).2.1) :: F)
        rw [hR.1]
        have h9 := hw.drop 0 rfl
        rw [hR.2.2] at h9
        exact OwnSl.nil_new 5 1 h9
      · skip
        have h41 := h13
        refine TR.skip ?_
        refine NX.seq ?_
        refine TR.seq ?_
        refine TR.region ?_
        refine RL.move rfl rfl rfl ?_
        refine RL.assign rfl rfl rfl ?_
        refine RL.nil ?_
        refine NX.seq ?_
        refine TR.ret ?_
        have hE : x.e = 0 := by have := of_decide_eq_false h41; omega
        have hR : x.i = (rdU l e).1 ∧ rdRaw l e = ((rdU l e).2.1.take (rdU l e).1, (rdU l e).2.1.drop (rdU l e).1, 0) ∧ ((rdU l e).2.1.drop (rdU l e).1).length ≤ x.c ∧ ((rdU l e).2.1.take (rdU l e).1).length = (rdU l e).1 := by
          rcases hx with h | h
          · have hi : x.i = (rdU l e).1 := by
              have h8 := h.2.1
              rcases Nat.lt_or_ge x.i (rdU l e).1 with h7 | h7
              · exact absurd hE (hex h7)
              · omega
            refine ⟨hi, rdRaw_ok h.2.2.2.1 h.2.2.1, by rw [← hi]; exact h.2.2.2.2, by rw [List.length_take]; omega⟩
          · exact absurd hE h.1
        obtain ⟨hi, hR1, hR2, hR3⟩ := hR
        refine NX.ret1x rfl rfl (fun w hw => ⟨⟨⟨x.oo, x.oc, x.oa, x.c⟩, ?_⟩, ?_, ?_⟩)
        · rw [hR1]; exact hR2
        · show Value.slice x.oo x.i x.oc = Value.slice x.oo (rdRaw l e).1.length x.oc; rw [hR1]; show Value.slice x.oo x.i x.oc = Value.slice x.oo ((rdU l e).2.1.take (rdU l e).1).length x.oc; rw [hR3, hi]
        · show St w (OwnSl 5 1 x.oo (rdRaw l e).1.length x.oc (bytesV (rdRaw l e).1) :: Box b 105 [.slice x.oa (rdRaw l e).2.1.length x.c, I (rdRaw l e).2.2] :: M) (ArrF x.oa (bytesV (rdRaw l e).2.1) :: F)
          rw [hR1]
          show St w (OwnSl 5 1 x.oo ((rdU l e).2.1.take (rdU l e).1).length x.oc _ :: _) _
          rw [hR3]
          have h9 := hw
          rw [hi, hE] at h9
          exact h9

theorem rRaw_spec {b : Nat} {l : List UInt8} {oa : Option Addr} {c : Nat} {e : Int} {M : List HP} {F : List Fact} (ha : ArrF oa (bytesV l) ∈ F) (hc : l.length ≤ c) (hl : l.length ≤ 70368744177664) : Ctr Try.prog 38 [.pointer (some ⟨b, 0, none⟩)] (Box b 105 [.slice oa l.length c, I e] :: M) F {z : RwX // (rdRaw l e).2.1.length ≤ z.c} (fun z => .slice z.1.ro (rdRaw l e).1.length z.1.rc) (fun z => OwnSl 5 1 z.1.ro (rdRaw l e).1.length z.1.rc (bytesV (rdRaw l e).1) :: Box b 105 [.slice z.1.oa (rdRaw l e).2.1.length z.1.c, I (rdRaw l e).2.2] :: M) (fun z => ArrF z.1.oa (bytesV (rdRaw l e).2.1) :: F) := by
  refine Ctr.body Try.func38 rfl rfl ?_
  refine TR.seq ?_
  refine TR.region ?_
  refine RL.assign rfl rfl rfl ?_
  refine RL.nil ?_
  refine NX.seq ?_
  refine TR.seq ?_
  refine TR.region ?_
  refine RL.move rfl rfl rfl ?_
  refine RL.move rfl rfl rfl ?_
  refine RL.makeFunc rfl rfl rfl rfl ?_
  refine RL.call rfl rfl Try.call66 rfl (rList_spec ha hc hl) (fun z => ?_)
  refine RL.assign rfl rfl rfl ?_
  refine RL.nil ?_
  refine NX.seq ?_
  refine TR.ret ?_
  exact NX.ret1 z rfl rfl rfl (fun w hw => hw)

end Go.Proofs.Ytdlpaojkkekdlaa
