/- Lemmas and walks for the proof of ReplJ: texts one behind the other. No condition. -/
import Derived.Test.YtdlpaojkkekdlaaPreb
namespace Go.Proofs.Ytdlpaojkkekdlaa
open Go.GL
set_option linter.unusedVariables false
theorem wc_bs23_1_0 (x0 : Int) : BuildSV Try.prog 23 5 1 [(0, .int .u8 x0)] [.int .u8 x0] := fun w => by kernel_rfl
theorem wc_bv105_0 (x0 : Option Addr) (x0n x0c : Nat) : BuildV Try.prog 105 [(0, .slice x0 x0n x0c)] (.agg #[.slice x0 x0n x0c, .int .i64 0]) := fun w => by kernel_rfl
theorem wc_ni23 : noInt Try.prog 23 = true := by kernel_rfl
theorem wc_te5 : tyElem Try.prog 5 1 1 = true := by kernel_rfl
theorem wc_tf105_0 : fieldOff Try.prog 105 0 0 = true := by kernel_rfl
theorem wc_tf105_1 : fieldOff Try.prog 105 1 1 = true := by kernel_rfl
theorem wc_ti3 : tyInt Try.prog 3 .i64 = true := by kernel_rfl
theorem wc_ti5 : tyInt Try.prog 5 .u8 = true := by kernel_rfl
theorem wc_ti65 : tyInt Try.prog 65 .u64 = true := by kernel_rfl
theorem wc_tl23 : tySlice Try.prog 23 5 = true := by kernel_rfl
theorem wc_ts23 : tyScalar Try.prog 23 = true := by kernel_rfl
theorem wc_ts39 : tyScalar Try.prog 39 = true := by kernel_rfl
theorem wc_ts5 : tyScalar Try.prog 5 = true := by kernel_rfl
theorem wc_tz5 : tySize Try.prog 5 1 = true := by kernel_rfl
theorem read_spec {l : List UInt8} {oa : Option Addr} {c : Nat} {M : List HP} {F : List Fact} (ha : ArrF oa (bytesV l) ∈ F) (hl : l.length ≤ 70368744177664) : Ctr Try.prog 32 [.slice oa l.length c] M F {z : Nat × RdX // l.length ≤ z.2.c} (fun z => .pointer (some ⟨z.1.1, 0, none⟩)) (fun z => Box z.1.1 105 [.slice z.1.2.oa l.length z.1.2.c, I 0] :: M) (fun z => ArrF z.1.2.oa (bytesV l) :: F) := by
  refine Ctr.body Try.func32 rfl rfl ?_
  refine TR.seq ?_
  refine TR.region ?_
  refine RL.assign rfl rfl rfl ?_
  refine RL.nil ?_
  refine NX.seq ?_
  refine TR.seq ?_
  refine TR.region ?_
  refine RL.move rfl rfl rfl ?_
  refine RL.call rfl rfl Try.call61 rfl (cloneB_spec (rd_fact ha) hl) (fun z => ?_)
  refine RL.build rfl rfl (wc_bv105_0 _ _ _) rfl ?_
  refine RL.boxA rfl rfl rfl (fun b1 => ?_)
  refine RL.assign rfl rfl rfl ?_
  refine RL.nil ?_
  refine NX.seq ?_
  refine TR.ret ?_
  refine NX.ret1x rfl rfl (fun w hw => ⟨⟨(b1, ⟨z.1, z.2⟩), hw.swap.ownLen.2⟩, rfl, ?_⟩)
  exact hw.swap.keepSl

theorem fail_spec {b : Nat} {sl : Value} {e k : Int} {M : List HP} {F : List Fact} : Ctr Try.prog 68 [.pointer (some ⟨b, 0, none⟩), I k] (Box b 105 [sl, I e] :: M) F Unit (fun _ => .tuple #[]) (fun _ => Box b 105 [sl, I (if e = 0 then k else e)] :: M) (fun _ => F) := by
  refine Ctr.body Try.func68 rfl rfl ?_
  refine TR.seq ?_
  refine TR.region ?_
  refine RL.move rfl rfl rfl ?_
  refine RL.nilCheck rfl rfl rfl ?_
  refine RL.fieldAddr rfl wc_tf105_1 rfl rfl ?_
  refine RL.load1 0 rfl wc_ts39 rfl rfl rfl rfl ?_
  refine RL.bin rfl rfl rfl BinV.eql rfl ?_
  refine RL.nil ?_
  refine NX.seq ?_
  refine TR.cond rfl (fun h1 => ?_) (fun h1 => ?_)
  · skip
    have he : e = 0 := of_decide_eq_true h1
    refine TR.region ?_
    refine RL.move rfl rfl rfl ?_
    refine RL.move rfl rfl rfl ?_
    refine RL.nilCheck rfl rfl rfl ?_
    refine RL.fieldAddr rfl wc_tf105_1 rfl rfl ?_
    refine RL.store1 0 rfl wc_ts39 rfl rfl rfl rfl rfl ?_
    refine RL.nil ?_
    refine NX.end0 () rfl rfl (fun w hw => ?_)
    rw [if_pos he]
    exact hw
  · skip
    have he : ¬ e = 0 := of_decide_eq_false h1
    refine TR.skip ?_
    refine NX.end0 () rfl rfl (fun w hw => ?_)
    rw [if_neg he]
    exact hw

theorem nextN_spec {b : Nat} {oa : Option Addr} {c : Nat} {M : List HP} {F : List Fact} : Ctr Try.prog 67 [.pointer (some ⟨b, 0, none⟩)] (Box b 105 [.slice oa ([] : List UInt8).length c, I 0] :: M) F Unit (fun _ => .int .u8 0) (fun _ => Box b 105 [.slice oa 0 c, I 3] :: M) (fun _ => F) := by
  refine Ctr.body Try.func67 rfl rfl ?_
  refine TR.seq ?_
  refine TR.region ?_
  refine RL.assign rfl rfl rfl ?_
  refine RL.nil ?_
  refine NX.seq ?_
  refine TR.seq ?_
  refine TR.seq ?_
  refine TR.region ?_
  refine RL.move rfl rfl rfl ?_
  refine RL.nilCheck rfl rfl rfl ?_
  refine RL.fieldAddr rfl wc_tf105_0 rfl rfl ?_
  refine RL.load1 0 rfl wc_ts23 rfl rfl rfl rfl ?_
  refine RL.lenSlice rfl wc_tl23 rfl rfl ?_
  refine RL.bin rfl rfl rfl BinV.eql rfl ?_
  refine RL.nil ?_
  refine NX.seq ?_
  refine TR.cond rfl (fun h1 => ?_) (fun h1 => ?_)
  · skip
    refine TR.region ?_
    refine RL.move rfl rfl rfl ?_
    refine RL.call rfl rfl Try.call68 rfl (fail_spec) (fun _ => ?_)
    refine RL.nil ?_
    refine NX.seq ?_
    refine TR.seq ?_
    refine TR.seq ?_
    refine TR.region ?_
    refine RL.move rfl rfl rfl ?_
    refine RL.nilCheck rfl rfl rfl ?_
    refine RL.fieldAddr rfl wc_tf105_1 rfl rfl ?_
    refine RL.load1 0 rfl wc_ts39 rfl rfl rfl rfl ?_
    refine RL.bin rfl rfl rfl BinV.neq rfl ?_
    refine RL.nil ?_
    refine NX.seq ?_
    refine TR.cond rfl (fun h2 => ?_) (fun h2 => ?_)
    · skip
      refine TR.seq ?_
      refine TR.region ?_
      refine RL.assign rfl rfl rfl ?_
      refine RL.nil ?_
      refine NX.seq ?_
      refine TR.ret ?_
      refine NX.retThen ?_
      refine NX.ret1 () rfl rfl rfl (fun w hw => ?_)
      rw [if_pos rfl] at hw
      exact hw
    · skip
      exact absurd (of_decide_eq_false h2) (by simp)
  · skip
    exact absurd (of_decide_eq_false h1) (by simp)

theorem nextC_spec {b : Nat} {oa : Option Addr} {c : Nat} {M : List HP} {F : List Fact} {x : UInt8} {l : List UInt8} (ha : ArrF oa (bytesV (x :: l)) ∈ F) (hc : (x :: l).length ≤ c) : Ctr Try.prog 67 [.pointer (some ⟨b, 0, none⟩)] (Box b 105 [.slice oa (x :: l).length c, I 0] :: M) F {z : RdX // l.length ≤ z.c} (fun _ => .int .u8 (x.toNat : Int)) (fun z => Box b 105 [.slice z.1.oa l.length z.1.c, I 0] :: M) (fun z => ArrF z.1.oa (bytesV l) :: F) := by
  refine Ctr.body Try.func67 rfl rfl ?_
  refine TR.seq ?_
  refine TR.region ?_
  refine RL.assign rfl rfl rfl ?_
  refine RL.nil ?_
  refine NX.seq ?_
  refine TR.seq ?_
  refine TR.seq ?_
  refine TR.region ?_
  refine RL.move rfl rfl rfl ?_
  refine RL.nilCheck rfl rfl rfl ?_
  refine RL.fieldAddr rfl wc_tf105_0 rfl rfl ?_
  refine RL.load1 0 rfl wc_ts23 rfl rfl rfl rfl ?_
  refine RL.lenSlice rfl wc_tl23 rfl rfl ?_
  refine RL.bin rfl rfl rfl BinV.eql rfl ?_
  refine RL.nil ?_
  refine NX.seq ?_
  refine TR.cond rfl (fun h1 => ?_) (fun h1 => ?_)
  · skip
    exact absurd (of_decide_eq_true h1) (by simp only [List.length_cons]; omega)
  · skip
    refine TR.skip ?_
    refine NX.seq ?_
    refine TR.seq ?_
    refine TR.seq ?_
    refine TR.region ?_
    refine RL.move rfl rfl rfl ?_
    refine RL.nilCheck rfl rfl rfl ?_
    refine RL.fieldAddr rfl wc_tf105_1 rfl rfl ?_
    refine RL.load1 0 rfl wc_ts39 rfl rfl rfl rfl ?_
    refine RL.bin rfl rfl rfl BinV.neq rfl ?_
    refine RL.nil ?_
    refine NX.seq ?_
    refine TR.cond rfl (fun h2 => ?_) (fun h2 => ?_)
    · skip
      exact absurd (of_decide_eq_true h2) (by simp)
    · skip
      refine TR.skip ?_
      refine NX.seq ?_
      refine TR.seq ?_
      refine TR.region ?_
      have hlen1 : (x :: l).length = l.length + 1 := rfl
      refine RL.openP (open_arr (oa := oa) (xs := bytesV (x :: l)) ha (by simp [bytesV])) (fun pq hpa => ?_)
      refine RL.move rfl rfl rfl ?_
      refine RL.nilCheck rfl rfl rfl ?_
      refine RL.fieldAddr rfl wc_tf105_0 rfl rfl ?_
      refine RL.load1 0 rfl wc_ts23 rfl rfl rfl rfl ?_
      refine RL.indexAddr rfl wc_tl23 wc_tz5 (congrArg (fun a => some (Value.slice a _ _)) hpa) rfl (by omega) (by omega) rfl ?_
      refine RL.loadF rfl rfl (fun w K hF => run_loadCell1 (j := (0 : Int).toNat * 1) (v := .int .u8 (x.toNat : Int)) (hF _ (.head _)) wc_ts5 (by simp [bytesV])) rfl ?_
      refine RL.assign rfl rfl rfl ?_
      refine RL.nil ?_
      refine NX.seq ?_
      refine TR.seq ?_
      refine TR.region ?_
      refine RL.move rfl rfl rfl ?_
      refine RL.move rfl rfl rfl ?_
      refine RL.nilCheck rfl rfl rfl ?_
      refine RL.fieldAddr rfl wc_tf105_0 rfl rfl ?_
      refine RL.load1 0 rfl wc_ts23 rfl rfl rfl rfl ?_
      refine RL.sliceLH (l := 1) (h := (x :: l).length) rfl wc_tl23 wc_tz5 rfl (.inr ⟨_, rfl, rfl⟩) (.inl ⟨rfl, rfl⟩) (by simp) hc rfl ?_
      refine RL.nilCheck rfl rfl rfl ?_
      refine RL.fieldAddr rfl wc_tf105_0 rfl rfl ?_
      refine RL.store1 0 rfl wc_ts23 rfl rfl rfl rfl rfl ?_
      refine RL.nil ?_
      refine NX.seq ?_
      refine TR.seq ?_
      refine TR.region ?_
      refine RL.move rfl rfl rfl ?_
      refine RL.assign rfl rfl rfl ?_
      refine RL.nil ?_
      refine NX.seq ?_
      refine TR.ret ?_
      refine NX.ret1x rfl rfl (fun w hw => ⟨⟨⟨cutA oa 1 c 1, c - 1⟩, by rw [List.length_cons] at hc; show l.length ≤ c - 1; omega⟩, rfl, ?_⟩)
      have h9 := (hw.facts (F' := F) (fun φ h => .tail _ h)).cutB (oa := oa) (cap := c) (l := x :: l) 1 (by simp) hc ha
      exact h9

structure RuX where
  i : Nat
  n : Nat
  l : List UInt8
  oa : Option Addr
  c : Nat
  e : Int

set_option maxHeartbeats 2000000 in
theorem rUint_spec {b : Nat} {l : List UInt8} {oa : Option Addr} {c : Nat} {e : Int} {M : List HP} {F : List Fact} (ha : ArrF oa (bytesV l) ∈ F) (hc : l.length ≤ c) : Ctr Try.prog 39 [.pointer (some ⟨b, 0, none⟩)] (Box b 105 [.slice oa l.length c, I e] :: M) F {z : RdX // (rdU l e).2.1.length ≤ z.c} (fun _ => U (rdU l e).1) (fun z => Box b 105 [.slice z.1.oa (rdU l e).2.1.length z.1.c, I (rdU l e).2.2] :: M) (fun z => ArrF z.1.oa (bytesV (rdU l e).2.1) :: F) := by
  refine Ctr.body Try.func39 rfl rfl ?_
  refine TR.seq ?_
  refine TR.region ?_
  refine RL.assign rfl rfl rfl ?_
  refine RL.nil ?_
  refine NX.seq ?_
  refine TR.seq ?_
  refine TR.region ?_
  refine RL.assign rfl rfl rfl ?_
  refine RL.nil ?_
  refine NX.seq ?_
  refine TR.seq ?_
  refine TR.seq ?_
  refine TR.region ?_
  refine RL.assign rfl rfl rfl ?_
  refine RL.nil ?_
  refine NX.seq ?_
  refine TR.block ?_
  refine TR.loopP (ι := RuX) (fun x => x.l.length ≤ x.c ∧ rdU l e = (if x.e = 0 then decU x.i x.n x.l else (0, x.l, x.e)) ∧ (x.e = 0 → x.i ≤ 9 ∧ x.n < 2 ^ (7 * x.i))) (fun x => [(0, .pointer (some ⟨b, 0, none⟩)), (3, U x.n), (4, I x.i)]) (fun x => Box b 105 [.slice x.oa x.l.length x.c, I x.e] :: M) (fun x => ArrF x.oa (bytesV x.l) :: F) (fun x => if x.e = 0 then x.l.length + 1 else 0) ⟨0, 0, l, oa, c, e⟩ ⟨hc, rfl, fun _ => ⟨Nat.zero_le _, by simp⟩⟩ ⟨rfl, rfl, rfl, trivial⟩ (fun w hw => hw.addFact (ArrF oa (bytesV l)) (fun K hf => hf _ ha)) (fun x hx => ?_)
  refine TR.seq ?_
  refine TR.seq ?_
  refine TR.region ?_
  refine RL.move rfl rfl rfl ?_
  refine RL.nilCheck rfl rfl rfl ?_
  refine RL.fieldAddr rfl wc_tf105_1 rfl rfl ?_
  refine RL.load1 0 rfl wc_ts39 rfl rfl rfl rfl ?_
  refine RL.bin rfl rfl rfl BinV.eql rfl ?_
  refine RL.nil ?_
  refine NX.seq ?_
  refine TR.cond rfl (fun h1 => ?_) (fun h1 => ?_)
  · skip
    have hxe : x.e = 0 := of_decide_eq_true h1
    have hin := hx.2.2 hxe
    have hru := hx.2.1
    rw [if_pos hxe] at hru
    have hx1 := hx.1
    refine TR.skip ?_
    refine NX.seq ?_
    refine TR.seq ?_
    refine TR.block ?_
    refine TR.seq ?_
    refine TR.region ?_
    rcases hxl : x.l with _ | ⟨cc, l2⟩
    · skip
      refine RL.move rfl rfl rfl ?_
      rw [hxl] at hru hx1
      rw [hxe]
      rw [decU] at hru
      refine RL.call rfl rfl Try.call67 rfl (nextN_spec) (fun _ => ?_)
      refine RL.assign rfl rfl rfl ?_
      refine RL.nil ?_
      refine NX.seq ?_
      refine TR.seq ?_
      refine TR.seq ?_
      refine TR.region ?_
      refine RL.move rfl rfl rfl ?_
      refine RL.bin rfl rfl rfl BinV.eql rfl ?_
      refine RL.move rfl rfl rfl ?_
      refine RL.part (fun h2 => ?_) (fun h2 => ?_)
      · skip
        have h62 : (x.i : Int) = 9 := of_decide_eq_true h2
        refine RL.move rfl rfl rfl ?_
        refine RL.bin rfl rfl rfl BinV.gtr rfl ?_
        refine RL.pickT rfl rfl rfl rfl ?_
        refine RL.move rfl rfl rfl ?_
        refine RL.part (fun h3 => ?_) (fun h3 => ?_)
        · skip
          have h66 := of_decide_eq_true h3
          refine RL.skip rfl rfl rfl ?_
          refine RL.skip rfl rfl rfl ?_
          refine RL.skip rfl rfl rfl ?_
          refine RL.skip rfl rfl rfl ?_
          refine RL.skip rfl rfl rfl ?_
          refine RL.skip rfl rfl rfl ?_
          refine RL.pickT rfl rfl rfl rfl ?_
          refine RL.nil ?_
          refine NX.seq ?_
          refine TR.condT rfl ?_
          refine TR.region ?_
          refine RL.move rfl rfl rfl ?_
          refine RL.call rfl rfl Try.call68 rfl (fail_spec) (fun _ => ?_)
          refine RL.nil ?_
          refine NX.seq ?_
          refine TR.seq ?_
          refine TR.region ?_
          refine RL.move rfl rfl rfl ?_
          refine RL.move rfl rfl rfl ?_
          refine RL.bin rfl rfl rfl (BinV.clear7 (a := 0) (by omega)) rfl ?_
          refine RL.conv rfl rfl (ConvV.bu wc_ti5 wc_ti65 (by omega)) rfl ?_
          refine RL.move rfl rfl rfl ?_
          refine RL.bin rfl rfl rfl (BinV.mul ((7 * x.i : Nat) : Int) (by omega) (by omega) (by omega)) rfl ?_
          refine RL.bin rfl rfl rfl (BinV.shlU (s := 7 * x.i) (by omega)) rfl ?_
          refine RL.bin rfl rfl rfl (BinV.orU (Nat.lt_of_lt_of_le hin.2 (Nat.pow_le_pow_right (by omega) (show 7 * x.i ≤ 64 by omega))) (Nat.mod_lt _ (by omega))) rfl ?_
          refine RL.assign rfl rfl rfl ?_
          refine RL.nil ?_
          refine NX.seq ?_
          refine TR.seq ?_
          refine TR.region ?_
          refine RL.move rfl rfl rfl ?_
          refine RL.bin rfl rfl rfl BinV.lss rfl ?_
          refine RL.move rfl rfl rfl ?_
          refine RL.part (fun h4 => ?_) (fun h4 => ?_)
          · skip
            have h92 := h4
            refine RL.move rfl rfl rfl ?_
            refine RL.nilCheck rfl rfl rfl ?_
            refine RL.fieldAddr rfl wc_tf105_1 rfl rfl ?_
            refine RL.load1 0 rfl wc_ts39 rfl rfl rfl rfl ?_
            refine RL.bin rfl rfl rfl BinV.eql rfl ?_
            refine RL.pickT rfl rfl rfl rfl ?_
            refine RL.nil ?_
            refine NX.seq ?_
            refine TR.cond rfl (fun h5 => ?_) (fun h5 => ?_)
            · skip
              exact absurd (of_decide_eq_true h5) (by decide)
            · skip
              refine TR.skip ?_
              refine NX.off ?_
              refine NX.seq ?_
              refine TR.region ?_
              refine RL.move rfl rfl rfl ?_
              refine RL.bin rfl rfl rfl (BinV.add _ rfl (by omega) (by omega)) rfl ?_
              refine RL.assign rfl rfl rfl ?_
              refine RL.nil ?_
              refine NX.roundP ⟨x.i + 1, (x.n ||| (0 % 128 * 2 ^ (7 * x.i) % 18446744073709551616)), [], x.oa, x.c, 3⟩ ⟨Nat.zero_le _, ?_, fun h => absurd (show (3 : Int) = 0 from h) (by decide)⟩ (by simp) ⟨rfl, rfl, rfl, trivial⟩ (fun w hw => hw)
              · show rdU l e = if (3 : Int) = 0 then _ else (0, [], 3)
                rw [if_neg (by decide)]; exact hru
          · skip
            have h92 := h4
            refine RL.skip rfl rfl rfl ?_
            refine RL.skip rfl rfl rfl ?_
            refine RL.skip rfl rfl rfl ?_
            refine RL.skip rfl rfl rfl ?_
            refine RL.skip rfl rfl rfl ?_
            refine RL.pickF rfl rfl rfl rfl ?_
            refine RL.nil ?_
            refine NX.seq ?_
            refine TR.condF rfl ?_
            refine TR.skip ?_
            refine NX.off ?_
            refine NX.seq ?_
            refine TR.region ?_
            refine RL.move rfl rfl rfl ?_
            refine RL.bin rfl rfl rfl (BinV.add _ rfl (by omega) (by omega)) rfl ?_
            refine RL.assign rfl rfl rfl ?_
            refine RL.nil ?_
            refine NX.roundP ⟨x.i + 1, (x.n ||| (0 % 128 * 2 ^ (7 * x.i) % 18446744073709551616)), [], x.oa, x.c, 3⟩ ⟨Nat.zero_le _, ?_, fun h => absurd (show (3 : Int) = 0 from h) (by decide)⟩ (by simp) ⟨rfl, rfl, rfl, trivial⟩ (fun w hw => hw)
            · show rdU l e = if (3 : Int) = 0 then _ else (0, [], 3)
              rw [if_neg (by decide)]; exact hru
        · skip
          have h66 := of_decide_eq_false h3
          refine RL.move rfl rfl rfl ?_
          refine RL.bin rfl rfl rfl BinV.gtr rfl ?_
          refine RL.move rfl rfl rfl ?_
          refine RL.part (fun h6 => ?_) (fun h6 => ?_)
          · skip
            have h69 := of_decide_eq_true h6
            refine RL.move rfl rfl rfl ?_
            refine RL.bin rfl rfl rfl BinV.eql rfl ?_
            refine RL.pickT rfl rfl rfl rfl ?_
            refine RL.pickF rfl rfl rfl rfl ?_
            refine RL.nil ?_
            refine NX.seq ?_
            refine TR.cond rfl (fun h7 => ?_) (fun h7 => ?_)
            · skip
              have h28 := of_decide_eq_true h7
              refine TR.region ?_
              refine RL.move rfl rfl rfl ?_
              refine RL.call rfl rfl Try.call68 rfl (fail_spec) (fun _ => ?_)
              refine RL.nil ?_
              refine NX.seq ?_
              refine TR.seq ?_
              refine TR.region ?_
              refine RL.move rfl rfl rfl ?_
              refine RL.move rfl rfl rfl ?_
              refine RL.bin rfl rfl rfl (BinV.clear7 (a := 0) (by omega)) rfl ?_
              refine RL.conv rfl rfl (ConvV.bu wc_ti5 wc_ti65 (by omega)) rfl ?_
              refine RL.move rfl rfl rfl ?_
              refine RL.bin rfl rfl rfl (BinV.mul ((7 * x.i : Nat) : Int) (by omega) (by omega) (by omega)) rfl ?_
              refine RL.bin rfl rfl rfl (BinV.shlU (s := 7 * x.i) (by omega)) rfl ?_
              refine RL.bin rfl rfl rfl (BinV.orU (Nat.lt_of_lt_of_le hin.2 (Nat.pow_le_pow_right (by omega) (show 7 * x.i ≤ 64 by omega))) (Nat.mod_lt _ (by omega))) rfl ?_
              refine RL.assign rfl rfl rfl ?_
              refine RL.nil ?_
              refine NX.seq ?_
              refine TR.seq ?_
              refine TR.region ?_
              refine RL.move rfl rfl rfl ?_
              refine RL.bin rfl rfl rfl BinV.lss rfl ?_
              refine RL.move rfl rfl rfl ?_
              refine RL.part (fun h8 => ?_) (fun h8 => ?_)
              · skip
                have h92 := h8
                refine RL.move rfl rfl rfl ?_
                refine RL.nilCheck rfl rfl rfl ?_
                refine RL.fieldAddr rfl wc_tf105_1 rfl rfl ?_
                refine RL.load1 0 rfl wc_ts39 rfl rfl rfl rfl ?_
                refine RL.bin rfl rfl rfl BinV.eql rfl ?_
                refine RL.pickT rfl rfl rfl rfl ?_
                refine RL.nil ?_
                refine NX.seq ?_
                refine TR.cond rfl (fun h9 => ?_) (fun h9 => ?_)
                · skip
                  exact absurd (of_decide_eq_true h9) (by decide)
                · skip
                  refine TR.skip ?_
                  refine NX.off ?_
                  refine NX.seq ?_
                  refine TR.region ?_
                  refine RL.move rfl rfl rfl ?_
                  refine RL.bin rfl rfl rfl (BinV.add _ rfl (by omega) (by omega)) rfl ?_
                  refine RL.assign rfl rfl rfl ?_
                  refine RL.nil ?_
                  refine NX.roundP ⟨x.i + 1, (x.n ||| (0 % 128 * 2 ^ (7 * x.i) % 18446744073709551616)), [], x.oa, x.c, 3⟩ ⟨Nat.zero_le _, ?_, fun h => absurd (show (3 : Int) = 0 from h) (by decide)⟩ (by simp) ⟨rfl, rfl, rfl, trivial⟩ (fun w hw => hw)
                  · show rdU l e = if (3 : Int) = 0 then _ else (0, [], 3)
                    rw [if_neg (by decide)]; exact hru
              · skip
                have h92 := h8
                refine RL.skip rfl rfl rfl ?_
                refine RL.skip rfl rfl rfl ?_
                refine RL.skip rfl rfl rfl ?_
                refine RL.skip rfl rfl rfl ?_
                refine RL.skip rfl rfl rfl ?_
                refine RL.pickF rfl rfl rfl rfl ?_
                refine RL.nil ?_
                refine NX.seq ?_
                refine TR.condF rfl ?_
                refine TR.skip ?_
                refine NX.off ?_
                refine NX.seq ?_
                refine TR.region ?_
                refine RL.move rfl rfl rfl ?_
                refine RL.bin rfl rfl rfl (BinV.add _ rfl (by omega) (by omega)) rfl ?_
                refine RL.assign rfl rfl rfl ?_
                refine RL.nil ?_
                refine NX.roundP ⟨x.i + 1, (x.n ||| (0 % 128 * 2 ^ (7 * x.i) % 18446744073709551616)), [], x.oa, x.c, 3⟩ ⟨Nat.zero_le _, ?_, fun h => absurd (show (3 : Int) = 0 from h) (by decide)⟩ (by simp) ⟨rfl, rfl, rfl, trivial⟩ (fun w hw => hw)
                · show rdU l e = if (3 : Int) = 0 then _ else (0, [], 3)
                  rw [if_neg (by decide)]; exact hru
            · skip
              have h28 := of_decide_eq_false h7
              refine TR.skip ?_
              refine NX.seq ?_
              refine TR.seq ?_
              refine TR.region ?_
              refine RL.move rfl rfl rfl ?_
              refine RL.move rfl rfl rfl ?_
              refine RL.bin rfl rfl rfl (BinV.clear7 (a := 0) (by omega)) rfl ?_
              refine RL.conv rfl rfl (ConvV.bu wc_ti5 wc_ti65 (by omega)) rfl ?_
              refine RL.move rfl rfl rfl ?_
              refine RL.bin rfl rfl rfl (BinV.mul ((7 * x.i : Nat) : Int) (by omega) (by omega) (by omega)) rfl ?_
              refine RL.bin rfl rfl rfl (BinV.shlU (s := 7 * x.i) (by omega)) rfl ?_
              refine RL.bin rfl rfl rfl (BinV.orU (Nat.lt_of_lt_of_le hin.2 (Nat.pow_le_pow_right (by omega) (show 7 * x.i ≤ 64 by omega))) (Nat.mod_lt _ (by omega))) rfl ?_
              refine RL.assign rfl rfl rfl ?_
              refine RL.nil ?_
              refine NX.seq ?_
              refine TR.seq ?_
              refine TR.region ?_
              refine RL.move rfl rfl rfl ?_
              refine RL.bin rfl rfl rfl BinV.lss rfl ?_
              refine RL.move rfl rfl rfl ?_
              refine RL.part (fun h10 => ?_) (fun h10 => ?_)
              · skip
                have h92 := h10
                refine RL.move rfl rfl rfl ?_
                refine RL.nilCheck rfl rfl rfl ?_
                refine RL.fieldAddr rfl wc_tf105_1 rfl rfl ?_
                refine RL.load1 0 rfl wc_ts39 rfl rfl rfl rfl ?_
                refine RL.bin rfl rfl rfl BinV.eql rfl ?_
                refine RL.pickT rfl rfl rfl rfl ?_
                refine RL.nil ?_
                refine NX.seq ?_
                refine TR.cond rfl (fun h11 => ?_) (fun h11 => ?_)
                · skip
                  exact absurd (of_decide_eq_true h11) (by decide)
                · skip
                  refine TR.skip ?_
                  refine NX.off ?_
                  refine NX.seq ?_
                  refine TR.region ?_
                  refine RL.move rfl rfl rfl ?_
                  refine RL.bin rfl rfl rfl (BinV.add _ rfl (by omega) (by omega)) rfl ?_
                  refine RL.assign rfl rfl rfl ?_
                  refine RL.nil ?_
                  refine NX.roundP ⟨x.i + 1, (x.n ||| (0 % 128 * 2 ^ (7 * x.i) % 18446744073709551616)), [], x.oa, x.c, 3⟩ ⟨Nat.zero_le _, ?_, fun h => absurd (show (3 : Int) = 0 from h) (by decide)⟩ (by simp) ⟨rfl, rfl, rfl, trivial⟩ (fun w hw => hw)
                  · show rdU l e = if (3 : Int) = 0 then _ else (0, [], 3)
                    rw [if_neg (by decide)]; exact hru
              · skip
                have h92 := h10
                refine RL.skip rfl rfl rfl ?_
                refine RL.skip rfl rfl rfl ?_
                refine RL.skip rfl rfl rfl ?_
                refine RL.skip rfl rfl rfl ?_
                refine RL.skip rfl rfl rfl ?_
                refine RL.pickF rfl rfl rfl rfl ?_
                refine RL.nil ?_
                refine NX.seq ?_
                refine TR.condF rfl ?_
                refine TR.skip ?_
                refine NX.off ?_
                refine NX.seq ?_
                refine TR.region ?_
                refine RL.move rfl rfl rfl ?_
                refine RL.bin rfl rfl rfl (BinV.add _ rfl (by omega) (by omega)) rfl ?_
                refine RL.assign rfl rfl rfl ?_
                refine RL.nil ?_
                refine NX.roundP ⟨x.i + 1, (x.n ||| (0 % 128 * 2 ^ (7 * x.i) % 18446744073709551616)), [], x.oa, x.c, 3⟩ ⟨Nat.zero_le _, ?_, fun h => absurd (show (3 : Int) = 0 from h) (by decide)⟩ (by simp) ⟨rfl, rfl, rfl, trivial⟩ (fun w hw => hw)
                · show rdU l e = if (3 : Int) = 0 then _ else (0, [], 3)
                  rw [if_neg (by decide)]; exact hru
          · skip
            have h69 := of_decide_eq_false h6
            refine RL.skip rfl rfl rfl ?_
            refine RL.skip rfl rfl rfl ?_
            refine RL.pickF rfl rfl rfl rfl ?_
            refine RL.pickF rfl rfl rfl rfl ?_
            refine RL.nil ?_
            refine NX.seq ?_
            refine TR.condF rfl ?_
            refine TR.skip ?_
            refine NX.seq ?_
            refine TR.seq ?_
            refine TR.region ?_
            refine RL.move rfl rfl rfl ?_
            refine RL.move rfl rfl rfl ?_
            refine RL.bin rfl rfl rfl (BinV.clear7 (a := 0) (by omega)) rfl ?_
            refine RL.conv rfl rfl (ConvV.bu wc_ti5 wc_ti65 (by omega)) rfl ?_
            refine RL.move rfl rfl rfl ?_
            refine RL.bin rfl rfl rfl (BinV.mul ((7 * x.i : Nat) : Int) (by omega) (by omega) (by omega)) rfl ?_
            refine RL.bin rfl rfl rfl (BinV.shlU (s := 7 * x.i) (by omega)) rfl ?_
            refine RL.bin rfl rfl rfl (BinV.orU (Nat.lt_of_lt_of_le hin.2 (Nat.pow_le_pow_right (by omega) (show 7 * x.i ≤ 64 by omega))) (Nat.mod_lt _ (by omega))) rfl ?_
            refine RL.assign rfl rfl rfl ?_
            refine RL.nil ?_
            refine NX.seq ?_
            refine TR.seq ?_
            refine TR.region ?_
            refine RL.move rfl rfl rfl ?_
            refine RL.bin rfl rfl rfl BinV.lss rfl ?_
            refine RL.move rfl rfl rfl ?_
            refine RL.part (fun h12 => ?_) (fun h12 => ?_)
            · skip
              have h92 := h12
              refine RL.move rfl rfl rfl ?_
              refine RL.nilCheck rfl rfl rfl ?_
              refine RL.fieldAddr rfl wc_tf105_1 rfl rfl ?_
              refine RL.load1 0 rfl wc_ts39 rfl rfl rfl rfl ?_
              refine RL.bin rfl rfl rfl BinV.eql rfl ?_
              refine RL.pickT rfl rfl rfl rfl ?_
              refine RL.nil ?_
              refine NX.seq ?_
              refine TR.cond rfl (fun h13 => ?_) (fun h13 => ?_)
              · skip
                exact absurd (of_decide_eq_true h13) (by decide)
              · skip
                refine TR.skip ?_
                refine NX.off ?_
                refine NX.seq ?_
                refine TR.region ?_
                refine RL.move rfl rfl rfl ?_
                refine RL.bin rfl rfl rfl (BinV.add _ rfl (by omega) (by omega)) rfl ?_
                refine RL.assign rfl rfl rfl ?_
                refine RL.nil ?_
                refine NX.roundP ⟨x.i + 1, (x.n ||| (0 % 128 * 2 ^ (7 * x.i) % 18446744073709551616)), [], x.oa, x.c, 3⟩ ⟨Nat.zero_le _, ?_, fun h => absurd (show (3 : Int) = 0 from h) (by decide)⟩ (by simp) ⟨rfl, rfl, rfl, trivial⟩ (fun w hw => hw)
                · show rdU l e = if (3 : Int) = 0 then _ else (0, [], 3)
                  rw [if_neg (by decide)]; exact hru
            · skip
              have h92 := h12
              refine RL.skip rfl rfl rfl ?_
              refine RL.skip rfl rfl rfl ?_
              refine RL.skip rfl rfl rfl ?_
              refine RL.skip rfl rfl rfl ?_
              refine RL.skip rfl rfl rfl ?_
              refine RL.pickF rfl rfl rfl rfl ?_
              refine RL.nil ?_
              refine NX.seq ?_
              refine TR.condF rfl ?_
              refine TR.skip ?_
              refine NX.off ?_
              refine NX.seq ?_
              refine TR.region ?_
              refine RL.move rfl rfl rfl ?_
              refine RL.bin rfl rfl rfl (BinV.add _ rfl (by omega) (by omega)) rfl ?_
              refine RL.assign rfl rfl rfl ?_
              refine RL.nil ?_
              refine NX.roundP ⟨x.i + 1, (x.n ||| (0 % 128 * 2 ^ (7 * x.i) % 18446744073709551616)), [], x.oa, x.c, 3⟩ ⟨Nat.zero_le _, ?_, fun h => absurd (show (3 : Int) = 0 from h) (by decide)⟩ (by simp) ⟨rfl, rfl, rfl, trivial⟩ (fun w hw => hw)
              · show rdU l e = if (3 : Int) = 0 then _ else (0, [], 3)
                rw [if_neg (by decide)]; exact hru
      · skip
        have h62 : ¬ (x.i : Int) = 9 := of_decide_eq_false h2
        refine RL.skip rfl rfl rfl ?_
        refine RL.skip rfl rfl rfl ?_
        refine RL.pickF rfl rfl rfl rfl ?_
        refine RL.move rfl rfl rfl ?_
        refine RL.move rfl rfl rfl ?_
        refine RL.bin rfl rfl rfl BinV.gtr rfl ?_
        refine RL.move rfl rfl rfl ?_
        refine RL.part (fun h14 => ?_) (fun h14 => ?_)
        · skip
          have h69 := of_decide_eq_true h14
          refine RL.move rfl rfl rfl ?_
          refine RL.bin rfl rfl rfl BinV.eql rfl ?_
          refine RL.pickT rfl rfl rfl rfl ?_
          refine RL.pickF rfl rfl rfl rfl ?_
          refine RL.nil ?_
          refine NX.seq ?_
          refine TR.cond rfl (fun h15 => ?_) (fun h15 => ?_)
          · skip
            have h28 := of_decide_eq_true h15
            refine TR.region ?_
            refine RL.move rfl rfl rfl ?_
            refine RL.call rfl rfl Try.call68 rfl (fail_spec) (fun _ => ?_)
            refine RL.nil ?_
            refine NX.seq ?_
            refine TR.seq ?_
            refine TR.region ?_
            refine RL.move rfl rfl rfl ?_
            refine RL.move rfl rfl rfl ?_
            refine RL.bin rfl rfl rfl (BinV.clear7 (a := 0) (by omega)) rfl ?_
            refine RL.conv rfl rfl (ConvV.bu wc_ti5 wc_ti65 (by omega)) rfl ?_
            refine RL.move rfl rfl rfl ?_
            refine RL.bin rfl rfl rfl (BinV.mul ((7 * x.i : Nat) : Int) (by omega) (by omega) (by omega)) rfl ?_
            refine RL.bin rfl rfl rfl (BinV.shlU (s := 7 * x.i) (by omega)) rfl ?_
            refine RL.bin rfl rfl rfl (BinV.orU (Nat.lt_of_lt_of_le hin.2 (Nat.pow_le_pow_right (by omega) (show 7 * x.i ≤ 64 by omega))) (Nat.mod_lt _ (by omega))) rfl ?_
            refine RL.assign rfl rfl rfl ?_
            refine RL.nil ?_
            refine NX.seq ?_
            refine TR.seq ?_
            refine TR.region ?_
            refine RL.move rfl rfl rfl ?_
            refine RL.bin rfl rfl rfl BinV.lss rfl ?_
            refine RL.move rfl rfl rfl ?_
            refine RL.part (fun h16 => ?_) (fun h16 => ?_)
            · skip
              have h92 := h16
              refine RL.move rfl rfl rfl ?_
              refine RL.nilCheck rfl rfl rfl ?_
              refine RL.fieldAddr rfl wc_tf105_1 rfl rfl ?_
              refine RL.load1 0 rfl wc_ts39 rfl rfl rfl rfl ?_
              refine RL.bin rfl rfl rfl BinV.eql rfl ?_
              refine RL.pickT rfl rfl rfl rfl ?_
              refine RL.nil ?_
              refine NX.seq ?_
              refine TR.cond rfl (fun h17 => ?_) (fun h17 => ?_)
              · skip
                exact absurd (of_decide_eq_true h17) (by decide)
              · skip
                refine TR.skip ?_
                refine NX.off ?_
                refine NX.seq ?_
                refine TR.region ?_
                refine RL.move rfl rfl rfl ?_
                refine RL.bin rfl rfl rfl (BinV.add _ rfl (by omega) (by omega)) rfl ?_
                refine RL.assign rfl rfl rfl ?_
                refine RL.nil ?_
                refine NX.roundP ⟨x.i + 1, (x.n ||| (0 % 128 * 2 ^ (7 * x.i) % 18446744073709551616)), [], x.oa, x.c, 3⟩ ⟨Nat.zero_le _, ?_, fun h => absurd (show (3 : Int) = 0 from h) (by decide)⟩ (by simp) ⟨rfl, rfl, rfl, trivial⟩ (fun w hw => hw)
                · show rdU l e = if (3 : Int) = 0 then _ else (0, [], 3)
                  rw [if_neg (by decide)]; exact hru
            · skip
              have h92 := h16
              refine RL.skip rfl rfl rfl ?_
              refine RL.skip rfl rfl rfl ?_
              refine RL.skip rfl rfl rfl ?_
              refine RL.skip rfl rfl rfl ?_
              refine RL.skip rfl rfl rfl ?_
              refine RL.pickF rfl rfl rfl rfl ?_
              refine RL.nil ?_
              refine NX.seq ?_
              refine TR.condF rfl ?_
              refine TR.skip ?_
              refine NX.off ?_
              refine NX.seq ?_
              refine TR.region ?_
              refine RL.move rfl rfl rfl ?_
              refine RL.bin rfl rfl rfl (BinV.add _ rfl (by omega) (by omega)) rfl ?_
              refine RL.assign rfl rfl rfl ?_
              refine RL.nil ?_
              refine NX.roundP ⟨x.i + 1, (x.n ||| (0 % 128 * 2 ^ (7 * x.i) % 18446744073709551616)), [], x.oa, x.c, 3⟩ ⟨Nat.zero_le _, ?_, fun h => absurd (show (3 : Int) = 0 from h) (by decide)⟩ (by simp) ⟨rfl, rfl, rfl, trivial⟩ (fun w hw => hw)
              · show rdU l e = if (3 : Int) = 0 then _ else (0, [], 3)
                rw [if_neg (by decide)]; exact hru
          · skip
            have h28 := of_decide_eq_false h15
            refine TR.skip ?_
            refine NX.seq ?_
            refine TR.seq ?_
            refine TR.region ?_
            refine RL.move rfl rfl rfl ?_
            refine RL.move rfl rfl rfl ?_
            refine RL.bin rfl rfl rfl (BinV.clear7 (a := 0) (by omega)) rfl ?_
            refine RL.conv rfl rfl (ConvV.bu wc_ti5 wc_ti65 (by omega)) rfl ?_
            refine RL.move rfl rfl rfl ?_
            refine RL.bin rfl rfl rfl (BinV.mul ((7 * x.i : Nat) : Int) (by omega) (by omega) (by omega)) rfl ?_
            refine RL.bin rfl rfl rfl (BinV.shlU (s := 7 * x.i) (by omega)) rfl ?_
            refine RL.bin rfl rfl rfl (BinV.orU (Nat.lt_of_lt_of_le hin.2 (Nat.pow_le_pow_right (by omega) (show 7 * x.i ≤ 64 by omega))) (Nat.mod_lt _ (by omega))) rfl ?_
            refine RL.assign rfl rfl rfl ?_
            refine RL.nil ?_
            refine NX.seq ?_
            refine TR.seq ?_
            refine TR.region ?_
            refine RL.move rfl rfl rfl ?_
            refine RL.bin rfl rfl rfl BinV.lss rfl ?_
            refine RL.move rfl rfl rfl ?_
            refine RL.part (fun h18 => ?_) (fun h18 => ?_)
            · skip
              have h92 := h18
              refine RL.move rfl rfl rfl ?_
              refine RL.nilCheck rfl rfl rfl ?_
              refine RL.fieldAddr rfl wc_tf105_1 rfl rfl ?_
              refine RL.load1 0 rfl wc_ts39 rfl rfl rfl rfl ?_
              refine RL.bin rfl rfl rfl BinV.eql rfl ?_
              refine RL.pickT rfl rfl rfl rfl ?_
              refine RL.nil ?_
              refine NX.seq ?_
              refine TR.cond rfl (fun h19 => ?_) (fun h19 => ?_)
              · skip
                exact absurd (of_decide_eq_true h19) (by decide)
              · skip
                refine TR.skip ?_
                refine NX.off ?_
                refine NX.seq ?_
                refine TR.region ?_
                refine RL.move rfl rfl rfl ?_
                refine RL.bin rfl rfl rfl (BinV.add _ rfl (by omega) (by omega)) rfl ?_
                refine RL.assign rfl rfl rfl ?_
                refine RL.nil ?_
                refine NX.roundP ⟨x.i + 1, (x.n ||| (0 % 128 * 2 ^ (7 * x.i) % 18446744073709551616)), [], x.oa, x.c, 3⟩ ⟨Nat.zero_le _, ?_, fun h => absurd (show (3 : Int) = 0 from h) (by decide)⟩ (by simp) ⟨rfl, rfl, rfl, trivial⟩ (fun w hw => hw)
                · show rdU l e = if (3 : Int) = 0 then _ else (0, [], 3)
                  rw [if_neg (by decide)]; exact hru
            · skip
              have h92 := h18
              refine RL.skip rfl rfl rfl ?_
              refine RL.skip rfl rfl rfl ?_
              refine RL.skip rfl rfl rfl ?_
              refine RL.skip rfl rfl rfl ?_
              refine RL.skip rfl rfl rfl ?_
              refine RL.pickF rfl rfl rfl rfl ?_
              refine RL.nil ?_
              refine NX.seq ?_
              refine TR.condF rfl ?_
              refine TR.skip ?_
              refine NX.off ?_
              refine NX.seq ?_
              refine TR.region ?_
              refine RL.move rfl rfl rfl ?_
              refine RL.bin rfl rfl rfl (BinV.add _ rfl (by omega) (by omega)) rfl ?_
              refine RL.assign rfl rfl rfl ?_
              refine RL.nil ?_
              refine NX.roundP ⟨x.i + 1, (x.n ||| (0 % 128 * 2 ^ (7 * x.i) % 18446744073709551616)), [], x.oa, x.c, 3⟩ ⟨Nat.zero_le _, ?_, fun h => absurd (show (3 : Int) = 0 from h) (by decide)⟩ (by simp) ⟨rfl, rfl, rfl, trivial⟩ (fun w hw => hw)
              · show rdU l e = if (3 : Int) = 0 then _ else (0, [], 3)
                rw [if_neg (by decide)]; exact hru
        · skip
          have h69 := of_decide_eq_false h14
          refine RL.skip rfl rfl rfl ?_
          refine RL.skip rfl rfl rfl ?_
          refine RL.pickF rfl rfl rfl rfl ?_
          refine RL.pickF rfl rfl rfl rfl ?_
          refine RL.nil ?_
          refine NX.seq ?_
          refine TR.condF rfl ?_
          refine TR.skip ?_
          refine NX.seq ?_
          refine TR.seq ?_
          refine TR.region ?_
          refine RL.move rfl rfl rfl ?_
          refine RL.move rfl rfl rfl ?_
          refine RL.bin rfl rfl rfl (BinV.clear7 (a := 0) (by omega)) rfl ?_
          refine RL.conv rfl rfl (ConvV.bu wc_ti5 wc_ti65 (by omega)) rfl ?_
          refine RL.move rfl rfl rfl ?_
          refine RL.bin rfl rfl rfl (BinV.mul ((7 * x.i : Nat) : Int) (by omega) (by omega) (by omega)) rfl ?_
          refine RL.bin rfl rfl rfl (BinV.shlU (s := 7 * x.i) (by omega)) rfl ?_
          refine RL.bin rfl rfl rfl (BinV.orU (Nat.lt_of_lt_of_le hin.2 (Nat.pow_le_pow_right (by omega) (show 7 * x.i ≤ 64 by omega))) (Nat.mod_lt _ (by omega))) rfl ?_
          refine RL.assign rfl rfl rfl ?_
          refine RL.nil ?_
          refine NX.seq ?_
          refine TR.seq ?_
          refine TR.region ?_
          refine RL.move rfl rfl rfl ?_
          refine RL.bin rfl rfl rfl BinV.lss rfl ?_
          refine RL.move rfl rfl rfl ?_
          refine RL.part (fun h20 => ?_) (fun h20 => ?_)
          · skip
            have h92 := h20
            refine RL.move rfl rfl rfl ?_
            refine RL.nilCheck rfl rfl rfl ?_
            refine RL.fieldAddr rfl wc_tf105_1 rfl rfl ?_
            refine RL.load1 0 rfl wc_ts39 rfl rfl rfl rfl ?_
            refine RL.bin rfl rfl rfl BinV.eql rfl ?_
            refine RL.pickT rfl rfl rfl rfl ?_
            refine RL.nil ?_
            refine NX.seq ?_
            refine TR.cond rfl (fun h21 => ?_) (fun h21 => ?_)
            · skip
              exact absurd (of_decide_eq_true h21) (by decide)
            · skip
              refine TR.skip ?_
              refine NX.off ?_
              refine NX.seq ?_
              refine TR.region ?_
              refine RL.move rfl rfl rfl ?_
              refine RL.bin rfl rfl rfl (BinV.add _ rfl (by omega) (by omega)) rfl ?_
              refine RL.assign rfl rfl rfl ?_
              refine RL.nil ?_
              refine NX.roundP ⟨x.i + 1, (x.n ||| (0 % 128 * 2 ^ (7 * x.i) % 18446744073709551616)), [], x.oa, x.c, 3⟩ ⟨Nat.zero_le _, ?_, fun h => absurd (show (3 : Int) = 0 from h) (by decide)⟩ (by simp) ⟨rfl, rfl, rfl, trivial⟩ (fun w hw => hw)
              · show rdU l e = if (3 : Int) = 0 then _ else (0, [], 3)
                rw [if_neg (by decide)]; exact hru
          · skip
            have h92 := h20
            refine RL.skip rfl rfl rfl ?_
            refine RL.skip rfl rfl rfl ?_
            refine RL.skip rfl rfl rfl ?_
            refine RL.skip rfl rfl rfl ?_
            refine RL.skip rfl rfl rfl ?_
            refine RL.pickF rfl rfl rfl rfl ?_
            refine RL.nil ?_
            refine NX.seq ?_
            refine TR.condF rfl ?_
            refine TR.skip ?_
            refine NX.off ?_
            refine NX.seq ?_
            refine TR.region ?_
            refine RL.move rfl rfl rfl ?_
            refine RL.bin rfl rfl rfl (BinV.add _ rfl (by omega) (by omega)) rfl ?_
            refine RL.assign rfl rfl rfl ?_
            refine RL.nil ?_
            refine NX.roundP ⟨x.i + 1, (x.n ||| (0 % 128 * 2 ^ (7 * x.i) % 18446744073709551616)), [], x.oa, x.c, 3⟩ ⟨Nat.zero_le _, ?_, fun h => absurd (show (3 : Int) = 0 from h) (by decide)⟩ (by simp) ⟨rfl, rfl, rfl, trivial⟩ (fun w hw => hw)
            · show rdU l e = if (3 : Int) = 0 then _ else (0, [], 3)
              rw [if_neg (by decide)]; exact hru
    · skip
      refine RL.move rfl rfl rfl ?_
      rw [hxl] at hru hx1
      rw [hxe]
      have hcl : (cc :: l2).length ≤ x.c := hx1
      have hcb := cc.toNat_lt
      refine RL.call rfl rfl Try.call67 rfl (nextC_spec (x := cc) (l := l2) (.head _) hcl) (fun y => ?_)
      refine RL.assign rfl rfl rfl ?_
      refine RL.nil ?_
      refine NX.seq ?_
      refine TR.seq ?_
      refine TR.seq ?_
      refine TR.region ?_
      refine RL.move rfl rfl rfl ?_
      refine RL.bin rfl rfl rfl BinV.eql rfl ?_
      refine RL.move rfl rfl rfl ?_
      refine RL.part (fun h22 => ?_) (fun h22 => ?_)
      · skip
        have h62 : (x.i : Int) = 9 := of_decide_eq_true h22
        refine RL.move rfl rfl rfl ?_
        refine RL.bin rfl rfl rfl BinV.gtr rfl ?_
        refine RL.pickT rfl rfl rfl rfl ?_
        refine RL.move rfl rfl rfl ?_
        refine RL.part (fun h23 => ?_) (fun h23 => ?_)
        · skip
          have h66 := of_decide_eq_true h23
          refine RL.skip rfl rfl rfl ?_
          refine RL.skip rfl rfl rfl ?_
          refine RL.skip rfl rfl rfl ?_
          refine RL.skip rfl rfl rfl ?_
          refine RL.skip rfl rfl rfl ?_
          refine RL.skip rfl rfl rfl ?_
          refine RL.pickT rfl rfl rfl rfl ?_
          refine RL.nil ?_
          refine NX.seq ?_
          refine TR.condT rfl ?_
          refine TR.region ?_
          refine RL.move rfl rfl rfl ?_
          refine RL.call rfl rfl Try.call68 rfl (fail_spec) (fun _ => ?_)
          refine RL.nil ?_
          refine NX.seq ?_
          refine TR.seq ?_
          refine TR.region ?_
          refine RL.move rfl rfl rfl ?_
          refine RL.move rfl rfl rfl ?_
          refine RL.bin rfl rfl rfl (BinV.clear7 (a := cc.toNat) (by have := cc.toNat_lt; omega)) rfl ?_
          refine RL.conv rfl rfl (ConvV.bu wc_ti5 wc_ti65 (by omega)) rfl ?_
          refine RL.move rfl rfl rfl ?_
          refine RL.bin rfl rfl rfl (BinV.mul ((7 * x.i : Nat) : Int) (by omega) (by omega) (by omega)) rfl ?_
          refine RL.bin rfl rfl rfl (BinV.shlU (s := 7 * x.i) (by omega)) rfl ?_
          refine RL.bin rfl rfl rfl (BinV.orU (Nat.lt_of_lt_of_le hin.2 (Nat.pow_le_pow_right (by omega) (show 7 * x.i ≤ 64 by omega))) (Nat.mod_lt _ (by omega))) rfl ?_
          refine RL.assign rfl rfl rfl ?_
          refine RL.nil ?_
          refine NX.seq ?_
          refine TR.seq ?_
          refine TR.region ?_
          refine RL.move rfl rfl rfl ?_
          refine RL.bin rfl rfl rfl BinV.lss rfl ?_
          refine RL.move rfl rfl rfl ?_
          refine RL.part (fun h24 => ?_) (fun h24 => ?_)
          · skip
            have h92 := h24
            refine RL.move rfl rfl rfl ?_
            refine RL.nilCheck rfl rfl rfl ?_
            refine RL.fieldAddr rfl wc_tf105_1 rfl rfl ?_
            refine RL.load1 0 rfl wc_ts39 rfl rfl rfl rfl ?_
            refine RL.bin rfl rfl rfl BinV.eql rfl ?_
            refine RL.pickT rfl rfl rfl rfl ?_
            refine RL.nil ?_
            refine NX.seq ?_
            refine TR.cond rfl (fun h25 => ?_) (fun h25 => ?_)
            · skip
              exact absurd (of_decide_eq_true h25) (by decide)
            · skip
              refine TR.skip ?_
              refine NX.off ?_
              refine NX.seq ?_
              refine TR.region ?_
              refine RL.move rfl rfl rfl ?_
              refine RL.bin rfl rfl rfl (BinV.add _ rfl (by omega) (by omega)) rfl ?_
              refine RL.assign rfl rfl rfl ?_
              refine RL.nil ?_
              have hb : badU x.i cc := by unfold badU; omega
              refine NX.roundP ⟨x.i + 1, (x.n ||| (cc.toNat % 128 * 2 ^ (7 * x.i) % 18446744073709551616)), l2, y.1.oa, y.1.c, 2⟩ ⟨y.2, ?_, fun h => absurd (show (2 : Int) = 0 from h) (by decide)⟩ (by simp) ⟨rfl, rfl, rfl, trivial⟩ (fun w hw => hw.facts (fun φ h => by
                rcases List.mem_cons.1 h with e | h
                · subst e; exact .head _
                · exact .tail _ (.tail _ h)))
              · show rdU l e = if (2 : Int) = 0 then _ else (0, l2, 2)
                rw [if_neg (by decide), hru, decU_bad hb]
          · skip
            have h92 := h24
            refine RL.skip rfl rfl rfl ?_
            refine RL.skip rfl rfl rfl ?_
            refine RL.skip rfl rfl rfl ?_
            refine RL.skip rfl rfl rfl ?_
            refine RL.skip rfl rfl rfl ?_
            refine RL.pickF rfl rfl rfl rfl ?_
            refine RL.nil ?_
            refine NX.seq ?_
            refine TR.condF rfl ?_
            refine TR.skip ?_
            refine NX.off ?_
            refine NX.seq ?_
            refine TR.region ?_
            refine RL.move rfl rfl rfl ?_
            refine RL.bin rfl rfl rfl (BinV.add _ rfl (by omega) (by omega)) rfl ?_
            refine RL.assign rfl rfl rfl ?_
            refine RL.nil ?_
            have hb : badU x.i cc := by unfold badU; omega
            refine NX.roundP ⟨x.i + 1, (x.n ||| (cc.toNat % 128 * 2 ^ (7 * x.i) % 18446744073709551616)), l2, y.1.oa, y.1.c, 2⟩ ⟨y.2, ?_, fun h => absurd (show (2 : Int) = 0 from h) (by decide)⟩ (by simp) ⟨rfl, rfl, rfl, trivial⟩ (fun w hw => hw.facts (fun φ h => by
              rcases List.mem_cons.1 h with e | h
              · subst e; exact .head _
              · exact .tail _ (.tail _ h)))
            · show rdU l e = if (2 : Int) = 0 then _ else (0, l2, 2)
              rw [if_neg (by decide), hru, decU_bad hb]
        · skip
          have h66 := of_decide_eq_false h23
          refine RL.move rfl rfl rfl ?_
          refine RL.bin rfl rfl rfl BinV.gtr rfl ?_
          refine RL.move rfl rfl rfl ?_
          refine RL.part (fun h26 => ?_) (fun h26 => ?_)
          · skip
            have h69 := of_decide_eq_true h26
            refine RL.move rfl rfl rfl ?_
            refine RL.bin rfl rfl rfl BinV.eql rfl ?_
            refine RL.pickT rfl rfl rfl rfl ?_
            refine RL.pickF rfl rfl rfl rfl ?_
            refine RL.nil ?_
            refine NX.seq ?_
            refine TR.cond rfl (fun h27 => ?_) (fun h27 => ?_)
            · skip
              have h28 := of_decide_eq_true h27
              refine TR.region ?_
              refine RL.move rfl rfl rfl ?_
              refine RL.call rfl rfl Try.call68 rfl (fail_spec) (fun _ => ?_)
              refine RL.nil ?_
              refine NX.seq ?_
              refine TR.seq ?_
              refine TR.region ?_
              refine RL.move rfl rfl rfl ?_
              refine RL.move rfl rfl rfl ?_
              refine RL.bin rfl rfl rfl (BinV.clear7 (a := cc.toNat) (by have := cc.toNat_lt; omega)) rfl ?_
              refine RL.conv rfl rfl (ConvV.bu wc_ti5 wc_ti65 (by omega)) rfl ?_
              refine RL.move rfl rfl rfl ?_
              refine RL.bin rfl rfl rfl (BinV.mul ((7 * x.i : Nat) : Int) (by omega) (by omega) (by omega)) rfl ?_
              refine RL.bin rfl rfl rfl (BinV.shlU (s := 7 * x.i) (by omega)) rfl ?_
              refine RL.bin rfl rfl rfl (BinV.orU (Nat.lt_of_lt_of_le hin.2 (Nat.pow_le_pow_right (by omega) (show 7 * x.i ≤ 64 by omega))) (Nat.mod_lt _ (by omega))) rfl ?_
              refine RL.assign rfl rfl rfl ?_
              refine RL.nil ?_
              refine NX.seq ?_
              refine TR.seq ?_
              refine TR.region ?_
              refine RL.move rfl rfl rfl ?_
              refine RL.bin rfl rfl rfl BinV.lss rfl ?_
              refine RL.move rfl rfl rfl ?_
              refine RL.part (fun h28 => ?_) (fun h28 => ?_)
              · skip
                have h92 := h28
                refine RL.move rfl rfl rfl ?_
                refine RL.nilCheck rfl rfl rfl ?_
                refine RL.fieldAddr rfl wc_tf105_1 rfl rfl ?_
                refine RL.load1 0 rfl wc_ts39 rfl rfl rfl rfl ?_
                refine RL.bin rfl rfl rfl BinV.eql rfl ?_
                refine RL.pickT rfl rfl rfl rfl ?_
                refine RL.nil ?_
                refine NX.seq ?_
                refine TR.cond rfl (fun h29 => ?_) (fun h29 => ?_)
                · skip
                  exact absurd (of_decide_eq_true h29) (by decide)
                · skip
                  refine TR.skip ?_
                  refine NX.off ?_
                  refine NX.seq ?_
                  refine TR.region ?_
                  refine RL.move rfl rfl rfl ?_
                  refine RL.bin rfl rfl rfl (BinV.add _ rfl (by omega) (by omega)) rfl ?_
                  refine RL.assign rfl rfl rfl ?_
                  refine RL.nil ?_
                  have hb : badU x.i cc := by unfold badU; omega
                  refine NX.roundP ⟨x.i + 1, (x.n ||| (cc.toNat % 128 * 2 ^ (7 * x.i) % 18446744073709551616)), l2, y.1.oa, y.1.c, 2⟩ ⟨y.2, ?_, fun h => absurd (show (2 : Int) = 0 from h) (by decide)⟩ (by simp) ⟨rfl, rfl, rfl, trivial⟩ (fun w hw => hw.facts (fun φ h => by
                    rcases List.mem_cons.1 h with e | h
                    · subst e; exact .head _
                    · exact .tail _ (.tail _ h)))
                  · show rdU l e = if (2 : Int) = 0 then _ else (0, l2, 2)
                    rw [if_neg (by decide), hru, decU_bad hb]
              · skip
                have h92 := h28
                refine RL.skip rfl rfl rfl ?_
                refine RL.skip rfl rfl rfl ?_
                refine RL.skip rfl rfl rfl ?_
                refine RL.skip rfl rfl rfl ?_
                refine RL.skip rfl rfl rfl ?_
                refine RL.pickF rfl rfl rfl rfl ?_
                refine RL.nil ?_
                refine NX.seq ?_
                refine TR.condF rfl ?_
                refine TR.skip ?_
                refine NX.off ?_
                refine NX.seq ?_
                refine TR.region ?_
                refine RL.move rfl rfl rfl ?_
                refine RL.bin rfl rfl rfl (BinV.add _ rfl (by omega) (by omega)) rfl ?_
                refine RL.assign rfl rfl rfl ?_
                refine RL.nil ?_
                have hb : badU x.i cc := by unfold badU; omega
                refine NX.roundP ⟨x.i + 1, (x.n ||| (cc.toNat % 128 * 2 ^ (7 * x.i) % 18446744073709551616)), l2, y.1.oa, y.1.c, 2⟩ ⟨y.2, ?_, fun h => absurd (show (2 : Int) = 0 from h) (by decide)⟩ (by simp) ⟨rfl, rfl, rfl, trivial⟩ (fun w hw => hw.facts (fun φ h => by
                  rcases List.mem_cons.1 h with e | h
                  · subst e; exact .head _
                  · exact .tail _ (.tail _ h)))
                · show rdU l e = if (2 : Int) = 0 then _ else (0, l2, 2)
                  rw [if_neg (by decide), hru, decU_bad hb]
            · skip
              have h28 := of_decide_eq_false h27
              refine TR.skip ?_
              refine NX.seq ?_
              refine TR.seq ?_
              refine TR.region ?_
              refine RL.move rfl rfl rfl ?_
              refine RL.move rfl rfl rfl ?_
              refine RL.bin rfl rfl rfl (BinV.clear7 (a := cc.toNat) (by have := cc.toNat_lt; omega)) rfl ?_
              refine RL.conv rfl rfl (ConvV.bu wc_ti5 wc_ti65 (by omega)) rfl ?_
              refine RL.move rfl rfl rfl ?_
              refine RL.bin rfl rfl rfl (BinV.mul ((7 * x.i : Nat) : Int) (by omega) (by omega) (by omega)) rfl ?_
              refine RL.bin rfl rfl rfl (BinV.shlU (s := 7 * x.i) (by omega)) rfl ?_
              refine RL.bin rfl rfl rfl (BinV.orU (Nat.lt_of_lt_of_le hin.2 (Nat.pow_le_pow_right (by omega) (show 7 * x.i ≤ 64 by omega))) (Nat.mod_lt _ (by omega))) rfl ?_
              refine RL.assign rfl rfl rfl ?_
              refine RL.nil ?_
              refine NX.seq ?_
              refine TR.seq ?_
              refine TR.region ?_
              refine RL.move rfl rfl rfl ?_
              refine RL.bin rfl rfl rfl BinV.lss rfl ?_
              refine RL.move rfl rfl rfl ?_
              refine RL.part (fun h30 => ?_) (fun h30 => ?_)
              · skip
                have h92 := h30
                refine RL.move rfl rfl rfl ?_
                refine RL.nilCheck rfl rfl rfl ?_
                refine RL.fieldAddr rfl wc_tf105_1 rfl rfl ?_
                refine RL.load1 0 rfl wc_ts39 rfl rfl rfl rfl ?_
                refine RL.bin rfl rfl rfl BinV.eql rfl ?_
                refine RL.pickT rfl rfl rfl rfl ?_
                refine RL.nil ?_
                refine NX.seq ?_
                refine TR.cond rfl (fun h31 => ?_) (fun h31 => ?_)
                · skip
                  refine TR.seq ?_
                  refine TR.region ?_
                  refine RL.move rfl rfl rfl ?_
                  refine RL.assign rfl rfl rfl ?_
                  refine RL.nil ?_
                  refine NX.seq ?_
                  refine TR.ret ?_
                  refine NX.retBlock ?_
                  refine NX.retThen ?_
                  refine NX.retThen ?_
                  refine NX.retBlock ?_
                  refine NX.retThen ?_
                  have hb : ¬ badU x.i cc := by unfold badU; omega
                  have hc128 : cc.toNat < 128 := by have := of_decide_eq_true h92; omega
                  have hfit := byte_fits hb hin.1 hin.2
                  have hor : (x.n ||| (cc.toNat % 128 * 2 ^ (7 * x.i) % 18446744073709551616)) = x.n + cc.toNat % 128 * 2 ^ (7 * x.i) := or_add hin.2 (by omega)
                  have hrr : rdU l e = (x.n + cc.toNat % 128 * 2 ^ (7 * x.i), l2, 0) := by rw [hru, decU_last hb hc128]
                  rw [hor]
                  refine NX.ret1x rfl rfl (fun w hw => ?_)
                  refine ⟨⟨⟨y.1.oa, y.1.c⟩, by rw [hrr]; exact y.2⟩, by rw [hrr] <;> rfl, ?_⟩
                  show St w (Box b 105 [.slice y.1.oa (rdU l e).2.1.length y.1.c, I (rdU l e).2.2] :: M) (ArrF y.1.oa (bytesV (rdU l e).2.1) :: F)
                  rw [hrr]
                  exact hw.facts (fun φ h => by
                    rcases List.mem_cons.1 h with e | h
                    · subst e; exact .head _
                    · exact .tail _ (.tail _ h))
                · skip
                  exact absurd rfl (of_decide_eq_false h31)
              · skip
                have h92 := h30
                refine RL.skip rfl rfl rfl ?_
                refine RL.skip rfl rfl rfl ?_
                refine RL.skip rfl rfl rfl ?_
                refine RL.skip rfl rfl rfl ?_
                refine RL.skip rfl rfl rfl ?_
                refine RL.pickF rfl rfl rfl rfl ?_
                refine RL.nil ?_
                refine NX.seq ?_
                refine TR.condF rfl ?_
                refine TR.skip ?_
                refine NX.off ?_
                refine NX.seq ?_
                refine TR.region ?_
                refine RL.move rfl rfl rfl ?_
                refine RL.bin rfl rfl rfl (BinV.add _ rfl (by omega) (by omega)) rfl ?_
                refine RL.assign rfl rfl rfl ?_
                refine RL.nil ?_
                have hb : ¬ badU x.i cc := by unfold badU; omega
                have hc128 : ¬ cc.toNat < 128 := by have := of_decide_eq_false h92; omega
                have hi8 : x.i ≤ 8 := by unfold badU at hb; omega
                have hfit := byte_fits hb hin.1 hin.2
                have hor : (x.n ||| (cc.toNat % 128 * 2 ^ (7 * x.i) % 18446744073709551616)) = x.n + cc.toNat % 128 * 2 ^ (7 * x.i) := or_add hin.2 (by omega)
                refine NX.roundP ⟨x.i + 1, x.n + cc.toNat % 128 * 2 ^ (7 * x.i), l2, y.1.oa, y.1.c, 0⟩ ⟨y.2, ?_, fun _ => ⟨by show x.i + 1 ≤ 9; omega, hfit.2 hi8⟩⟩ (by simp) ⟨rfl, congrArg (fun z => some (U z)) hor, rfl, trivial⟩ (fun w hw => hw.facts (fun φ h => by
                  rcases List.mem_cons.1 h with e | h
                  · subst e; exact .head _
                  · exact .tail _ (.tail _ h)))
                · show rdU l e = if (0 : Int) = 0 then decU (x.i + 1) (x.n + cc.toNat % 128 * 2 ^ (7 * x.i)) l2 else _
                  rw [if_pos rfl, hru, decU_more hb hc128]
          · skip
            have h69 := of_decide_eq_false h26
            refine RL.skip rfl rfl rfl ?_
            refine RL.skip rfl rfl rfl ?_
            refine RL.pickF rfl rfl rfl rfl ?_
            refine RL.pickF rfl rfl rfl rfl ?_
            refine RL.nil ?_
            refine NX.seq ?_
            refine TR.condF rfl ?_
            refine TR.skip ?_
            refine NX.seq ?_
            refine TR.seq ?_
            refine TR.region ?_
            refine RL.move rfl rfl rfl ?_
            refine RL.move rfl rfl rfl ?_
            refine RL.bin rfl rfl rfl (BinV.clear7 (a := cc.toNat) (by have := cc.toNat_lt; omega)) rfl ?_
            refine RL.conv rfl rfl (ConvV.bu wc_ti5 wc_ti65 (by omega)) rfl ?_
            refine RL.move rfl rfl rfl ?_
            refine RL.bin rfl rfl rfl (BinV.mul ((7 * x.i : Nat) : Int) (by omega) (by omega) (by omega)) rfl ?_
            refine RL.bin rfl rfl rfl (BinV.shlU (s := 7 * x.i) (by omega)) rfl ?_
            refine RL.bin rfl rfl rfl (BinV.orU (Nat.lt_of_lt_of_le hin.2 (Nat.pow_le_pow_right (by omega) (show 7 * x.i ≤ 64 by omega))) (Nat.mod_lt _ (by omega))) rfl ?_
            refine RL.assign rfl rfl rfl ?_
            refine RL.nil ?_
            refine NX.seq ?_
            refine TR.seq ?_
            refine TR.region ?_
            refine RL.move rfl rfl rfl ?_
            refine RL.bin rfl rfl rfl BinV.lss rfl ?_
            refine RL.move rfl rfl rfl ?_
            refine RL.part (fun h32 => ?_) (fun h32 => ?_)
            · skip
              have h92 := h32
              refine RL.move rfl rfl rfl ?_
              refine RL.nilCheck rfl rfl rfl ?_
              refine RL.fieldAddr rfl wc_tf105_1 rfl rfl ?_
              refine RL.load1 0 rfl wc_ts39 rfl rfl rfl rfl ?_
              refine RL.bin rfl rfl rfl BinV.eql rfl ?_
              refine RL.pickT rfl rfl rfl rfl ?_
              refine RL.nil ?_
              refine NX.seq ?_
              refine TR.cond rfl (fun h33 => ?_) (fun h33 => ?_)
              · skip
                refine TR.seq ?_
                refine TR.region ?_
                refine RL.move rfl rfl rfl ?_
                refine RL.assign rfl rfl rfl ?_
                refine RL.nil ?_
                refine NX.seq ?_
                refine TR.ret ?_
                refine NX.retBlock ?_
                refine NX.retThen ?_
                refine NX.retThen ?_
                refine NX.retBlock ?_
                refine NX.retThen ?_
                have hb : ¬ badU x.i cc := by unfold badU; omega
                have hc128 : cc.toNat < 128 := by have := of_decide_eq_true h92; omega
                have hfit := byte_fits hb hin.1 hin.2
                have hor : (x.n ||| (cc.toNat % 128 * 2 ^ (7 * x.i) % 18446744073709551616)) = x.n + cc.toNat % 128 * 2 ^ (7 * x.i) := or_add hin.2 (by omega)
                have hrr : rdU l e = (x.n + cc.toNat % 128 * 2 ^ (7 * x.i), l2, 0) := by rw [hru, decU_last hb hc128]
                rw [hor]
                refine NX.ret1x rfl rfl (fun w hw => ?_)
                refine ⟨⟨⟨y.1.oa, y.1.c⟩, by rw [hrr]; exact y.2⟩, by rw [hrr] <;> rfl, ?_⟩
                show St w (Box b 105 [.slice y.1.oa (rdU l e).2.1.length y.1.c, I (rdU l e).2.2] :: M) (ArrF y.1.oa (bytesV (rdU l e).2.1) :: F)
                rw [hrr]
                exact hw.facts (fun φ h => by
                  rcases List.mem_cons.1 h with e | h
                  · subst e; exact .head _
                  · exact .tail _ (.tail _ h))
              · skip
                exact absurd rfl (of_decide_eq_false h33)
            · skip
              have h92 := h32
              refine RL.skip rfl rfl rfl ?_
              refine RL.skip rfl rfl rfl ?_
              refine RL.skip rfl rfl rfl ?_
              refine RL.skip rfl rfl rfl ?_
              refine RL.skip rfl rfl rfl ?_
              refine RL.pickF rfl rfl rfl rfl ?_
              refine RL.nil ?_
              refine NX.seq ?_
              refine TR.condF rfl ?_
              refine TR.skip ?_
              refine NX.off ?_
              refine NX.seq ?_
              refine TR.region ?_
              refine RL.move rfl rfl rfl ?_
              refine RL.bin rfl rfl rfl (BinV.add _ rfl (by omega) (by omega)) rfl ?_
              refine RL.assign rfl rfl rfl ?_
              refine RL.nil ?_
              have hb : ¬ badU x.i cc := by unfold badU; omega
              have hc128 : ¬ cc.toNat < 128 := by have := of_decide_eq_false h92; omega
              have hi8 : x.i ≤ 8 := by unfold badU at hb; omega
              have hfit := byte_fits hb hin.1 hin.2
              have hor : (x.n ||| (cc.toNat % 128 * 2 ^ (7 * x.i) % 18446744073709551616)) = x.n + cc.toNat % 128 * 2 ^ (7 * x.i) := or_add hin.2 (by omega)
              refine NX.roundP ⟨x.i + 1, x.n + cc.toNat % 128 * 2 ^ (7 * x.i), l2, y.1.oa, y.1.c, 0⟩ ⟨y.2, ?_, fun _ => ⟨by show x.i + 1 ≤ 9; omega, hfit.2 hi8⟩⟩ (by simp) ⟨rfl, congrArg (fun z => some (U z)) hor, rfl, trivial⟩ (fun w hw => hw.facts (fun φ h => by
                rcases List.mem_cons.1 h with e | h
                · subst e; exact .head _
                · exact .tail _ (.tail _ h)))
              · show rdU l e = if (0 : Int) = 0 then decU (x.i + 1) (x.n + cc.toNat % 128 * 2 ^ (7 * x.i)) l2 else _
                rw [if_pos rfl, hru, decU_more hb hc128]
      · skip
        have h62 : ¬ (x.i : Int) = 9 := of_decide_eq_false h22
        refine RL.skip rfl rfl rfl ?_
        refine RL.skip rfl rfl rfl ?_
        refine RL.pickF rfl rfl rfl rfl ?_
        refine RL.move rfl rfl rfl ?_
        refine RL.move rfl rfl rfl ?_
        refine RL.bin rfl rfl rfl BinV.gtr rfl ?_
        refine RL.move rfl rfl rfl ?_
        refine RL.part (fun h34 => ?_) (fun h34 => ?_)
        · skip
          have h69 := of_decide_eq_true h34
          refine RL.move rfl rfl rfl ?_
          refine RL.bin rfl rfl rfl BinV.eql rfl ?_
          refine RL.pickT rfl rfl rfl rfl ?_
          refine RL.pickF rfl rfl rfl rfl ?_
          refine RL.nil ?_
          refine NX.seq ?_
          refine TR.cond rfl (fun h35 => ?_) (fun h35 => ?_)
          · skip
            have h28 := of_decide_eq_true h35
            refine TR.region ?_
            refine RL.move rfl rfl rfl ?_
            refine RL.call rfl rfl Try.call68 rfl (fail_spec) (fun _ => ?_)
            refine RL.nil ?_
            refine NX.seq ?_
            refine TR.seq ?_
            refine TR.region ?_
            refine RL.move rfl rfl rfl ?_
            refine RL.move rfl rfl rfl ?_
            refine RL.bin rfl rfl rfl (BinV.clear7 (a := cc.toNat) (by have := cc.toNat_lt; omega)) rfl ?_
            refine RL.conv rfl rfl (ConvV.bu wc_ti5 wc_ti65 (by omega)) rfl ?_
            refine RL.move rfl rfl rfl ?_
            refine RL.bin rfl rfl rfl (BinV.mul ((7 * x.i : Nat) : Int) (by omega) (by omega) (by omega)) rfl ?_
            refine RL.bin rfl rfl rfl (BinV.shlU (s := 7 * x.i) (by omega)) rfl ?_
            refine RL.bin rfl rfl rfl (BinV.orU (Nat.lt_of_lt_of_le hin.2 (Nat.pow_le_pow_right (by omega) (show 7 * x.i ≤ 64 by omega))) (Nat.mod_lt _ (by omega))) rfl ?_
            refine RL.assign rfl rfl rfl ?_
            refine RL.nil ?_
            refine NX.seq ?_
            refine TR.seq ?_
            refine TR.region ?_
            refine RL.move rfl rfl rfl ?_
            refine RL.bin rfl rfl rfl BinV.lss rfl ?_
            refine RL.move rfl rfl rfl ?_
            refine RL.part (fun h36 => ?_) (fun h36 => ?_)
            · skip
              have h92 := h36
              refine RL.move rfl rfl rfl ?_
              refine RL.nilCheck rfl rfl rfl ?_
              refine RL.fieldAddr rfl wc_tf105_1 rfl rfl ?_
              refine RL.load1 0 rfl wc_ts39 rfl rfl rfl rfl ?_
              refine RL.bin rfl rfl rfl BinV.eql rfl ?_
              refine RL.pickT rfl rfl rfl rfl ?_
              refine RL.nil ?_
              refine NX.seq ?_
              refine TR.cond rfl (fun h37 => ?_) (fun h37 => ?_)
              · skip
                exact absurd (of_decide_eq_true h37) (by decide)
              · skip
                refine TR.skip ?_
                refine NX.off ?_
                refine NX.seq ?_
                refine TR.region ?_
                refine RL.move rfl rfl rfl ?_
                refine RL.bin rfl rfl rfl (BinV.add _ rfl (by omega) (by omega)) rfl ?_
                refine RL.assign rfl rfl rfl ?_
                refine RL.nil ?_
                have hb : badU x.i cc := by unfold badU; omega
                refine NX.roundP ⟨x.i + 1, (x.n ||| (cc.toNat % 128 * 2 ^ (7 * x.i) % 18446744073709551616)), l2, y.1.oa, y.1.c, 2⟩ ⟨y.2, ?_, fun h => absurd (show (2 : Int) = 0 from h) (by decide)⟩ (by simp) ⟨rfl, rfl, rfl, trivial⟩ (fun w hw => hw.facts (fun φ h => by
                  rcases List.mem_cons.1 h with e | h
                  · subst e; exact .head _
                  · exact .tail _ (.tail _ h)))
                · show rdU l e = if (2 : Int) = 0 then _ else (0, l2, 2)
                  rw [if_neg (by decide), hru, decU_bad hb]
            · skip
              have h92 := h36
              refine RL.skip rfl rfl rfl ?_
              refine RL.skip rfl rfl rfl ?_
              refine RL.skip rfl rfl rfl ?_
              refine RL.skip rfl rfl rfl ?_
              refine RL.skip rfl rfl rfl ?_
              refine RL.pickF rfl rfl rfl rfl ?_
              refine RL.nil ?_
              refine NX.seq ?_
              refine TR.condF rfl ?_
              refine TR.skip ?_
              refine NX.off ?_
              refine NX.seq ?_
              refine TR.region ?_
              refine RL.move rfl rfl rfl ?_
              refine RL.bin rfl rfl rfl (BinV.add _ rfl (by omega) (by omega)) rfl ?_
              refine RL.assign rfl rfl rfl ?_
              refine RL.nil ?_
              have hb : badU x.i cc := by unfold badU; omega
              refine NX.roundP ⟨x.i + 1, (x.n ||| (cc.toNat % 128 * 2 ^ (7 * x.i) % 18446744073709551616)), l2, y.1.oa, y.1.c, 2⟩ ⟨y.2, ?_, fun h => absurd (show (2 : Int) = 0 from h) (by decide)⟩ (by simp) ⟨rfl, rfl, rfl, trivial⟩ (fun w hw => hw.facts (fun φ h => by
                rcases List.mem_cons.1 h with e | h
                · subst e; exact .head _
                · exact .tail _ (.tail _ h)))
              · show rdU l e = if (2 : Int) = 0 then _ else (0, l2, 2)
                rw [if_neg (by decide), hru, decU_bad hb]
          · skip
            have h28 := of_decide_eq_false h35
            refine TR.skip ?_
            refine NX.seq ?_
            refine TR.seq ?_
            refine TR.region ?_
            refine RL.move rfl rfl rfl ?_
            refine RL.move rfl rfl rfl ?_
            refine RL.bin rfl rfl rfl (BinV.clear7 (a := cc.toNat) (by have := cc.toNat_lt; omega)) rfl ?_
            refine RL.conv rfl rfl (ConvV.bu wc_ti5 wc_ti65 (by omega)) rfl ?_
            refine RL.move rfl rfl rfl ?_
            refine RL.bin rfl rfl rfl (BinV.mul ((7 * x.i : Nat) : Int) (by omega) (by omega) (by omega)) rfl ?_
            refine RL.bin rfl rfl rfl (BinV.shlU (s := 7 * x.i) (by omega)) rfl ?_
            refine RL.bin rfl rfl rfl (BinV.orU (Nat.lt_of_lt_of_le hin.2 (Nat.pow_le_pow_right (by omega) (show 7 * x.i ≤ 64 by omega))) (Nat.mod_lt _ (by omega))) rfl ?_
            refine RL.assign rfl rfl rfl ?_
            refine RL.nil ?_
            refine NX.seq ?_
            refine TR.seq ?_
            refine TR.region ?_
            refine RL.move rfl rfl rfl ?_
            refine RL.bin rfl rfl rfl BinV.lss rfl ?_
            refine RL.move rfl rfl rfl ?_
            refine RL.part (fun h38 => ?_) (fun h38 => ?_)
            · skip
              have h92 := h38
              refine RL.move rfl rfl rfl ?_
              refine RL.nilCheck rfl rfl rfl ?_
              refine RL.fieldAddr rfl wc_tf105_1 rfl rfl ?_
              refine RL.load1 0 rfl wc_ts39 rfl rfl rfl rfl ?_
              refine RL.bin rfl rfl rfl BinV.eql rfl ?_
              refine RL.pickT rfl rfl rfl rfl ?_
              refine RL.nil ?_
              refine NX.seq ?_
              refine TR.cond rfl (fun h39 => ?_) (fun h39 => ?_)
              · skip
                refine TR.seq ?_
                refine TR.region ?_
                refine RL.move rfl rfl rfl ?_
                refine RL.assign rfl rfl rfl ?_
                refine RL.nil ?_
                refine NX.seq ?_
                refine TR.ret ?_
                refine NX.retBlock ?_
                refine NX.retThen ?_
                refine NX.retThen ?_
                refine NX.retBlock ?_
                refine NX.retThen ?_
                have hb : ¬ badU x.i cc := by unfold badU; omega
                have hc128 : cc.toNat < 128 := by have := of_decide_eq_true h92; omega
                have hfit := byte_fits hb hin.1 hin.2
                have hor : (x.n ||| (cc.toNat % 128 * 2 ^ (7 * x.i) % 18446744073709551616)) = x.n + cc.toNat % 128 * 2 ^ (7 * x.i) := or_add hin.2 (by omega)
                have hrr : rdU l e = (x.n + cc.toNat % 128 * 2 ^ (7 * x.i), l2, 0) := by rw [hru, decU_last hb hc128]
                rw [hor]
                refine NX.ret1x rfl rfl (fun w hw => ?_)
                refine ⟨⟨⟨y.1.oa, y.1.c⟩, by rw [hrr]; exact y.2⟩, by rw [hrr] <;> rfl, ?_⟩
                show St w (Box b 105 [.slice y.1.oa (rdU l e).2.1.length y.1.c, I (rdU l e).2.2] :: M) (ArrF y.1.oa (bytesV (rdU l e).2.1) :: F)
                rw [hrr]
                exact hw.facts (fun φ h => by
                  rcases List.mem_cons.1 h with e | h
                  · subst e; exact .head _
                  · exact .tail _ (.tail _ h))
              · skip
                exact absurd rfl (of_decide_eq_false h39)
            · skip
              have h92 := h38
              refine RL.skip rfl rfl rfl ?_
              refine RL.skip rfl rfl rfl ?_
              refine RL.skip rfl rfl rfl ?_
              refine RL.skip rfl rfl rfl ?_
              refine RL.skip rfl rfl rfl ?_
              refine RL.pickF rfl rfl rfl rfl ?_
              refine RL.nil ?_
              refine NX.seq ?_
              refine TR.condF rfl ?_
              refine TR.skip ?_
              refine NX.off ?_
              refine NX.seq ?_
              refine TR.region ?_
              refine RL.move rfl rfl rfl ?_
              refine RL.bin rfl rfl rfl (BinV.add _ rfl (by omega) (by omega)) rfl ?_
              refine RL.assign rfl rfl rfl ?_
              refine RL.nil ?_
              have hb : ¬ badU x.i cc := by unfold badU; omega
              have hc128 : ¬ cc.toNat < 128 := by have := of_decide_eq_false h92; omega
              have hi8 : x.i ≤ 8 := by unfold badU at hb; omega
              have hfit := byte_fits hb hin.1 hin.2
              have hor : (x.n ||| (cc.toNat % 128 * 2 ^ (7 * x.i) % 18446744073709551616)) = x.n + cc.toNat % 128 * 2 ^ (7 * x.i) := or_add hin.2 (by omega)
              refine NX.roundP ⟨x.i + 1, x.n + cc.toNat % 128 * 2 ^ (7 * x.i), l2, y.1.oa, y.1.c, 0⟩ ⟨y.2, ?_, fun _ => ⟨by show x.i + 1 ≤ 9; omega, hfit.2 hi8⟩⟩ (by simp) ⟨rfl, congrArg (fun z => some (U z)) hor, rfl, trivial⟩ (fun w hw => hw.facts (fun φ h => by
                rcases List.mem_cons.1 h with e | h
                · subst e; exact .head _
                · exact .tail _ (.tail _ h)))
              · show rdU l e = if (0 : Int) = 0 then decU (x.i + 1) (x.n + cc.toNat % 128 * 2 ^ (7 * x.i)) l2 else _
                rw [if_pos rfl, hru, decU_more hb hc128]
        · skip
          have h69 := of_decide_eq_false h34
          refine RL.skip rfl rfl rfl ?_
          refine RL.skip rfl rfl rfl ?_
          refine RL.pickF rfl rfl rfl rfl ?_
          refine RL.pickF rfl rfl rfl rfl ?_
          refine RL.nil ?_
          refine NX.seq ?_
          refine TR.condF rfl ?_
          refine TR.skip ?_
          refine NX.seq ?_
          refine TR.seq ?_
          refine TR.region ?_
          refine RL.move rfl rfl rfl ?_
          refine RL.move rfl rfl rfl ?_
          refine RL.bin rfl rfl rfl (BinV.clear7 (a := cc.toNat) (by have := cc.toNat_lt; omega)) rfl ?_
          refine RL.conv rfl rfl (ConvV.bu wc_ti5 wc_ti65 (by omega)) rfl ?_
          refine RL.move rfl rfl rfl ?_
          refine RL.bin rfl rfl rfl (BinV.mul ((7 * x.i : Nat) : Int) (by omega) (by omega) (by omega)) rfl ?_
          refine RL.bin rfl rfl rfl (BinV.shlU (s := 7 * x.i) (by omega)) rfl ?_
          refine RL.bin rfl rfl rfl (BinV.orU (Nat.lt_of_lt_of_le hin.2 (Nat.pow_le_pow_right (by omega) (show 7 * x.i ≤ 64 by omega))) (Nat.mod_lt _ (by omega))) rfl ?_
          refine RL.assign rfl rfl rfl ?_
          refine RL.nil ?_
          refine NX.seq ?_
          refine TR.seq ?_
          refine TR.region ?_
          refine RL.move rfl rfl rfl ?_
          refine RL.bin rfl rfl rfl BinV.lss rfl ?_
          refine RL.move rfl rfl rfl ?_
          refine RL.part (fun h40 => ?_) (fun h40 => ?_)
          · skip
            have h92 := h40
            refine RL.move rfl rfl rfl ?_
            refine RL.nilCheck rfl rfl rfl ?_
            refine RL.fieldAddr rfl wc_tf105_1 rfl rfl ?_
            refine RL.load1 0 rfl wc_ts39 rfl rfl rfl rfl ?_
            refine RL.bin rfl rfl rfl BinV.eql rfl ?_
            refine RL.pickT rfl rfl rfl rfl ?_
            refine RL.nil ?_
            refine NX.seq ?_
            refine TR.cond rfl (fun h41 => ?_) (fun h41 => ?_)
            · skip
              refine TR.seq ?_
              refine TR.region ?_
              refine RL.move rfl rfl rfl ?_
              refine RL.assign rfl rfl rfl ?_
              refine RL.nil ?_
              refine NX.seq ?_
              refine TR.ret ?_
              refine NX.retBlock ?_
              refine NX.retThen ?_
              refine NX.retThen ?_
              refine NX.retBlock ?_
              refine NX.retThen ?_
              have hb : ¬ badU x.i cc := by unfold badU; omega
              have hc128 : cc.toNat < 128 := by have := of_decide_eq_true h92; omega
              have hfit := byte_fits hb hin.1 hin.2
              have hor : (x.n ||| (cc.toNat % 128 * 2 ^ (7 * x.i) % 18446744073709551616)) = x.n + cc.toNat % 128 * 2 ^ (7 * x.i) := or_add hin.2 (by omega)
              have hrr : rdU l e = (x.n + cc.toNat % 128 * 2 ^ (7 * x.i), l2, 0) := by rw [hru, decU_last hb hc128]
              rw [hor]
              refine NX.ret1x rfl rfl (fun w hw => ?_)
              refine ⟨⟨⟨y.1.oa, y.1.c⟩, by rw [hrr]; exact y.2⟩, by rw [hrr] <;> rfl, ?_⟩
              show St w (Box b 105 [.slice y.1.oa (rdU l e).2.1.length y.1.c, I (rdU l e).2.2] :: M) (ArrF y.1.oa (bytesV (rdU l e).2.1) :: F)
              rw [hrr]
              exact hw.facts (fun φ h => by
                rcases List.mem_cons.1 h with e | h
                · subst e; exact .head _
                · exact .tail _ (.tail _ h))
            · skip
              exact absurd rfl (of_decide_eq_false h41)
          · skip
            have h92 := h40
            refine RL.skip rfl rfl rfl ?_
            refine RL.skip rfl rfl rfl ?_
            refine RL.skip rfl rfl rfl ?_
            refine RL.skip rfl rfl rfl ?_
            refine RL.skip rfl rfl rfl ?_
            refine RL.pickF rfl rfl rfl rfl ?_
            refine RL.nil ?_
            refine NX.seq ?_
            refine TR.condF rfl ?_
            refine TR.skip ?_
            refine NX.off ?_
            refine NX.seq ?_
            refine TR.region ?_
            refine RL.move rfl rfl rfl ?_
            refine RL.bin rfl rfl rfl (BinV.add _ rfl (by omega) (by omega)) rfl ?_
            refine RL.assign rfl rfl rfl ?_
            refine RL.nil ?_
            have hb : ¬ badU x.i cc := by unfold badU; omega
            have hc128 : ¬ cc.toNat < 128 := by have := of_decide_eq_false h92; omega
            have hi8 : x.i ≤ 8 := by unfold badU at hb; omega
            have hfit := byte_fits hb hin.1 hin.2
            have hor : (x.n ||| (cc.toNat % 128 * 2 ^ (7 * x.i) % 18446744073709551616)) = x.n + cc.toNat % 128 * 2 ^ (7 * x.i) := or_add hin.2 (by omega)
            refine NX.roundP ⟨x.i + 1, x.n + cc.toNat % 128 * 2 ^ (7 * x.i), l2, y.1.oa, y.1.c, 0⟩ ⟨y.2, ?_, fun _ => ⟨by show x.i + 1 ≤ 9; omega, hfit.2 hi8⟩⟩ (by simp) ⟨rfl, congrArg (fun z => some (U z)) hor, rfl, trivial⟩ (fun w hw => hw.facts (fun φ h => by
              rcases List.mem_cons.1 h with e | h
              · subst e; exact .head _
              · exact .tail _ (.tail _ h)))
            · show rdU l e = if (0 : Int) = 0 then decU (x.i + 1) (x.n + cc.toNat % 128 * 2 ^ (7 * x.i)) l2 else _
              rw [if_pos rfl, hru, decU_more hb hc128]
  · skip
    have hxe : ¬ x.e = 0 := of_decide_eq_false h1
    have hru := hx.2.1
    rw [if_neg hxe] at hru
    refine TR.exit ?_
    refine NX.exitThen ?_
    refine NX.exitThen ?_
    refine NX.exitHere ?_
    refine NX.seq ?_
    refine TR.seq ?_
    refine TR.region ?_
    refine RL.assign rfl rfl rfl ?_
    refine RL.nil ?_
    refine NX.seq ?_
    refine TR.ret ?_
    have hrr : rdU l e = (0, x.l, x.e) := hru
    refine NX.ret1x rfl rfl (fun w hw => ?_)
    refine ⟨⟨⟨x.oa, x.c⟩, by rw [hrr]; exact hx.1⟩, by rw [hrr] <;> rfl, ?_⟩
    show St w (Box b 105 [.slice x.oa (rdU l e).2.1.length x.c, I (rdU l e).2.2] :: M) (ArrF x.oa (bytesV (rdU l e).2.1) :: F)
    rw [hrr]
    exact hw

theorem unzigzag_spec {z : Nat} {M : List HP} {F : List Fact} (hz : z < 18446744073709551616) : Ctr Try.prog 65 [U z] M F Unit (fun _ => I (uz z)) (fun _ => M) (fun _ => F) := by
  refine Ctr.body Try.func65 rfl rfl ?_
  refine TR.seq ?_
  refine TR.region ?_
  refine RL.assign rfl rfl rfl ?_
  refine RL.nil ?_
  refine NX.seq ?_
  refine TR.seq ?_
  refine TR.region ?_
  refine RL.move rfl rfl rfl ?_
  refine RL.bin rfl rfl rfl (BinV.shrU (s := 1) (by omega)) rfl ?_
  refine RL.conv rfl rfl (ConvV.ui64 wc_ti65 wc_ti3) rfl ?_
  refine RL.move rfl rfl rfl ?_
  refine RL.bin rfl rfl rfl (BinV.andU (b := 1) hz (by omega)) rfl ?_
  refine RL.conv rfl rfl (ConvV.ui64 wc_ti65 wc_ti3) rfl ?_
  have hr1 := i64of_range (z &&& 1)
  have hr2 : i64of (z &&& 1) = ((z % 2 : Nat) : Int) := by rw [nat_mask1]; exact i64of_small (by omega)
  refine RL.neg rfl rfl (by omega) (by omega) rfl ?_
  refine RL.bin rfl rfl rfl (BinV.bitsK (by simp)) rfl ?_
  refine RL.assign rfl rfl rfl ?_
  refine RL.nil ?_
  refine NX.seq ?_
  refine TR.ret ?_
  exact NX.ret1 () rfl rfl (by rw [uz_bits hz]) (fun w hw => hw)

theorem rInt_spec {b : Nat} {l : List UInt8} {oa : Option Addr} {c : Nat} {e : Int} {M : List HP} {F : List Fact} (ha : ArrF oa (bytesV l) ∈ F) (hc : l.length ≤ c) : Ctr Try.prog 33 [.pointer (some ⟨b, 0, none⟩)] (Box b 105 [.slice oa l.length c, I e] :: M) F {z : RdX // (rdU l e).2.1.length ≤ z.c} (fun _ => I (uz (rdU l e).1)) (fun z => Box b 105 [.slice z.1.oa (rdU l e).2.1.length z.1.c, I (rdU l e).2.2] :: M) (fun z => ArrF z.1.oa (bytesV (rdU l e).2.1) :: F) := by
  refine Ctr.body Try.func33 rfl rfl ?_
  refine TR.seq ?_
  refine TR.region ?_
  refine RL.assign rfl rfl rfl ?_
  refine RL.nil ?_
  refine NX.seq ?_
  refine TR.seq ?_
  refine TR.region ?_
  refine RL.move rfl rfl rfl ?_
  refine RL.call rfl rfl Try.call39 rfl (rUint_spec ha hc) (fun y => ?_)
  refine RL.call rfl rfl Try.call65 rfl (unzigzag_spec rdU_lt) (fun _ => ?_)
  refine RL.assign rfl rfl rfl ?_
  refine RL.nil ?_
  refine NX.seq ?_
  refine TR.ret ?_
  exact NX.ret1 y rfl rfl rfl (fun w hw => hw)

theorem rEnd_spec {b n c : Nat} {oa : Option Addr} {e : Int} {M : List HP} {F : List Fact} : Ctr Try.prog 35 [.pointer (some ⟨b, 0, none⟩)] (Box b 105 [.slice oa n c, I e] :: M) F Unit (fun _ => I (if e = 0 ∧ 0 < n then 2 else e)) (fun _ => Box b 105 [.slice oa n c, I e] :: M) (fun _ => F) := by
  refine Ctr.body Try.func35 rfl rfl ?_
  refine TR.seq ?_
  refine TR.region ?_
  refine RL.assign rfl rfl rfl ?_
  refine RL.nil ?_
  refine NX.seq ?_
  refine TR.seq ?_
  refine TR.seq ?_
  refine TR.region ?_
  refine RL.move rfl rfl rfl ?_
  refine RL.nilCheck rfl rfl rfl ?_
  refine RL.fieldAddr rfl wc_tf105_1 rfl rfl ?_
  refine RL.load1 0 rfl wc_ts39 rfl rfl rfl rfl ?_
  refine RL.bin rfl rfl rfl BinV.eql rfl ?_
  refine RL.move rfl rfl rfl ?_
  refine RL.part (fun h1 => ?_) (fun h1 => ?_)
  · skip
    have h5 : e = 0 := of_decide_eq_true h1
    refine RL.move rfl rfl rfl ?_
    refine RL.nilCheck rfl rfl rfl ?_
    refine RL.fieldAddr rfl wc_tf105_0 rfl rfl ?_
    refine RL.load1 0 rfl wc_ts23 rfl rfl rfl rfl ?_
    refine RL.lenSlice rfl wc_tl23 rfl rfl ?_
    refine RL.bin rfl rfl rfl BinV.gtr rfl ?_
    refine RL.pickT rfl rfl rfl rfl ?_
    refine RL.nil ?_
    refine NX.seq ?_
    refine TR.cond rfl (fun h2 => ?_) (fun h2 => ?_)
    · skip
      have h15 := of_decide_eq_true h2
      refine TR.seq ?_
      refine TR.region ?_
      refine RL.assign rfl rfl rfl ?_
      refine RL.nil ?_
      refine NX.seq ?_
      refine TR.ret ?_
      refine NX.retThen ?_
      refine NX.ret1 () rfl rfl ?_ (fun w hw => hw)
      congr 1
      rw [if_pos ⟨h5, by omega⟩]
    · skip
      have h15 := of_decide_eq_false h2
      refine TR.skip ?_
      refine NX.seq ?_
      refine TR.seq ?_
      refine TR.region ?_
      refine RL.move rfl rfl rfl ?_
      refine RL.nilCheck rfl rfl rfl ?_
      refine RL.fieldAddr rfl wc_tf105_1 rfl rfl ?_
      refine RL.load1 0 rfl wc_ts39 rfl rfl rfl rfl ?_
      refine RL.assign rfl rfl rfl ?_
      refine RL.nil ?_
      refine NX.seq ?_
      refine TR.ret ?_
      refine NX.ret1 () rfl rfl ?_ (fun w hw => hw)
      congr 1
      rw [if_neg (by omega)]
  · skip
    have h5 : ¬ e = 0 := of_decide_eq_false h1
    refine RL.skip rfl rfl rfl ?_
    refine RL.skip rfl rfl rfl ?_
    refine RL.skip rfl rfl rfl ?_
    refine RL.skip rfl rfl rfl ?_
    refine RL.skip rfl rfl rfl ?_
    refine RL.skip rfl rfl rfl ?_
    refine RL.pickF rfl rfl rfl rfl ?_
    refine RL.nil ?_
    refine NX.seq ?_
    refine TR.condF rfl ?_
    refine TR.skip ?_
    refine NX.seq ?_
    refine TR.seq ?_
    refine TR.region ?_
    refine RL.move rfl rfl rfl ?_
    refine RL.nilCheck rfl rfl rfl ?_
    refine RL.fieldAddr rfl wc_tf105_1 rfl rfl ?_
    refine RL.load1 0 rfl wc_ts39 rfl rfl rfl rfl ?_
    refine RL.assign rfl rfl rfl ?_
    refine RL.nil ?_
    refine NX.seq ?_
    refine TR.ret ?_
    refine NX.ret1 () rfl rfl ?_ (fun w hw => hw)
    congr 1
    rw [if_neg (by omega)]

structure RlX where
  i : Nat
  oo : Option Addr
  oc : Nat
  oa : Option Addr
  c : Nat
  e : Int
structure RwX where
  ro : Option Addr
  rc : Nat
  oa : Option Addr
  c : Nat

set_option maxHeartbeats 1000000 in
theorem rList_spec {b : Nat} {l : List UInt8} {oa : Option Addr} {c : Nat} {e : Int} {M : List HP} {F : List Fact} (ha : ArrF oa (bytesV l) ∈ F) (hc : l.length ≤ c) (hl : l.length ≤ 70368744177664) : Ctr Try.prog 66 [.pointer (some ⟨b, 0, none⟩), (.func (.func 67) #[.pointer (some ⟨b, 0, none⟩)] #[])] (Box b 105 [.slice oa l.length c, I e] :: M) F {z : RwX // (rdRaw l e).2.1.length ≤ z.c} (fun z => .slice z.1.ro (rdRaw l e).1.length z.1.rc) (fun z => OwnSl 5 1 z.1.ro (rdRaw l e).1.length z.1.rc (bytesV (rdRaw l e).1) :: Box b 105 [.slice z.1.oa (rdRaw l e).2.1.length z.1.c, I (rdRaw l e).2.2] :: M) (fun z => ArrF z.1.oa (bytesV (rdRaw l e).2.1) :: F) := by
  refine Ctr.body Try.func66 rfl rfl ?_
  refine TR.seq ?_
  refine TR.region ?_
  refine RL.assign rfl rfl rfl ?_
  refine RL.nil ?_
  refine NX.seq ?_
  refine TR.seq ?_
  refine TR.region ?_
  refine RL.move rfl rfl rfl ?_
  refine RL.call rfl rfl Try.call39 rfl (rUint_spec ha hc) (fun y => ?_)
  refine RL.assign rfl rfl rfl ?_
  refine RL.nil ?_
  refine NX.seq ?_
  refine TR.seq ?_
  refine TR.seq ?_
  refine TR.region ?_
  have hy := y.2
  obtain ⟨pp, hpp⟩ := rdU_suf (l := l) (e := e)
  have hpl := congrArg List.length hpp
  rw [List.length_append] at hpl
  have hN := rdU_lt (l := l) (e := e)
  refine RL.move rfl rfl rfl ?_
  refine RL.move rfl rfl rfl ?_
  refine RL.nilCheck rfl rfl rfl ?_
  refine RL.fieldAddr rfl wc_tf105_0 rfl rfl ?_
  refine RL.load1 0 rfl wc_ts23 rfl rfl rfl rfl ?_
  refine RL.lenSlice rfl wc_tl23 rfl rfl ?_
  refine RL.conv rfl rfl (ConvV.iu wc_ti3 wc_ti65 (by omega)) rfl ?_
  refine RL.bin rfl rfl rfl BinV.gtr rfl ?_
  refine RL.nil ?_
  refine NX.seq ?_
  refine TR.cond rfl (fun h1 => ?_) (fun h1 => ?_)
  · skip
    have hfar : (rdU l e).2.1.length < (rdU l e).1 := by have := of_decide_eq_true h1; omega
    have he0 : (rdU l e).2.2 = 0 := by
      rcases Int.decEq (rdU l e).2.2 0 with h | h
      · rw [rdU_err h] at hfar; omega
      · exact h
    refine TR.region ?_
    refine RL.move rfl rfl rfl ?_
    refine RL.call rfl rfl Try.call68 rfl (fail_spec) (fun _ => ?_)
    refine RL.nil ?_
    refine NX.seq ?_
    refine TR.seq ?_
    refine TR.region ?_
    refine RL.assign rfl rfl rfl ?_
    refine RL.nil ?_
    refine NX.seq ?_
    refine TR.seq ?_
    refine TR.seq ?_
    refine TR.region ?_
    refine RL.assign rfl rfl rfl ?_
    refine RL.nil ?_
    refine NX.seq ?_
    refine TR.block ?_
    refine TR.loopP (ι := RlX) (fun x => (x.e = 0 ∧ x.i ≤ (rdU l e).1 ∧ (rdU l e).1 ≤ (rdU l e).2.1.length ∧ (rdU l e).2.2 = 0 ∧ ((rdU l e).2.1.drop x.i).length ≤ x.c) ∨ (x.e ≠ 0 ∧ x.i = 0 ∧ rdRaw l e = ([], (rdU l e).2.1, x.e) ∧ (rdU l e).2.1.length ≤ x.c)) (fun x => [(0, .pointer (some ⟨b, 0, none⟩)), (1, (.func (.func 67) #[.pointer (some ⟨b, 0, none⟩)] #[])), (5, U (rdU l e).1), (6, .slice x.oo x.i x.oc), (7, U x.i)]) (fun x => OwnSl 5 1 x.oo x.i x.oc (bytesV ((rdU l e).2.1.take x.i)) :: Box b 105 [.slice x.oa ((rdU l e).2.1.drop x.i).length x.c, I x.e] :: M) (fun x => ArrF x.oa (bytesV ((rdU l e).2.1.drop x.i)) :: F) (fun x => (rdU l e).1 - x.i) ⟨0, none, 0, y.1.oa, y.1.c, (if (rdU l e).2.2 = 0 then 3 else (rdU l e).2.2)⟩ (.inr ⟨by show (if (rdU l e).2.2 = 0 then (3 : Int) else (rdU l e).2.2) ≠ 0; rw [if_pos he0]; decide, rfl, by show rdRaw l e = ([], _, (if (rdU l e).2.2 = 0 then (3 : Int) else (rdU l e).2.2)); rw [if_pos he0]; exact rdRaw_far he0 hfar, hy⟩) ⟨rfl, rfl, rfl, rfl, rfl, trivial⟩ (fun w hw => OwnSl.nil_new 5 1 hw) (fun x hx => ?_)
    refine TR.seq ?_
    refine TR.seq ?_
    refine TR.region ?_
    refine RL.move rfl rfl rfl ?_
    refine RL.move rfl rfl rfl ?_
    refine RL.bin rfl rfl rfl BinV.lss rfl ?_
    refine RL.move rfl rfl rfl ?_
    refine RL.part (fun h2 => ?_) (fun h2 => ?_)
    · skip
      have hlt : x.i < (rdU l e).1 := by have := of_decide_eq_true h2; omega
      refine RL.move rfl rfl rfl ?_
      refine RL.nilCheck rfl rfl rfl ?_
      refine RL.fieldAddr rfl wc_tf105_1 rfl rfl ?_
      refine RL.load1 1 rfl wc_ts39 rfl rfl rfl rfl ?_
      refine RL.bin rfl rfl rfl BinV.eql rfl ?_
      refine RL.pickT rfl rfl rfl rfl ?_
      refine RL.nil ?_
      refine NX.seq ?_
      refine TR.cond rfl (fun h3 => ?_) (fun h3 => ?_)
      · skip
        have hxe : x.e = 0 := of_decide_eq_true h3
        have hx5 : (rdU l e).1 ≤ (rdU l e).2.1.length ∧ ((rdU l e).2.1.drop x.i).length ≤ x.c := by
          rcases hx with h | h
          · exact ⟨h.2.2.1, h.2.2.2.2⟩
          · exact absurd hxe h.1
        have hxl : x.i < (rdU l e).2.1.length := by omega
        have hdk := List.drop_eq_getElem_cons hxl
        have hcx : ((rdU l e).2.1[x.i] :: (rdU l e).2.1.drop (x.i + 1)).length ≤ x.c := by rw [← hdk]; exact hx5.2
        rw [hdk, hxe]
        have hFx : ArrF x.oa (bytesV ((rdU l e).2.1[x.i] :: (rdU l e).2.1.drop (x.i + 1))) ∈ ArrF x.oa (bytesV ((rdU l e).2.1[x.i] :: (rdU l e).2.1.drop (x.i + 1))) :: F := .head _
        refine TR.skip ?_
        refine NX.seq ?_
        refine TR.seq ?_
        refine TR.block ?_
        refine TR.region ?_
        refine RL.move rfl rfl rfl ?_
        refine RL.move rfl rfl rfl ?_
        refine RL.callV (fst := [.pointer (some ⟨b, 0, none⟩)]) (cap := []) rfl rfl rfl Try.call67 rfl (Ctr.frame1 [_] (nextC_spec (x := (rdU l e).2.1[x.i]) (l := (rdU l e).2.1.drop (x.i + 1)) hFx hcx)) (fun z => ?_)
        refine RL.buildSlice rfl rfl (wc_bs23_1_0 _) rfl (fun b4 => ?_)
        refine RL.ofGV rfl rfl (GV.append (j := 1) wc_tl23 wc_ni23 wc_te5 rfl rfl rfl (src_box (i := 0) rfl rfl rfl) (by omega) (by omega)) (fun v => ?_)
        refine RL.assign rfl rfl rfl ?_
        refine RL.nil ?_
        refine NX.off ?_
        refine NX.seq ?_
        refine TR.region ?_
        refine RL.move rfl rfl rfl ?_
        refine RL.bin rfl rfl rfl (BinV.addU (b := 1) (by omega)) rfl ?_
        refine RL.assign rfl rfl rfl ?_
        refine RL.nil ?_
        have ht : (rdU l e).2.1.take (x.i + 1) = (rdU l e).2.1.take x.i ++ [(rdU l e).2.1[x.i]] := List.take_succ_eq_append_getElem hxl
        refine NX.roundP ⟨x.i + 1, v.1, v.2, z.1.oa, z.1.c, 0⟩ (.inl ⟨rfl, hlt, hx5.1, ?_, z.2⟩) (by show _ - (x.i + 1) < _ - x.i; omega) ⟨rfl, rfl, rfl, rfl, rfl, trivial⟩ (fun w hw => ?_)
        · rcases hx with h | h
          · exact h.2.2.2.1
          · exact absurd hxe h.1
        · have h9 := (hw.drop 0 rfl).facts (F' := ArrF z.1.oa (bytesV ((rdU l e).2.1.drop (x.i + 1))) :: F) (fun φ h => by
            rcases List.mem_cons.1 h with e | h
            · subst e; exact .head _
            · exact .tail _ (.tail _ h))
          show St w (OwnSl 5 1 v.1 (x.i + 1) v.2 (bytesV ((rdU l e).2.1.take (x.i + 1))) :: _) _
          rw [ht, bytesV_snoc]
          exact h9
      · skip
        have hex : x.i < (rdU l e).1 → ¬ x.e = 0 := fun _ => of_decide_eq_false h3
        refine TR.exit ?_
        refine NX.exitThen ?_
        refine NX.exitThen ?_
        refine NX.exitHere ?_
        refine NX.seq ?_
        refine TR.seq ?_
        refine TR.seq ?_
        refine TR.region ?_
        refine RL.move rfl rfl rfl ?_
        refine RL.nilCheck rfl rfl rfl ?_
        refine RL.fieldAddr rfl wc_tf105_1 rfl rfl ?_
        refine RL.load1 1 rfl wc_ts39 rfl rfl rfl rfl ?_
        refine RL.bin rfl rfl rfl BinV.neq rfl ?_
        refine RL.nil ?_
        refine NX.seq ?_
        refine TR.cond rfl (fun h6 => ?_) (fun h6 => ?_)
        · skip
          have h41 := h6
          refine TR.seq ?_
          refine TR.region ?_
          refine RL.assign rfl rfl rfl ?_
          refine RL.nil ?_
          refine NX.seq ?_
          refine TR.ret ?_
          refine NX.retThen ?_
          have hE : x.e ≠ 0 := of_decide_eq_true h41
          have hR : rdRaw l e = ([], (rdU l e).2.1, x.e) ∧ (rdU l e).2.1.length ≤ x.c ∧ x.i = 0 := by
            rcases hx with h | h
            · exact absurd h.1 hE
            · exact ⟨h.2.2.1, h.2.2.2, h.2.1⟩
          refine NX.ret1x rfl rfl (fun w hw => ⟨⟨⟨none, 0, x.oa, x.c⟩, by rw [hR.1]; exact hR.2.1⟩, by show Value.slice none 0 0 = Value.slice none (rdRaw l e).1.length 0; rw [hR.1]; rfl, ?_⟩)
          show St w (OwnSl 5 1 none (rdRaw l e).1.length 0 (bytesV (rdRaw l e).1) :: Box b 105 [.slice x.oa (rdRaw l e).2.1.length x.c, I (rdRaw l e).2.2] :: M) (ArrF x.oa (bytesV (rdRaw l e).2.1) :: F)
          rw [hR.1]
          have h9 := hw.drop 0 rfl
          rw [hR.2.2] at h9
          exact OwnSl.nil_new 5 1 h9
        · skip
          have h41 := h6
          refine TR.skip ?_
          refine NX.seq ?_
          refine TR.seq ?_
          refine TR.region ?_
          refine RL.move rfl rfl rfl ?_
          refine RL.assign rfl rfl rfl ?_
          refine RL.nil ?_
          refine NX.seq ?_
          refine TR.ret ?_
          have hE : x.e = 0 := by have := of_decide_eq_false h41; omega
          have hR : x.i = (rdU l e).1 ∧ rdRaw l e = ((rdU l e).2.1.take (rdU l e).1, (rdU l e).2.1.drop (rdU l e).1, 0) ∧ ((rdU l e).2.1.drop (rdU l e).1).length ≤ x.c ∧ ((rdU l e).2.1.take (rdU l e).1).length = (rdU l e).1 := by
            rcases hx with h | h
            · have hi : x.i = (rdU l e).1 := by
                have h8 := h.2.1
                rcases Nat.lt_or_ge x.i (rdU l e).1 with h7 | h7
                · exact absurd hE (hex h7)
                · omega
              refine ⟨hi, rdRaw_ok h.2.2.2.1 h.2.2.1, by rw [← hi]; exact h.2.2.2.2, by rw [List.length_take]; omega⟩
            · exact absurd hE h.1
          obtain ⟨hi, hR1, hR2, hR3⟩ := hR
          refine NX.ret1x rfl rfl (fun w hw => ⟨⟨⟨x.oo, x.oc, x.oa, x.c⟩, ?_⟩, ?_, ?_⟩)
          · rw [hR1]; exact hR2
          · show Value.slice x.oo x.i x.oc = Value.slice x.oo (rdRaw l e).1.length x.oc; rw [hR1]; show Value.slice x.oo x.i x.oc = Value.slice x.oo ((rdU l e).2.1.take (rdU l e).1).length x.oc; rw [hR3, hi]
          · show St w (OwnSl 5 1 x.oo (rdRaw l e).1.length x.oc (bytesV (rdRaw l e).1) :: Box b 105 [.slice x.oa (rdRaw l e).2.1.length x.c, I (rdRaw l e).2.2] :: M) (ArrF x.oa (bytesV (rdRaw l e).2.1) :: F)
            rw [hR1]
            show St w (OwnSl 5 1 x.oo ((rdU l e).2.1.take (rdU l e).1).length x.oc _ :: _) _
            rw [hR3]
            have h9 := hw
            rw [hi, hE] at h9
            exact h9
    · skip
      have hge : ¬ x.i < (rdU l e).1 := by have := of_decide_eq_false h2; omega
      have hex : x.i < (rdU l e).1 → ¬ x.e = 0 := fun h => absurd h hge
      refine RL.skip rfl rfl rfl ?_
      refine RL.skip rfl rfl rfl ?_
      refine RL.skip rfl rfl rfl ?_
      refine RL.skip rfl rfl rfl ?_
      refine RL.skip rfl rfl rfl ?_
      refine RL.pickF rfl rfl rfl rfl ?_
      refine RL.nil ?_
      refine NX.seq ?_
      refine TR.condF rfl ?_
      refine TR.exit ?_
      refine NX.exitThen ?_
      refine NX.exitThen ?_
      refine NX.exitHere ?_
      refine NX.seq ?_
      refine TR.seq ?_
      refine TR.seq ?_
      refine TR.region ?_
      refine RL.move rfl rfl rfl ?_
      refine RL.nilCheck rfl rfl rfl ?_
      refine RL.fieldAddr rfl wc_tf105_1 rfl rfl ?_
      refine RL.load1 1 rfl wc_ts39 rfl rfl rfl rfl ?_
      refine RL.bin rfl rfl rfl BinV.neq rfl ?_
      refine RL.nil ?_
      refine NX.seq ?_
      refine TR.cond rfl (fun h7 => ?_) (fun h7 => ?_)
      · skip
        have h41 := h7
        refine TR.seq ?_
        refine TR.region ?_
        refine RL.assign rfl rfl rfl ?_
        refine RL.nil ?_
        refine NX.seq ?_
        refine TR.ret ?_
        refine NX.retThen ?_
        have hE : x.e ≠ 0 := of_decide_eq_true h41
        have hR : rdRaw l e = ([], (rdU l e).2.1, x.e) ∧ (rdU l e).2.1.length ≤ x.c ∧ x.i = 0 := by
          rcases hx with h | h
          · exact absurd h.1 hE
          · exact ⟨h.2.2.1, h.2.2.2, h.2.1⟩
        refine NX.ret1x rfl rfl (fun w hw => ⟨⟨⟨none, 0, x.oa, x.c⟩, by rw [hR.1]; exact hR.2.1⟩, by show Value.slice none 0 0 = Value.slice none (rdRaw l e).1.length 0; rw [hR.1]; rfl, ?_⟩)
        show St w (OwnSl 5 1 none (rdRaw l e).1.length 0 (bytesV (rdRaw l e).1) :: Box b 105 [.slice x.oa (rdRaw l e).2.1.length x.c, I (rdRaw l e).2.2] :: M) (ArrF x.oa (bytesV (rdRaw l e).2.1) :: F)
        rw [hR.1]
        have h9 := hw.drop 0 rfl
        rw [hR.2.2] at h9
        exact OwnSl.nil_new 5 1 h9
      · skip
        have h41 := h7
        refine TR.skip ?_
        refine NX.seq ?_
        refine TR.seq ?_
        refine TR.region ?_
        refine RL.move rfl rfl rfl ?_
        refine RL.assign rfl rfl rfl ?_
        refine RL.nil ?_
        refine NX.seq ?_
        refine TR.ret ?_
        have hE : x.e = 0 := by have := of_decide_eq_false h41; omega
        have hR : x.i = (rdU l e).1 ∧ rdRaw l e = ((rdU l e).2.1.take (rdU l e).1, (rdU l e).2.1.drop (rdU l e).1, 0) ∧ ((rdU l e).2.1.drop (rdU l e).1).length ≤ x.c ∧ ((rdU l e).2.1.take (rdU l e).1).length = (rdU l e).1 := by
          rcases hx with h | h
          · have hi : x.i = (rdU l e).1 := by
              have h8 := h.2.1
              rcases Nat.lt_or_ge x.i (rdU l e).1 with h7 | h7
              · exact absurd hE (hex h7)
              · omega
            refine ⟨hi, rdRaw_ok h.2.2.2.1 h.2.2.1, by rw [← hi]; exact h.2.2.2.2, by rw [List.length_take]; omega⟩
          · exact absurd hE h.1
        obtain ⟨hi, hR1, hR2, hR3⟩ := hR
        refine NX.ret1x rfl rfl (fun w hw => ⟨⟨⟨x.oo, x.oc, x.oa, x.c⟩, ?_⟩, ?_, ?_⟩)
        · rw [hR1]; exact hR2
        · show Value.slice x.oo x.i x.oc = Value.slice x.oo (rdRaw l e).1.length x.oc; rw [hR1]; show Value.slice x.oo x.i x.oc = Value.slice x.oo ((rdU l e).2.1.take (rdU l e).1).length x.oc; rw [hR3, hi]
        · show St w (OwnSl 5 1 x.oo (rdRaw l e).1.length x.oc (bytesV (rdRaw l e).1) :: Box b 105 [.slice x.oa (rdRaw l e).2.1.length x.c, I (rdRaw l e).2.2] :: M) (ArrF x.oa (bytesV (rdRaw l e).2.1) :: F)
          rw [hR1]
          show St w (OwnSl 5 1 x.oo ((rdU l e).2.1.take (rdU l e).1).length x.oc _ :: _) _
          rw [hR3]
          have h9 := hw
          rw [hi, hE] at h9
          exact h9
  · skip
    have hnear : (rdU l e).1 ≤ (rdU l e).2.1.length := by have := of_decide_eq_false h1; omega
    refine TR.skip ?_
    refine NX.seq ?_
    refine TR.seq ?_
    refine TR.region ?_
    refine RL.assign rfl rfl rfl ?_
    refine RL.nil ?_
    refine NX.seq ?_
    refine TR.seq ?_
    refine TR.seq ?_
    refine TR.region ?_
    refine RL.assign rfl rfl rfl ?_
    refine RL.nil ?_
    refine NX.seq ?_
    refine TR.block ?_
    refine TR.loopP (ι := RlX) (fun x => (x.e = 0 ∧ x.i ≤ (rdU l e).1 ∧ (rdU l e).1 ≤ (rdU l e).2.1.length ∧ (rdU l e).2.2 = 0 ∧ ((rdU l e).2.1.drop x.i).length ≤ x.c) ∨ (x.e ≠ 0 ∧ x.i = 0 ∧ rdRaw l e = ([], (rdU l e).2.1, x.e) ∧ (rdU l e).2.1.length ≤ x.c)) (fun x => [(0, .pointer (some ⟨b, 0, none⟩)), (1, (.func (.func 67) #[.pointer (some ⟨b, 0, none⟩)] #[])), (5, U (rdU l e).1), (6, .slice x.oo x.i x.oc), (7, U x.i)]) (fun x => OwnSl 5 1 x.oo x.i x.oc (bytesV ((rdU l e).2.1.take x.i)) :: Box b 105 [.slice x.oa ((rdU l e).2.1.drop x.i).length x.c, I x.e] :: M) (fun x => ArrF x.oa (bytesV ((rdU l e).2.1.drop x.i)) :: F) (fun x => (rdU l e).1 - x.i) ⟨0, none, 0, y.1.oa, y.1.c, (rdU l e).2.2⟩ (by
      rcases Int.decEq (rdU l e).2.2 0 with h | h
      · exact .inr ⟨h, rfl, rdRaw_err h, hy⟩
      · exact .inl ⟨h, Nat.zero_le _, hnear, h, hy⟩) ⟨rfl, rfl, rfl, rfl, rfl, trivial⟩ (fun w hw => OwnSl.nil_new 5 1 hw) (fun x hx => ?_)
    refine TR.seq ?_
    refine TR.seq ?_
    refine TR.region ?_
    refine RL.move rfl rfl rfl ?_
    refine RL.move rfl rfl rfl ?_
    refine RL.bin rfl rfl rfl BinV.lss rfl ?_
    refine RL.move rfl rfl rfl ?_
    refine RL.part (fun h8 => ?_) (fun h8 => ?_)
    · skip
      have hlt : x.i < (rdU l e).1 := by have := of_decide_eq_true h8; omega
      refine RL.move rfl rfl rfl ?_
      refine RL.nilCheck rfl rfl rfl ?_
      refine RL.fieldAddr rfl wc_tf105_1 rfl rfl ?_
      refine RL.load1 1 rfl wc_ts39 rfl rfl rfl rfl ?_
      refine RL.bin rfl rfl rfl BinV.eql rfl ?_
      refine RL.pickT rfl rfl rfl rfl ?_
      refine RL.nil ?_
      refine NX.seq ?_
      refine TR.cond rfl (fun h9 => ?_) (fun h9 => ?_)
      · skip
        have hxe : x.e = 0 := of_decide_eq_true h9
        have hx5 : (rdU l e).1 ≤ (rdU l e).2.1.length ∧ ((rdU l e).2.1.drop x.i).length ≤ x.c := by
          rcases hx with h | h
          · exact ⟨h.2.2.1, h.2.2.2.2⟩
          · exact absurd hxe h.1
        have hxl : x.i < (rdU l e).2.1.length := by omega
        have hdk := List.drop_eq_getElem_cons hxl
        have hcx : ((rdU l e).2.1[x.i] :: (rdU l e).2.1.drop (x.i + 1)).length ≤ x.c := by rw [← hdk]; exact hx5.2
        rw [hdk, hxe]
        have hFx : ArrF x.oa (bytesV ((rdU l e).2.1[x.i] :: (rdU l e).2.1.drop (x.i + 1))) ∈ ArrF x.oa (bytesV ((rdU l e).2.1[x.i] :: (rdU l e).2.1.drop (x.i + 1))) :: F := .head _
        refine TR.skip ?_
        refine NX.seq ?_
        refine TR.seq ?_
        refine TR.block ?_
        refine TR.region ?_
        refine RL.move rfl rfl rfl ?_
        refine RL.move rfl rfl rfl ?_
        refine RL.callV (fst := [.pointer (some ⟨b, 0, none⟩)]) (cap := []) rfl rfl rfl Try.call67 rfl (Ctr.frame1 [_] (nextC_spec (x := (rdU l e).2.1[x.i]) (l := (rdU l e).2.1.drop (x.i + 1)) hFx hcx)) (fun z => ?_)
        refine RL.buildSlice rfl rfl (wc_bs23_1_0 _) rfl (fun b10 => ?_)
        refine RL.ofGV rfl rfl (GV.append (j := 1) wc_tl23 wc_ni23 wc_te5 rfl rfl rfl (src_box (i := 0) rfl rfl rfl) (by omega) (by omega)) (fun v => ?_)
        refine RL.assign rfl rfl rfl ?_
        refine RL.nil ?_
        refine NX.off ?_
        refine NX.seq ?_
        refine TR.region ?_
        refine RL.move rfl rfl rfl ?_
        refine RL.bin rfl rfl rfl (BinV.addU (b := 1) (by omega)) rfl ?_
        refine RL.assign rfl rfl rfl ?_
        refine RL.nil ?_
        have ht : (rdU l e).2.1.take (x.i + 1) = (rdU l e).2.1.take x.i ++ [(rdU l e).2.1[x.i]] := List.take_succ_eq_append_getElem hxl
        refine NX.roundP ⟨x.i + 1, v.1, v.2, z.1.oa, z.1.c, 0⟩ (.inl ⟨rfl, hlt, hx5.1, ?_, z.2⟩) (by show _ - (x.i + 1) < _ - x.i; omega) ⟨rfl, rfl, rfl, rfl, rfl, trivial⟩ (fun w hw => ?_)
        · rcases hx with h | h
          · exact h.2.2.2.1
          · exact absurd hxe h.1
        · have h9 := (hw.drop 0 rfl).facts (F' := ArrF z.1.oa (bytesV ((rdU l e).2.1.drop (x.i + 1))) :: F) (fun φ h => by
            rcases List.mem_cons.1 h with e | h
            · subst e; exact .head _
            · exact .tail _ (.tail _ h))
          show St w (OwnSl 5 1 v.1 (x.i + 1) v.2 (bytesV ((rdU l e).2.1.take (x.i + 1))) :: _) _
          rw [ht, bytesV_snoc]
          exact h9
      · skip
        have hex : x.i < (rdU l e).1 → ¬ x.e = 0 := fun _ => of_decide_eq_false h9
        refine TR.exit ?_
        refine NX.exitThen ?_
        refine NX.exitThen ?_
        refine NX.exitHere ?_
        refine NX.seq ?_
        refine TR.seq ?_
        refine TR.seq ?_
        refine TR.region ?_
        refine RL.move rfl rfl rfl ?_
        refine RL.nilCheck rfl rfl rfl ?_
        refine RL.fieldAddr rfl wc_tf105_1 rfl rfl ?_
        refine RL.load1 1 rfl wc_ts39 rfl rfl rfl rfl ?_
        refine RL.bin rfl rfl rfl BinV.neq rfl ?_
        refine RL.nil ?_
        refine NX.seq ?_
        refine TR.cond rfl (fun h12 => ?_) (fun h12 => ?_)
        · skip
          have h41 := h12
          refine TR.seq ?_
          refine TR.region ?_
          refine RL.assign rfl rfl rfl ?_
          refine RL.nil ?_
          refine NX.seq ?_
          refine TR.ret ?_
          refine NX.retThen ?_
          have hE : x.e ≠ 0 := of_decide_eq_true h41
          have hR : rdRaw l e = ([], (rdU l e).2.1, x.e) ∧ (rdU l e).2.1.length ≤ x.c ∧ x.i = 0 := by
            rcases hx with h | h
            · exact absurd h.1 hE
            · exact ⟨h.2.2.1, h.2.2.2, h.2.1⟩
          refine NX.ret1x rfl rfl (fun w hw => ⟨⟨⟨none, 0, x.oa, x.c⟩, by rw [hR.1]; exact hR.2.1⟩, by show Value.slice none 0 0 = Value.slice none (rdRaw l e).1.length 0; rw [hR.1]; rfl, ?_⟩)
          show St w (OwnSl 5 1 none (rdRaw l e).1.length 0 (bytesV (rdRaw l e).1) :: Box b 105 [.slice x.oa (rdRaw l e).2.1.length x.c, I (rdRaw l e).2.2] :: M) (ArrF x.oa (bytesV (rdRaw l e).2.1) :: F)
          rw [hR.1]
          have h9 := hw.drop 0 rfl
          rw [hR.2.2] at h9
          exact OwnSl.nil_new 5 1 h9
        · skip
          have h41 := h12
          refine TR.skip ?_
          refine NX.seq ?_
          refine TR.seq ?_
          refine TR.region ?_
          refine RL.move rfl rfl rfl ?_
          refine RL.assign rfl rfl rfl ?_
          refine RL.nil ?_
          refine NX.seq ?_
          refine TR.ret ?_
          have hE : x.e = 0 := by have := of_decide_eq_false h41; omega
          have hR : x.i = (rdU l e).1 ∧ rdRaw l e = ((rdU l e).2.1.take (rdU l e).1, (rdU l e).2.1.drop (rdU l e).1, 0) ∧ ((rdU l e).2.1.drop (rdU l e).1).length ≤ x.c ∧ ((rdU l e).2.1.take (rdU l e).1).length = (rdU l e).1 := by
            rcases hx with h | h
            · have hi : x.i = (rdU l e).1 := by
                have h8 := h.2.1
                rcases Nat.lt_or_ge x.i (rdU l e).1 with h7 | h7
                · exact absurd hE (hex h7)
                · omega
              refine ⟨hi, rdRaw_ok h.2.2.2.1 h.2.2.1, by rw [← hi]; exact h.2.2.2.2, by rw [List.length_take]; omega⟩
            · exact absurd hE h.1
          obtain ⟨hi, hR1, hR2, hR3⟩ := hR
          refine NX.ret1x rfl rfl (fun w hw => ⟨⟨⟨x.oo, x.oc, x.oa, x.c⟩, ?_⟩, ?_, ?_⟩)
          · rw [hR1]; exact hR2
          · show Value.slice x.oo x.i x.oc = Value.slice x.oo (rdRaw l e).1.length x.oc; rw [hR1]; show Value.slice x.oo x.i x.oc = Value.slice x.oo ((rdU l e).2.1.take (rdU l e).1).length x.oc; rw [hR3, hi]
          · show St w (OwnSl 5 1 x.oo (rdRaw l e).1.length x.oc (bytesV (rdRaw l e).1) :: Box b 105 [.slice x.oa (rdRaw l e).2.1.length x.c, I (rdRaw l e).2.2] :: M) (ArrF x.oa (bytesV (rdRaw l e).2.1) :: F)
            rw [hR1]
            show St w (OwnSl 5 1 x.oo ((rdU l e).2.1.take (rdU l e).1).length x.oc _ :: _) _
            rw [hR3]
            have h9 := hw
            rw [hi, hE] at h9
            exact h9
    · skip
      have hge : ¬ x.i < (rdU l e).1 := by have := of_decide_eq_false h8; omega
      have hex : x.i < (rdU l e).1 → ¬ x.e = 0 := fun h => absurd h hge
      refine RL.skip rfl rfl rfl ?_
      refine RL.skip rfl rfl rfl ?_
      refine RL.skip rfl rfl rfl ?_
      refine RL.skip rfl rfl rfl ?_
      refine RL.skip rfl rfl rfl ?_
      refine RL.pickF rfl rfl rfl rfl ?_
      refine RL.nil ?_
      refine NX.seq ?_
      refine TR.condF rfl ?_
      refine TR.exit ?_
      refine NX.exitThen ?_
      refine NX.exitThen ?_
      refine NX.exitHere ?_
      refine NX.seq ?_
      refine TR.seq ?_
      refine TR.seq ?_
      refine TR.region ?_
      refine RL.move rfl rfl rfl ?_
      refine RL.nilCheck rfl rfl rfl ?_
      refine RL.fieldAddr rfl wc_tf105_1 rfl rfl ?_
      refine RL.load1 1 rfl wc_ts39 rfl rfl rfl rfl ?_
      refine RL.bin rfl rfl rfl BinV.neq rfl ?_
      refine RL.nil ?_
      refine NX.seq ?_
      refine TR.cond rfl (fun h13 => ?_) (fun h13 => ?_)
      · skip
        have h41 := h13
        refine TR.seq ?_
        refine TR.region ?_
        refine RL.assign rfl rfl rfl ?_
        refine RL.nil ?_
        refine NX.seq ?_
        refine TR.ret ?_
        refine NX.retThen ?_
        have hE : x.e ≠ 0 := of_decide_eq_true h41
        have hR : rdRaw l e = ([], (rdU l e).2.1, x.e) ∧ (rdU l e).2.1.length ≤ x.c ∧ x.i = 0 := by
          rcases hx with h | h
          · exact absurd h.1 hE
          · exact ⟨h.2.2.1, h.2.2.2, h.2.1⟩
        refine NX.ret1x rfl rfl (fun w hw => ⟨⟨⟨none, 0, x.oa, x.c⟩, by rw [hR.1]; exact hR.2.1⟩, by show Value.slice none 0 0 = Value.slice none (rdRaw l e).1.length 0; rw [hR.1]; rfl, ?_⟩)
        show St w (OwnSl 5 1 none (rdRaw l e).1.length 0 (bytesV (rdRaw l e).1) :: Box b 105 [.slice x.oa (rdRaw l e).2.1.length x.c, I (rdRaw l e).2.2] :: M) (ArrF x.oa (bytesV (rdRaw l e).2.1) :: F)
        rw [hR.1]
        have h9 := hw.drop 0 rfl
        rw [hR.2.2] at h9
        exact OwnSl.nil_new 5 1 h9
      · skip
        have h41 := h13
        refine TR.skip ?_
        refine NX.seq ?_
        refine TR.seq ?_
        refine TR.region ?_
        refine RL.move rfl rfl rfl ?_
        refine RL.assign rfl rfl rfl ?_
        refine RL.nil ?_
        refine NX.seq ?_
        refine TR.ret ?_
        have hE : x.e = 0 := by have := of_decide_eq_false h41; omega
        have hR : x.i = (rdU l e).1 ∧ rdRaw l e = ((rdU l e).2.1.take (rdU l e).1, (rdU l e).2.1.drop (rdU l e).1, 0) ∧ ((rdU l e).2.1.drop (rdU l e).1).length ≤ x.c ∧ ((rdU l e).2.1.take (rdU l e).1).length = (rdU l e).1 := by
          rcases hx with h | h
          · have hi : x.i = (rdU l e).1 := by
              have h8 := h.2.1
              rcases Nat.lt_or_ge x.i (rdU l e).1 with h7 | h7
              · exact absurd hE (hex h7)
              · omega
            refine ⟨hi, rdRaw_ok h.2.2.2.1 h.2.2.1, by rw [← hi]; exact h.2.2.2.2, by rw [List.length_take]; omega⟩
          · exact absurd hE h.1
        obtain ⟨hi, hR1, hR2, hR3⟩ := hR
        refine NX.ret1x rfl rfl (fun w hw => ⟨⟨⟨x.oo, x.oc, x.oa, x.c⟩, ?_⟩, ?_, ?_⟩)
        · rw [hR1]; exact hR2
        · show Value.slice x.oo x.i x.oc = Value.slice x.oo (rdRaw l e).1.length x.oc; rw [hR1]; show Value.slice x.oo x.i x.oc = Value.slice x.oo ((rdU l e).2.1.take (rdU l e).1).length x.oc; rw [hR3, hi]
        · show St w (OwnSl 5 1 x.oo (rdRaw l e).1.length x.oc (bytesV (rdRaw l e).1) :: Box b 105 [.slice x.oa (rdRaw l e).2.1.length x.c, I (rdRaw l e).2.2] :: M) (ArrF x.oa (bytesV (rdRaw l e).2.1) :: F)
          rw [hR1]
          show St w (OwnSl 5 1 x.oo ((rdU l e).2.1.take (rdU l e).1).length x.oc _ :: _) _
          rw [hR3]
          have h9 := hw
          rw [hi, hE] at h9
          exact h9

theorem rRaw_spec {b : Nat} {l : List UInt8} {oa : Option Addr} {c : Nat} {e : Int} {M : List HP} {F : List Fact} (ha : ArrF oa (bytesV l) ∈ F) (hc : l.length ≤ c) (hl : l.length ≤ 70368744177664) : Ctr Try.prog 38 [.pointer (some ⟨b, 0, none⟩)] (Box b 105 [.slice oa l.length c, I e] :: M) F {z : RwX // (rdRaw l e).2.1.length ≤ z.c} (fun z => .slice z.1.ro (rdRaw l e).1.length z.1.rc) (fun z => OwnSl 5 1 z.1.ro (rdRaw l e).1.length z.1.rc (bytesV (rdRaw l e).1) :: Box b 105 [.slice z.1.oa (rdRaw l e).2.1.length z.1.c, I (rdRaw l e).2.2] :: M) (fun z => ArrF z.1.oa (bytesV (rdRaw l e).2.1) :: F) := by
  refine Ctr.body Try.func38 rfl rfl ?_
  refine TR.seq ?_
  refine TR.region ?_
  refine RL.assign rfl rfl rfl ?_
  refine RL.nil ?_
  refine NX.seq ?_
  refine TR.seq ?_
  refine TR.region ?_
  refine RL.move rfl rfl rfl ?_
  refine RL.move rfl rfl rfl ?_
  refine RL.makeFunc rfl rfl rfl rfl ?_
  refine RL.call rfl rfl Try.call66 rfl (rList_spec ha hc hl) (fun z => ?_)
  refine RL.assign rfl rfl rfl ?_
  refine RL.nil ?_
  refine NX.seq ?_
  refine TR.ret ?_
  exact NX.ret1 z rfl rfl rfl (fun w hw => hw)

end Go.Proofs.Ytdlpaojkkekdlaa

namespace Go.Proofs.Ytdlpaojkkekdlaa
open Go.GL
set_option linter.unusedVariables false
theorem wd_tby23 : tyByte Try.prog 23 = true := by kernel_rfl
theorem wd_ti3 : tyInt Try.prog 3 .i64 = true := by kernel_rfl
theorem wd_ti65 : tyInt Try.prog 65 .u64 = true := by kernel_rfl
theorem wd_tl23 : tySlice Try.prog 23 5 = true := by kernel_rfl
theorem wd_tstr9 : tyStr Try.prog 9 = true := by kernel_rfl
theorem wd_tz5 : tySize Try.prog 5 1 = true := by kernel_rfl
theorem bEqual_spec {x y : List UInt8} {oa ob : Option Addr} {c d : Nat} {M : List HP} {F : List Fact} (hA : Rd M F oa (bytesV x)) (hB : Rd M F ob (bytesV y)) : Ctr Try.prog 95 [.slice oa x.length c, .slice ob y.length d] M F Unit (fun _ => .bool (decide (x = y))) (fun _ => M) (fun _ => F) := by
  refine Ctr.body Try.func95 rfl rfl ?_
  refine TR.seq ?_
  refine TR.region ?_
  refine RL.assign rfl rfl rfl ?_
  refine RL.nil ?_
  refine NX.seq ?_
  refine TR.seq ?_
  refine TR.region ?_
  refine RL.move rfl rfl rfl ?_
  refine RL.convBS rfl wd_tby23 wd_tstr9 rfl rfl hA  rfl ?_
  refine RL.move rfl rfl rfl ?_
  refine RL.convBS rfl wd_tby23 wd_tstr9 rfl rfl hB  rfl ?_
  refine RL.bin rfl rfl rfl BinV.eqlS rfl ?_
  refine RL.assign rfl rfl rfl ?_
  refine RL.nil ?_
  refine NX.seq ?_
  refine TR.ret ?_
  exact NX.ret1 () rfl rfl rfl (fun w hw => hw)

theorem hasPrefix_spec {b f : List UInt8} {oa ob : Option Addr} {c d : Nat} {M : List HP} {F : List Fact} (ha : ArrF oa (bytesV b) ∈ F) (hb : ArrF ob (bytesV f) ∈ F) (hc : b.length ≤ c) : Ctr Try.prog 78 [.slice oa b.length c, .slice ob f.length d] M F Unit (fun _ => .bool (decide (f <+: b))) (fun _ => M) (fun _ => F) := by
  refine Ctr.body Try.func78 rfl rfl ?_
  refine TR.seq ?_
  refine TR.region ?_
  refine RL.assign rfl rfl rfl ?_
  refine RL.nil ?_
  refine NX.seq ?_
  refine TR.seq ?_
  refine TR.region ?_
  refine RL.move rfl rfl rfl ?_
  refine RL.lenSlice rfl wd_tl23 rfl rfl ?_
  refine RL.move rfl rfl rfl ?_
  refine RL.lenSlice rfl wd_tl23 rfl rfl ?_
  refine RL.bin rfl rfl rfl BinV.geq rfl ?_
  refine RL.move rfl rfl rfl ?_
  refine RL.part (fun h1 => ?_) (fun h1 => ?_)
  · skip
    have hle : f.length ≤ b.length := by have := of_decide_eq_true h1; omega
    refine RL.move rfl rfl rfl ?_
    refine RL.move rfl rfl rfl ?_
    refine RL.lenSlice rfl wd_tl23 rfl rfl ?_
    refine RL.sliceToB (k := f.length) (cap := c) rfl wd_tl23 wd_tz5 rfl rfl (by rw [List.length_take, Nat.min_eq_left hle]) hc ha rfl ?_
    refine RL.move rfl rfl rfl ?_
    refine RL.call rfl rfl Try.call95 rfl (bEqual_spec (x := b.take f.length) (y := f) (rd_fact (.head _)) (rd_fact (.tail _ hb))) (fun _ => ?_)
    refine RL.pickT rfl rfl rfl rfl ?_
    refine RL.assign rfl rfl rfl ?_
    refine RL.nil ?_
    refine NX.seq ?_
    refine TR.ret ?_
    refine NX.ret1 () rfl rfl ?_ (fun w hw => hw.facts (fun φ h => .tail _ h))
    congr 1
    exact decide_eq_decide.2 ⟨fun h => h ▸ List.take_prefix _ _, fun h => (List.prefix_iff_eq_take.1 h).symm⟩
  · skip
    have hle : ¬ f.length ≤ b.length := by have := of_decide_eq_false h1; omega
    refine RL.skip rfl rfl rfl ?_
    refine RL.skip rfl rfl rfl ?_
    refine RL.skip rfl rfl rfl ?_
    refine RL.skip rfl rfl rfl ?_
    refine RL.skip rfl rfl rfl ?_
    refine RL.skip rfl rfl rfl ?_
    refine RL.pickF rfl rfl rfl rfl ?_
    refine RL.assign rfl rfl rfl ?_
    refine RL.nil ?_
    refine NX.seq ?_
    refine TR.ret ?_
    refine NX.ret1 () rfl rfl ?_ (fun w hw => hw)
    congr 1
    exact (decide_eq_false (fun h => hle h.length_le)).symm

theorem frame_spec {i : Int} {x : List UInt8} {oa : Option Addr} {c : Nat} {M : List HP} {F : List Fact} (hR : Rd M F oa (bytesV x)) (h0 : -9223372036854775808 ≤ i) (h1 : i ≤ 9223372036854775807) (hx : x.length ≤ 17592186044416) : Ctr Try.prog 13 [I i, .slice oa x.length c] M F (Option Addr × Nat) (fun z => .slice z.1 (frameJ i x).length z.2) (fun z => OwnSl 5 1 z.1 (frameJ i x).length z.2 (bytesV (frameJ i x)) :: M) (fun _ => F) := by
  refine Ctr.body Try.func13 rfl rfl ?_
  refine TR.seq ?_
  refine TR.region ?_
  refine RL.assign rfl rfl rfl ?_
  refine RL.nil ?_
  refine NX.seq ?_
  refine TR.seq ?_
  refine TR.region ?_
  have hcl := coreJ_len h0 h1 (x := x) (by omega)
  have hfl := frameJ_len h0 h1 (x := x) (by omega)
  have h10 := encU_len10 (n := (coreJ i x).length) (by omega)
  refine RL.allocA rfl (Try.zeroValue50) rfl (fun b1 => ?_)
  refine RL.weak (fun w hw => St.wrNew (e := 5) hw) ?_
  refine RL.allocA rfl (Try.zeroValue50) rfl (fun b2 => ?_)
  refine RL.weak (fun w hw => St.wrNew (e := 5) hw) ?_
  refine RL.nil ?_
  refine NX.seq ?_
  refine TR.seq ?_
  refine TR.region ?_
  refine RL.move rfl rfl rfl ?_
  refine RL.call rfl rfl Try.call27 rfl (Ctr.frame1 [_] (wInt_spec (l := []) h0 h1 (by simp))) (fun _ => ?_)
  refine RL.nil ?_
  refine NX.seq ?_
  refine TR.seq ?_
  refine TR.region ?_
  refine RL.move rfl rfl rfl ?_
  refine RL.call rfl rfl Try.call36 rfl (Ctr.frame1 [_] (wRaw_spec (hR.mono (fun w hw => hw.tail.tail)) (by have := encU_len10 (zz_lt h0 h1); simp; omega) (by omega))) (fun _ => ?_)
  refine RL.nil ?_
  refine NX.seq ?_
  refine TR.seq ?_
  refine TR.region ?_
  refine RL.call rfl rfl Try.call30 rfl (Ctr.frame (J := [WrB 50 5 b1 (coreJ i x)]) (J' := fun z : Option Addr × Nat => [OwnSl 5 1 z.1 (coreJ i x).length z.2 (bytesV (coreJ i x)), WrB 50 5 b1 (coreJ i x)]) [_] (wDone_spec (l := coreJ i x) (by omega))) (fun z4 => ?_)
  refine RL.weak (fun w hw => (hw.front (i := 1) rfl).keepSl) ?_
  refine RL.call rfl rfl Try.call36 rfl (wRaw_spec (x := coreJ i x) (l := []) (rd_fact (.head _)) (by simp) (by omega)) (fun _ => ?_)
  refine RL.nil ?_
  refine NX.seq ?_
  refine TR.seq ?_
  refine TR.region ?_
  refine RL.call rfl rfl Try.call30 rfl (Ctr.frame (J := [WrB 50 5 b1 (coreJ i x)]) (J' := fun z : Option Addr × Nat => [OwnSl 5 1 z.1 (coreJ i x).length z.2 (bytesV (coreJ i x)), WrB 50 5 b1 (coreJ i x)]) [_] (wDone_spec (l := coreJ i x) (by omega))) (fun z5 => ?_)
  refine RL.weak (fun w hw => (hw.front (i := 1) rfl).keepSl) ?_
  refine RL.call rfl rfl Try.call40 rfl (hBytes_spec (lb := jl) (b := coreJ i x) (.head _) (by decide) (by omega)) (fun _ => ?_)
  refine RL.call rfl rfl Try.call37 rfl (wUint_spec hashN_lt (by unfold encR; simp only [List.length_append, List.length_nil]; omega)) (fun _ => ?_)
  refine RL.nil ?_
  refine NX.seq ?_
  refine TR.seq ?_
  refine TR.region ?_
  refine RL.call rfl rfl Try.call30 rfl (wDone_spec (l := frameJ i x) (by omega)) (fun z6 => ?_)
  refine RL.assign rfl rfl rfl ?_
  refine RL.nil ?_
  refine NX.seq ?_
  refine TR.ret ?_
  refine NX.ret1x rfl rfl (fun w hw => ⟨z6, rfl, ?_⟩)
  exact ((hw.drop 1 rfl).drop 1 rfl).facts (fun φ h => .tail _ (.tail _ h))

theorem record_spec {b : List UInt8} {oa : Option Addr} {c : Nat} {M : List HP} {F : List Fact} (ha : ArrF oa (bytesV b) ∈ F) (hc : b.length ≤ c) (hl : b.length ≤ 70368744177664) : Ctr Try.prog 77 [.slice oa b.length c] M F (Option Addr × Nat) (fun z => .slice z.1 (recOf b).length z.2) (fun z => OwnSl 5 1 z.1 (recOf b).length z.2 (bytesV (recOf b)) :: M) (fun _ => F) := by
  refine Ctr.body Try.func77 rfl rfl ?_
  refine TR.seq ?_
  refine TR.region ?_
  refine RL.assign rfl rfl rfl ?_
  refine RL.nil ?_
  refine NX.seq ?_
  refine TR.seq ?_
  refine TR.region ?_
  refine RL.move rfl rfl rfl ?_
  refine RL.move rfl rfl rfl ?_
  refine RL.lenSlice rfl wd_tl23 rfl rfl ?_
  refine RL.min rfl rfl rfl rfl ?_
  refine RL.sliceToB (k := 10) (cap := c) rfl wd_tl23 wd_tz5 rfl rfl (by rw [List.length_take]; omega) hc ha rfl ?_
  refine RL.call rfl rfl Try.call32 rfl (read_spec (l := b.take 10) (.head _) (by rw [List.length_take]; omega)) (fun r1 => ?_)
  refine RL.call rfl rfl Try.call39 rfl (rUint_spec (e := 0) (.head _) r1.2) (fun u1 => ?_)
  refine RL.assign rfl rfl rfl ?_
  refine RL.nil ?_
  refine NX.seq ?_
  refine TR.seq ?_
  refine TR.region ?_
  refine RL.move rfl rfl rfl ?_
  refine RL.lenSlice rfl wd_tl23 rfl rfl ?_
  refine RL.conv rfl rfl (ConvV.iu wd_ti3 wd_ti65 (by omega)) rfl ?_
  refine RL.assign rfl rfl rfl ?_
  refine RL.nil ?_
  refine NX.seq ?_
  refine TR.seq ?_
  refine TR.region ?_
  refine RL.move rfl rfl rfl ?_
  refine RL.move rfl rfl rfl ?_
  refine RL.move rfl rfl rfl ?_
  refine RL.move rfl rfl rfl ?_
  refine RL.minU rfl rfl rfl rfl ?_
  refine RL.bin rfl rfl rfl (BinV.addU (a := 10) (by omega)) rfl ?_
  refine RL.minU rfl rfl rfl rfl ?_
  refine RL.sliceToB (k := (min b.length (10 + min (rdU (b.take 10) 0).1 b.length))) (cap := c) rfl wd_tl23 wd_tz5 rfl rfl (by rw [List.length_take]; omega) hc (by first | exact ha | exact .tail _ ha | exact .tail _ (.tail _ ha) | exact .tail _ (.tail _ (.tail _ ha))) rfl ?_
  refine RL.call rfl rfl Try.call32 rfl (read_spec (l := b.take (min b.length (10 + min (rdU (b.take 10) 0).1 b.length))) (.head _) (by rw [List.length_take]; omega)) (fun r3 => ?_)
  refine RL.assign rfl rfl rfl ?_
  refine RL.nil ?_
  refine NX.seq ?_
  refine TR.seq ?_
  refine TR.region ?_
  refine RL.move rfl rfl rfl ?_
  have hco : (rdRaw (b.take (min b.length (10 + min (rdU (b.take 10) 0).1 b.length))) 0).1.length ≤ 70368744177664 := by
    have h9 := rdRaw_len (l := b.take (min b.length (10 + min (rdU (b.take 10) 0).1 b.length))) (e := 0)
    rw [List.length_take] at h9; omega
  have hco2 : (rdU (rdRaw (b.take (min b.length (10 + min (rdU (b.take 10) 0).1 b.length))) 0).1 0).2.1.length ≤ 70368744177664 := by
    have h9 := rdU_len (l := (rdRaw (b.take (min b.length (10 + min (rdU (b.take 10) 0).1 b.length))) 0).1) (e := 0)
    omega
  refine RL.call rfl rfl Try.call38 rfl (rRaw_spec (e := 0) (.head _) r3.2 (by rw [List.length_take]; omega)) (fun w4 => ?_)
  refine RL.weak (fun w hw => hw.keepSl) ?_
  refine RL.call rfl rfl Try.call32 rfl (read_spec (l := (rdRaw (b.take (min b.length (10 + min (rdU (b.take 10) 0).1 b.length))) 0).1) (.head _) hco) (fun r4 => ?_)
  refine RL.assign rfl rfl rfl ?_
  refine RL.nil ?_
  refine NX.seq ?_
  refine TR.seq ?_
  refine TR.region ?_
  refine RL.move rfl rfl rfl ?_
  refine RL.call rfl rfl Try.call33 rfl (rInt_spec (e := 0) (.head _) r4.2) (fun n4 => ?_)
  refine RL.nil ?_
  refine NX.seq ?_
  refine TR.seq ?_
  refine TR.region ?_
  refine RL.move rfl rfl rfl ?_
  refine RL.call rfl rfl Try.call38 rfl (rRaw_spec (.head _) n4.2 hco2) (fun w6 => ?_)
  refine RL.assign rfl rfl rfl ?_
  refine RL.nil ?_
  refine NX.seq ?_
  refine TR.ret ?_
  refine NX.ret1x rfl rfl (fun w hw => ⟨(w6.1.ro, w6.1.rc), rfl, ?_⟩)
  exact (((hw.drop 1 rfl).drop 1 rfl).drop 1 rfl).facts (fun φ h => by simp [h])

end Go.Proofs.Ytdlpaojkkekdlaa

namespace Go.Proofs.Ytdlpaojkkekdlaa
open Go.GL
set_option linter.unusedVariables false
theorem wf_bs116_1_0 (x0 : Int) : BuildSV Try.prog 116 65 1 [(0, .int .u64 x0)] [.int .u64 x0] := fun w => by kernel_rfl
theorem wf_ni116 : noInt Try.prog 116 = true := by kernel_rfl
theorem wf_ni23 : noInt Try.prog 23 = true := by kernel_rfl
theorem wf_te5 : tyElem Try.prog 5 1 1 = true := by kernel_rfl
theorem wf_te65 : tyElem Try.prog 65 1 8 = true := by kernel_rfl
theorem wf_ti5 : tyInt Try.prog 5 .u8 = true := by kernel_rfl
theorem wf_ti65 : tyInt Try.prog 65 .u64 = true := by kernel_rfl
theorem wf_tl116 : tySlice Try.prog 116 65 = true := by kernel_rfl
theorem wf_tl23 : tySlice Try.prog 23 5 = true := by kernel_rfl
theorem wf_ts5 : tyScalar Try.prog 5 = true := by kernel_rfl
theorem wf_tz5 : tySize Try.prog 5 1 = true := by kernel_rfl
def IntsOk (xs : List Int) : Prop := xs.length ≤ 9223372036854775807 ∧ ∀ x, x ∈ xs → -9223372036854775808 ≤ x ∧ x ≤ 9223372036854775807

theorem sameB_spec {xs ys : List UInt8} {oa ob : Option Addr} {ca cb : Nat} {M : List HP} {F : List Fact} (ha : ArrF oa (bytesV xs) ∈ F) (hb : ArrF ob (bytesV ys) ∈ F) (hxl : xs.length ≤ 4611686018427387904) : Ctr Try.prog 12 [.slice oa xs.length ca, .slice ob ys.length cb] M F Unit (fun _ => .bool (decide (xs = ys))) (fun _ => M) (fun _ => F) := by
  refine Ctr.body Try.func12 rfl rfl ?_
  refine TR.seq ?_
  refine TR.region ?_
  refine RL.assign rfl rfl rfl ?_
  refine RL.nil ?_
  refine NX.seq ?_
  refine TR.seq ?_
  refine TR.seq ?_
  refine TR.region ?_
  refine RL.move rfl rfl rfl ?_
  refine RL.lenSlice rfl wf_tl23 rfl rfl ?_
  refine RL.move rfl rfl rfl ?_
  refine RL.lenSlice rfl wf_tl23 rfl rfl ?_
  refine RL.bin rfl rfl rfl BinV.neq rfl ?_
  refine RL.nil ?_
  refine NX.seq ?_
  refine TR.cond rfl (fun h1 => ?_) (fun h1 => ?_)
  · skip
    have hlen : ¬ xs.length = ys.length := by have := of_decide_eq_true h1; omega
    refine TR.seq ?_
    refine TR.region ?_
    refine RL.assign rfl rfl rfl ?_
    refine RL.nil ?_
    refine NX.seq ?_
    refine TR.ret ?_
    refine NX.retThen ?_
    refine NX.ret1 () rfl rfl (congrArg Value.bool (Eq.symm (decide_eq_false (fun e => hlen (congrArg _ e))))) (fun w hw => hw)
  · skip
    have hlen : xs.length = ys.length := by have := of_decide_eq_false h1; omega
    refine TR.skip ?_
    refine NX.seq ?_
    refine TR.seq ?_
    refine TR.seq ?_
    refine TR.region ?_
    refine RL.assign rfl rfl rfl ?_
    refine RL.nil ?_
    refine NX.seq ?_
    refine TR.block ?_
    refine TR.loopP (ι := Nat) (fun k => k ≤ xs.length ∧ xs.take k = ys.take k) (fun k => [(0, .slice oa xs.length ca), (1, .slice ob ys.length cb), (5, I k)]) (fun _ => M) (fun _ => F) (fun k => xs.length - k) 0 ⟨Nat.zero_le _, rfl⟩ ⟨rfl, rfl, rfl, trivial⟩ (fun w hw => hw) (fun k hk => ?_)
    refine TR.seq ?_
    refine TR.seq ?_
    refine TR.region ?_
    refine RL.move rfl rfl rfl ?_
    refine RL.move rfl rfl rfl ?_
    refine RL.lenSlice rfl wf_tl23 rfl rfl ?_
    refine RL.bin rfl rfl rfl BinV.lss rfl ?_
    refine RL.nil ?_
    refine NX.seq ?_
    refine TR.cond rfl (fun h2 => ?_) (fun h2 => ?_)
    · skip
      have hk1 : k < xs.length := by simpa using h2
      have hk2 : k < ys.length := by omega
      refine TR.openP (open_arr ha (bytesV_ne hk1)) (fun x hx => ?_)
      refine TR.openP (open_arr (.tail _ hb) (bytesV_ne hk2)) (fun y hy => ?_)
      subst hx hy
      refine TR.skip ?_
      refine NX.seq ?_
      refine TR.seq ?_
      refine TR.block ?_
      refine TR.seq ?_
      refine TR.sub (E' := [(0, _), (1, _), (5, _), (11, _), (12, _), (13, _), (14, _)]) ⟨rfl, rfl, rfl, rfl, rfl, rfl, rfl, trivial⟩ ?_
      refine TR.draw mixed ?_
      apply AR.more [(0, _), (1, _), (2, _), (3, _), (4, _), (5, _), (6, _), (7, _), (8, _)]
      refine AR.last [0, 1, 2, 3, 4, 5, 6, 7, 8] [0, 1, 2, 3, 4, 5, 6, 7, 8] ⟨QOne.yes rfl rfl rfl (PV.move rfl), QOne.yes rfl rfl rfl (PV.move rfl), QOne.yes rfl rfl rfl (PV.indexAddr wf_tl23 wf_tz5 rfl rfl (by omega) (by omega)), QOne.yes rfl rfl rfl (PV.loadF rfl (fun w K hF => run_loadCell1 (j := (k : Int).toNat * 1) (v := .int .u8 (xs[k].toNat : Int)) (hF _ (.tail _ (.head _))) wf_ts5 (bytesV_get hk1))), QOne.yes rfl rfl rfl (PV.move rfl), QOne.yes rfl rfl rfl (PV.move rfl), QOne.yes rfl rfl rfl (PV.indexAddr wf_tl23 wf_tz5 rfl rfl (by omega) (by omega)), QOne.yes rfl rfl rfl (PV.loadF rfl (fun w K hF => run_loadCell1 (j := (k : Int).toNat * 1) (v := .int .u8 (ys[k].toNat : Int)) (hF _ (.head _)) wf_ts5 (bytesV_get hk2))), QOne.yes rfl rfl rfl (PV.bin rfl rfl BinV.neq), trivial⟩ rfl rfl rfl ?_
      refine NX.sub (E' := [(0, _), (1, _), (5, _), (11, _), (12, _), (13, _), (14, _), (17, _), (18, _), (19, _), (20, _), (21, _), (22, _), (23, _), (24, _), (25, _)]) ⟨rfl, rfl, rfl, rfl, rfl, rfl, rfl, rfl, rfl, rfl, rfl, rfl, rfl, rfl, rfl, rfl, trivial⟩ ?_
      refine NX.seq ?_
      refine TR.cond rfl (fun h3 => ?_) (fun h3 => ?_)
      · skip
        refine TR.seq ?_
        refine TR.region ?_
        refine RL.assign rfl rfl rfl ?_
        refine RL.nil ?_
        refine NX.seq ?_
        refine TR.ret ?_
        refine NX.retBlock ?_
        refine NX.retThen ?_
        refine NX.retThen ?_
        refine NX.retBlock ?_
        refine NX.retThen ?_
        refine NX.ret1 () rfl rfl (congrArg Value.bool (Eq.symm (decide_eq_false (tk_ne hk1 hk2 (byte_ne (by simpa using h3)))))) (fun w hw => ?_)
        exact hw.facts (fun φ h => .tail _ (.tail _ (h)))
      · skip
        refine TR.skip ?_
        refine NX.off ?_
        refine NX.seq ?_
        refine TR.region ?_
        refine RL.move rfl rfl rfl ?_
        refine RL.bin rfl rfl rfl (BinV.add _ rfl (by omega) (by omega)) rfl ?_
        refine RL.assign rfl rfl rfl ?_
        refine RL.nil ?_
        refine NX.roundP (k + 1) ⟨by omega, tk_step hk.2 hk1 hk2 (byte_inj (by simpa using h3))⟩ (by omega) ⟨rfl, rfl, rfl, trivial⟩ (fun w hw => ?_)
        exact hw.facts (fun φ h => .tail _ (.tail _ (h)))
    · skip
      refine TR.exit ?_
      refine NX.exitThen ?_
      refine NX.exitThen ?_
      refine NX.exitHere ?_
      refine NX.seq ?_
      refine TR.seq ?_
      refine TR.region ?_
      refine RL.assign rfl rfl rfl ?_
      refine RL.nil ?_
      refine NX.seq ?_
      refine TR.ret ?_
      refine NX.ret1 () rfl rfl (congrArg Value.bool (Eq.symm (decide_eq_true (tk_all hk.2 (by simpa using h2) hlen)))) (fun w hw => hw)

theorem around_spec {n m : Int} {M : List HP} {F : List Fact} (hm : 0 < m) (h0 : -9223372036854775808 ≤ n) (h1 : n ≤ 9223372036854775807) : Ctr Try.prog 20 [I n, I m] M F {r : Int // 0 ≤ r ∧ r < m} (fun r => I r.1) (fun _ => M) (fun _ => F) := by
  refine Ctr.body Try.func20 rfl rfl ?_
  refine TR.seq ?_
  refine TR.region ?_
  refine RL.assign rfl rfl rfl ?_
  refine RL.nil ?_
  refine NX.seq ?_
  refine TR.seq ?_
  refine TR.seq ?_
  refine TR.region ?_
  refine RL.move rfl rfl rfl ?_
  refine RL.bin rfl rfl rfl BinV.lss rfl ?_
  refine RL.nil ?_
  refine NX.seq ?_
  refine TR.cond rfl (fun h1 => ?_) (fun h1 => ?_)
  · skip
    have hn := of_decide_eq_true h1
    refine TR.region ?_
    refine RL.move rfl rfl rfl ?_
    refine RL.bin rfl rfl rfl (BinV.add _ rfl (by omega) (by omega)) rfl ?_
    refine RL.neg rfl rfl (by omega) (by omega) rfl ?_
    refine RL.assign rfl rfl rfl ?_
    refine RL.nil ?_
    refine NX.seq ?_
    refine TR.seq ?_
    refine TR.region ?_
    refine RL.move rfl rfl rfl ?_
    refine RL.move rfl rfl rfl ?_
    refine RL.bin rfl rfl rfl (BinV.rem (by omega)) rfl ?_
    refine RL.assign rfl rfl rfl ?_
    refine RL.nil ?_
    refine NX.seq ?_
    refine TR.ret ?_
    refine NX.ret1 ⟨_, ?_, ?_⟩ rfl rfl rfl (fun w hw => hw)
    · exact Int.tmod_nonneg _ (by omega)
    · exact Int.tmod_lt_of_pos _ (by omega)
  · skip
    have hn := of_decide_eq_false h1
    refine TR.skip ?_
    refine NX.seq ?_
    refine TR.seq ?_
    refine TR.region ?_
    refine RL.move rfl rfl rfl ?_
    refine RL.move rfl rfl rfl ?_
    refine RL.bin rfl rfl rfl (BinV.rem (by omega)) rfl ?_
    refine RL.assign rfl rfl rfl ?_
    refine RL.nil ?_
    refine NX.seq ?_
    refine TR.ret ?_
    refine NX.ret1 ⟨_, ?_, ?_⟩ rfl rfl rfl (fun w hw => hw)
    · exact Int.tmod_nonneg _ (by omega)
    · exact Int.tmod_lt_of_pos _ (by omega)

theorem few_spec {b : List UInt8} {m : Nat} {oa : Option Addr} {c : Nat} {M : List HP} {F : List Fact} (ha : ArrF oa (bytesV b) ∈ F) (hc : b.length ≤ c) (hm : m ≤ 70368744177664) : Ctr Try.prog 11 [.slice oa b.length c, I (m : Int)] M F (Option Addr × Nat) (fun z => .slice z.1 (b.take m).length z.2) (fun z => OwnSl 5 1 z.1 (b.take m).length z.2 (bytesV (b.take m)) :: M) (fun _ => F) := by
  refine Ctr.body Try.func11 rfl rfl ?_
  refine TR.seq ?_
  refine TR.region ?_
  refine RL.assign rfl rfl rfl ?_
  refine RL.nil ?_
  refine NX.seq ?_
  refine TR.seq ?_
  refine TR.region ?_
  refine RL.assign rfl rfl rfl ?_
  refine RL.weak (fun w hw => OwnSl.nil_new 5 1 hw) ?_
  refine RL.nil ?_
  refine NX.seq ?_
  refine TR.seq ?_
  refine TR.region ?_
  refine RL.move rfl rfl rfl ?_
  refine RL.move rfl rfl rfl ?_
  refine RL.move rfl rfl rfl ?_
  refine RL.lenSlice rfl wf_tl23 rfl rfl ?_
  refine RL.move rfl rfl rfl ?_
  refine RL.min rfl rfl rfl rfl ?_
  refine RL.sliceToB (k := m) (cap := c) rfl wf_tl23 wf_tz5 rfl rfl (by rw [List.length_take]; omega) hc ha rfl ?_
  refine RL.ofGV rfl rfl (GV.append (j := 0) wf_tl23 wf_ni23 wf_te5 rfl rfl rfl (src_fact (xs := bytesV (b.take m)) (.head _) (by rw [bytesV_length, Nat.mul_one]) (bytesV_one _)) (by rw [List.length_take]; omega) (by rw [List.length_take]; omega)) (fun y => ?_)
  refine RL.assign rfl rfl rfl ?_
  refine RL.nil ?_
  refine NX.seq ?_
  refine TR.ret ?_
  refine NX.ret1x rfl rfl (fun w hw => ⟨(y.1, y.2), ?_, ?_⟩)
  · rw [Nat.zero_add]
  · have h9 := hw.facts (F' := F) (fun φ h => .tail _ h)
    have h8 : St w (OwnSl 5 1 y.1 (0 + (b.take m).length) y.2 ([] ++ bytesV (b.take m)) :: M) F := h9
    rw [Nat.zero_add] at h8
    exact h8

theorem rmix_spec {s w : Nat} {M : List HP} {F : List Fact} (hs : s < 18446744073709551616) (hw : w < 18446744073709551616) : Ctr Try.prog 94 [U s, U w] M F Unit (fun _ => U (mixN s w)) (fun _ => M) (fun _ => F) := by
  refine Ctr.body Try.func94 rfl rfl ?_
  refine TR.seq ?_
  refine TR.region ?_
  refine RL.assign rfl rfl rfl ?_
  refine RL.nil ?_
  refine NX.seq ?_
  refine TR.seq ?_
  refine TR.region ?_
  refine RL.move rfl rfl rfl ?_
  refine RL.move rfl rfl rfl ?_
  refine RL.bin rfl rfl rfl (BinV.xorU hs hw) rfl ?_
  refine RL.bin rfl rfl rfl (BinV.mulUw (b := 11400714819323198485)) rfl ?_
  refine RL.assign rfl rfl rfl ?_
  refine RL.nil ?_
  refine NX.seq ?_
  refine TR.seq ?_
  refine TR.region ?_
  refine RL.move rfl rfl rfl ?_
  refine RL.move rfl rfl rfl ?_
  refine RL.bin rfl rfl rfl (BinV.quoU (b := 4294967296) (Nat.mod_lt _ (by omega)) (by omega)) rfl ?_
  refine RL.bin rfl rfl rfl (BinV.xorU (Nat.mod_lt _ (by omega)) (Nat.lt_of_le_of_lt (Nat.div_le_self _ _) (Nat.mod_lt _ (by omega)))) rfl ?_
  refine RL.assign rfl rfl rfl ?_
  refine RL.nil ?_
  refine NX.seq ?_
  refine TR.ret ?_
  exact NX.ret1 () rfl rfl (by unfold mixN; rfl) (fun w hw => hw)

structure WsX where
  k : Nat
  oa : Option Addr
  c : Nat

theorem words_spec {b : List UInt8} {oa : Option Addr} {c : Nat} {M : List HP} {F : List Fact} (ha : ArrF oa (bytesV b) ∈ F) (hl : b.length ≤ 70368744177664) : Ctr Try.prog 74 [.slice oa b.length c] M F (Option Addr × Nat) (fun z => .slice z.1 (wordsN b).length z.2) (fun z => OwnSl 65 1 z.1 (wordsN b).length z.2 (wordsV (wordsN b)) :: M) (fun _ => F) := by
  refine Ctr.body Try.func74 rfl rfl ?_
  refine TR.seq ?_
  refine TR.region ?_
  refine RL.assign rfl rfl rfl ?_
  refine RL.nil ?_
  refine NX.seq ?_
  refine TR.seq ?_
  refine TR.region ?_
  refine RL.assign rfl rfl rfl ?_
  refine RL.weak (fun w hw => OwnSl.nil_new 65 1 hw) ?_
  refine RL.nil ?_
  refine NX.seq ?_
  refine TR.seq ?_
  refine TR.seq ?_
  refine TR.region ?_
  refine RL.assign rfl rfl rfl ?_
  refine RL.nil ?_
  refine NX.seq ?_
  refine TR.block ?_
  refine TR.loopP (ι := WsX) (fun x => x.k ≤ (wordsN b).length) (fun x => [(0, .slice oa b.length c), (3, .slice x.oa x.k x.c), (4, I ((8 * x.k : Nat) : Int))]) (fun x => OwnSl 65 1 x.oa x.k x.c (wordsV ((wordsN b).take x.k)) :: M) (fun _ => F) (fun x => (wordsN b).length - x.k) ⟨0, none, 0⟩ (Nat.zero_le _) ⟨rfl, rfl, rfl, trivial⟩ (fun w hw => hw) (fun x hx => ?_)
  refine TR.seq ?_
  refine TR.seq ?_
  refine TR.region ?_
  refine RL.move rfl rfl rfl ?_
  refine RL.move rfl rfl rfl ?_
  refine RL.lenSlice rfl wf_tl23 rfl rfl ?_
  refine RL.bin rfl rfl rfl BinV.lss rfl ?_
  refine RL.nil ?_
  refine NX.seq ?_
  refine TR.cond rfl (fun h1 => ?_) (fun h1 => ?_)
  · skip
    have h8 : 8 * x.k < b.length := by have := of_decide_eq_true h1; omega
    have hk1 : x.k < (wordsN b).length := by rw [wordsN_length]; omega
    refine TR.skip ?_
    refine NX.seq ?_
    refine TR.seq ?_
    refine TR.block ?_
    refine TR.seq ?_
    refine TR.region ?_
    refine RL.assign rfl rfl rfl ?_
    refine RL.nil ?_
    refine NX.seq ?_
    refine TR.seq ?_
    refine TR.seq ?_
    refine TR.region ?_
    refine RL.move rfl rfl rfl ?_
    refine RL.bin rfl rfl rfl (BinV.add _ rfl (by omega) (by omega)) rfl ?_
    refine RL.move rfl rfl rfl ?_
    refine RL.lenSlice rfl wf_tl23 rfl rfl ?_
    refine RL.min rfl rfl rfl rfl ?_
    refine RL.bin rfl rfl rfl (BinV.sub _ rfl (by omega) (by omega)) rfl ?_
    refine RL.assign rfl rfl rfl ?_
    refine RL.nil ?_
    refine NX.seq ?_
    refine TR.block ?_
    refine TR.loopP (ι := Nat) (fun j => j ≤ (min (8 * x.k + 8) b.length - 8 * x.k)) (fun j => [(0, .slice oa b.length c), (3, .slice x.oa x.k x.c), (4, I ((8 * x.k : Nat) : Int)), (5, U (wordN (((b.drop (8 * x.k)).take (min (8 * x.k + 8) b.length - 8 * x.k)).drop j))), (6, I (8 * x.k + (j : Int) - 1))]) (fun _ => OwnSl 65 1 x.oa x.k x.c (wordsV ((wordsN b).take x.k)) :: M) (fun _ => F) (fun j => j) (min (8 * x.k + 8) b.length - 8 * x.k) (Nat.le_refl _) ⟨rfl, rfl, rfl, congrArg (fun z => some (U z)) (by rw [List.drop_of_length_le (by rw [word_len (by omega)]; omega)]; rfl), congrArg (fun z => some (I z)) (by omega), trivial⟩ (fun w hw => hw) (fun j hj => ?_)
    refine TR.seq ?_
    refine TR.seq ?_
    refine TR.region ?_
    refine RL.move rfl rfl rfl ?_
    refine RL.move rfl rfl rfl ?_
    refine RL.bin rfl rfl rfl BinV.geq rfl ?_
    refine RL.nil ?_
    refine NX.seq ?_
    refine TR.cond rfl (fun h2 => ?_) (fun h2 => ?_)
    · skip
      have hj1 : 0 < j := by have := of_decide_eq_true h2; omega
      have hj2 : 8 * x.k + (j - 1) < b.length := by omega
      have hwd := word_down (b := b) (k := x.k) (m := (min (8 * x.k + 8) b.length - 8 * x.k)) (j := j - 1) (by omega) (by omega) (by omega)
      rw [show j - 1 + 1 = j from by omega] at hwd
      refine TR.openP (open_arr (oa := oa) (xs := bytesV b) ha (bytesV_ne hj2)) (fun pq hpa => ?_)
      refine TR.skip ?_
      refine NX.seq ?_
      refine TR.seq ?_
      refine TR.block ?_
      refine TR.region ?_
      refine RL.move rfl rfl rfl ?_
      refine RL.bin rfl rfl rfl (BinV.mulU (a := 256) (by omega)) rfl ?_
      refine RL.move rfl rfl rfl ?_
      refine RL.move rfl rfl rfl ?_
      refine RL.indexAddr (n := ((8 * x.k + (j - 1) : Nat) : Int)) rfl wf_tl23 wf_tz5 (congrArg (fun a => some (Value.slice a _ _)) hpa) (congrArg (fun z => some (I z)) (by omega)) (by omega) (by omega) rfl ?_
      refine RL.loadF rfl rfl (fun w K hF => run_loadCell1 (j := ((8 * x.k + (j - 1) : Nat) : Int).toNat * 1) (v := .int .u8 (b[8 * x.k + (j - 1)].toNat : Int)) (hF _ (.head _)) wf_ts5 (bytesV_get hj2)) rfl ?_
      refine RL.conv rfl rfl (ConvV.bu wf_ti5 wf_ti65 (by have := (b[8 * x.k + (j - 1)]).toNat_lt; omega)) rfl ?_
      refine RL.bin rfl rfl rfl (BinV.addU hwd.2) rfl ?_
      refine RL.assign rfl rfl rfl ?_
      refine RL.nil ?_
      refine NX.off ?_
      refine NX.seq ?_
      refine TR.region ?_
      refine RL.move rfl rfl rfl ?_
      refine RL.bin rfl rfl rfl (BinV.sub _ rfl (by omega) (by omega)) rfl ?_
      refine RL.assign rfl rfl rfl ?_
      refine RL.nil ?_
      refine NX.roundP (j - 1) (by omega) (by omega) ⟨rfl, rfl, rfl, congrArg (fun z => some (U z)) hwd.1, congrArg (fun z => some (I z)) (by omega), trivial⟩ (fun w hw => hw.facts (fun φ h => .tail _ h))
    · skip
      have hj0 : j = 0 := by have := of_decide_eq_false h2; omega
      subst hj0
      have hall : ((b.drop (8 * x.k)).take (min (8 * x.k + 8) b.length - 8 * x.k)).drop 0 = (b.drop (8 * x.k)).take 8 := by rw [List.drop_zero]; exact word_all (k := x.k) (by omega) (by omega) (by omega)
      rw [hall]
      refine TR.exit ?_
      refine NX.exitThen ?_
      refine NX.exitThen ?_
      refine NX.exitHere ?_
      refine NX.seq ?_
      refine TR.region ?_
      refine RL.move rfl rfl rfl ?_
      refine RL.move rfl rfl rfl ?_
      refine RL.buildSlice rfl rfl (wf_bs116_1_0 _) rfl (fun b3 => ?_)
      refine RL.ofGV rfl rfl (GV.append (j := 1) wf_tl116 wf_ni116 wf_te65 rfl rfl rfl (src_box (i := 0) rfl rfl rfl) (by rw [wordsN_length] at hk1; omega) (by rw [wordsN_length] at hk1; omega)) (fun y => ?_)
      refine RL.assign rfl rfl rfl ?_
      refine RL.nil ?_
      refine NX.off ?_
      refine NX.seq ?_
      refine TR.region ?_
      refine RL.move rfl rfl rfl ?_
      refine RL.bin rfl rfl rfl (BinV.add _ rfl (by omega) (by omega)) rfl ?_
      refine RL.assign rfl rfl rfl ?_
      refine RL.nil ?_
      refine NX.roundP ⟨x.k + 1, y.1, y.2⟩ (show x.k + 1 ≤ _ from hk1) (by show _ - (x.k + 1) < _ - x.k; omega) ⟨rfl, rfl, congrArg (fun z => some (I z)) (by show _ = ((8 * (x.k + 1) : Nat) : Int); omega), trivial⟩ (fun w hw => ?_)
      show St w (OwnSl 65 1 y.1 (x.k + 1) y.2 (wordsV ((wordsN b).take (x.k + 1))) :: M) F
      rw [List.take_succ_eq_append_getElem hk1, wordsN_get hk1, wordsV_snoc]
      exact hw.drop 0 rfl
  · skip
    have h8 : b.length ≤ 8 * x.k := by have := of_decide_eq_false h1; omega
    have hk2 : x.k = (wordsN b).length := by have := hx; rw [wordsN_length] at this ⊢; omega
    refine TR.exit ?_
    refine NX.exitThen ?_
    refine NX.exitThen ?_
    refine NX.exitHere ?_
    refine NX.seq ?_
    refine TR.seq ?_
    refine TR.region ?_
    refine RL.move rfl rfl rfl ?_
    refine RL.assign rfl rfl rfl ?_
    refine RL.nil ?_
    refine NX.seq ?_
    refine TR.ret ?_
    refine NX.ret1x rfl rfl (fun w hw => ⟨(x.oa, x.c), by rw [hk2], ?_⟩)
    rw [hk2, List.take_length] at hw
    exact hw

end Go.Proofs.Ytdlpaojkkekdlaa

namespace Go.Proofs.Ytdlpaojkkekdlaa
open Go.GL
set_option linter.unusedVariables false
theorem wg_bs22_1_0 (x0 : Int) : BuildSV Try.prog 22 3 1 [(0, .int .i64 x0)] [.int .i64 x0] := fun w => by kernel_rfl
theorem wg_bs23_1_0 (x0 : Int) : BuildSV Try.prog 23 5 1 [(0, .int .u8 x0)] [.int .u8 x0] := fun w => by kernel_rfl
theorem wg_ni22 : noInt Try.prog 22 = true := by kernel_rfl
theorem wg_ni23 : noInt Try.prog 23 = true := by kernel_rfl
theorem wg_tby23 : tyByte Try.prog 23 = true := by kernel_rfl
theorem wg_te3 : tyElem Try.prog 3 1 8 = true := by kernel_rfl
theorem wg_te5 : tyElem Try.prog 5 1 1 = true := by kernel_rfl
theorem wg_ti3 : tyInt Try.prog 3 .i64 = true := by kernel_rfl
theorem wg_ti5 : tyInt Try.prog 5 .u8 = true := by kernel_rfl
theorem wg_ti65 : tyInt Try.prog 65 .u64 = true := by kernel_rfl
theorem wg_tl116 : tySlice Try.prog 116 65 = true := by kernel_rfl
theorem wg_tl22 : tySlice Try.prog 22 3 = true := by kernel_rfl
theorem wg_tl23 : tySlice Try.prog 23 5 = true := by kernel_rfl
theorem wg_ts3 : tyScalar Try.prog 3 = true := by kernel_rfl
theorem wg_ts65 : tyScalar Try.prog 65 = true := by kernel_rfl
theorem wg_tstr9 : tyStr Try.prog 9 = true := by kernel_rfl
theorem wg_tz3 : tySize Try.prog 3 1 = true := by kernel_rfl
theorem wg_tz65 : tySize Try.prog 65 1 = true := by kernel_rfl
theorem rsum_spec {lb : List UInt8} {l : List Int} {oa : Option Addr} {c : Nat} {M : List HP} {F : List Fact} (ha : ArrF oa (ints l) ∈ F) (hlb : lb.length ≤ 70368744177664) (hl : l.length ≤ 4611686018427387904) : Ctr Try.prog 75 [S lb, .slice oa l.length c] M F Unit (fun _ => U (sumN lb l)) (fun _ => M) (fun _ => F) := by
  refine Ctr.body Try.func75 rfl rfl ?_
  refine TR.seq ?_
  refine TR.region ?_
  refine RL.assign rfl rfl rfl ?_
  refine RL.nil ?_
  refine NX.seq ?_
  refine TR.seq ?_
  refine TR.region ?_
  refine RL.assign rfl rfl rfl ?_
  refine RL.nil ?_
  refine NX.seq ?_
  refine TR.seq ?_
  refine TR.region ?_
  have hwl := wordsN_length lb
  refine RL.move rfl rfl rfl ?_
  refine RL.convSB rfl wg_tstr9 wg_tby23 rfl rfl (fun q => ?_)
  refine RL.call rfl rfl Try.call74 rfl (words_spec (b := lb) (.head _) hlb) (fun v => ?_)
  refine RL.weak (fun w hw => hw.keepSl) ?_
  refine RL.assign rfl rfl rfl ?_
  refine RL.nil ?_
  refine NX.seq ?_
  refine TR.seq ?_
  refine TR.seq ?_
  refine TR.region ?_
  refine RL.assign rfl rfl rfl ?_
  refine RL.nil ?_
  refine NX.seq ?_
  refine TR.block ?_
  refine TR.loopP (ι := Nat) (fun k => k ≤ (wordsN lb).length) (fun k => [(0, S lb), (1, .slice oa l.length c), (5, U (((wordsN lb).take k).foldl mixN 0)), (6, .slice v.1 (wordsN lb).length v.2), (7, I k)]) (fun _ => M) (fun _ => ArrF v.1 (wordsV (wordsN lb)) :: ArrF q.1.1 (bytesV lb) :: F) (fun k => (wordsN lb).length - k) 0 (Nat.zero_le _) ⟨rfl, rfl, rfl, rfl, rfl, trivial⟩ (fun w hw => hw) (fun k hk => ?_)
  refine TR.seq ?_
  refine TR.seq ?_
  refine TR.region ?_
  refine RL.move rfl rfl rfl ?_
  refine RL.move rfl rfl rfl ?_
  refine RL.lenSlice rfl wg_tl116 rfl rfl ?_
  refine RL.bin rfl rfl rfl BinV.lss rfl ?_
  refine RL.nil ?_
  refine NX.seq ?_
  refine TR.cond rfl (fun h1 => ?_) (fun h1 => ?_)
  · skip
    have hk1 : k < (wordsN lb).length := by have := of_decide_eq_true h1; omega
    refine TR.openP (open_arr (oa := v.1) (xs := wordsV (wordsN lb)) (.head _) (wordsV_ne hk1)) (fun pq hpa => ?_)
    refine TR.skip ?_
    refine NX.seq ?_
    refine TR.seq ?_
    refine TR.block ?_
    refine TR.region ?_
    refine RL.move rfl rfl rfl ?_
    refine RL.move rfl rfl rfl ?_
    refine RL.move rfl rfl rfl ?_
    refine RL.indexAddr rfl wg_tl116 wg_tz65 (congrArg (fun a => some (Value.slice a _ _)) hpa) rfl (by omega) (by omega) rfl ?_
    refine RL.loadF rfl rfl (fun w K hF => run_loadCell1 (j := (k : Int).toNat * 1) (v := U (wordsN lb)[k]) (hF _ (.head _)) wg_ts65 (wordsV_get hk1)) rfl ?_
    refine RL.call rfl rfl Try.call94 rfl (rmix_spec (foldl_mix_lt (by omega)) (words_mem_lt hk1)) (fun _ => ?_)
    refine RL.assign rfl rfl rfl ?_
    refine RL.nil ?_
    refine NX.off ?_
    refine NX.seq ?_
    refine TR.region ?_
    refine RL.move rfl rfl rfl ?_
    refine RL.bin rfl rfl rfl (BinV.add _ rfl (by omega) (by omega)) rfl ?_
    refine RL.assign rfl rfl rfl ?_
    refine RL.nil ?_
    refine NX.roundP (k + 1) (by omega) (by omega) ⟨rfl, rfl, congrArg (fun z => some (U z)) (by rw [List.take_succ_eq_append_getElem hk1, List.foldl_append, List.foldl_cons, List.foldl_nil]), rfl, rfl, trivial⟩ (fun w hw => hw.facts (fun φ h => .tail _ h))
  · skip
    have hk2 : k = (wordsN lb).length := by have := of_decide_eq_false h1; omega
    rw [hk2, List.take_length]
    refine TR.exit ?_
    refine NX.exitThen ?_
    refine NX.exitThen ?_
    refine NX.exitHere ?_
    refine NX.seq ?_
    refine TR.seq ?_
    refine TR.region ?_
    refine RL.move rfl rfl rfl ?_
    refine RL.move rfl rfl rfl ?_
    refine RL.lenStr rfl wg_tstr9 rfl rfl ?_
    refine RL.conv rfl rfl (ConvV.iu wg_ti3 wg_ti65 (by omega)) rfl ?_
    refine RL.call rfl rfl Try.call94 rfl (rmix_spec (foldl_mix_lt (by omega)) (by omega)) (fun _ => ?_)
    refine RL.assign rfl rfl rfl ?_
    refine RL.nil ?_
    refine NX.seq ?_
    refine TR.seq ?_
    refine TR.region ?_
    refine RL.move rfl rfl rfl ?_
    refine RL.move rfl rfl rfl ?_
    refine RL.lenSlice rfl wg_tl22 rfl rfl ?_
    refine RL.conv rfl rfl (ConvV.iu wg_ti3 wg_ti65 (by omega)) rfl ?_
    refine RL.call rfl rfl Try.call94 rfl (rmix_spec mixN_lt (by omega)) (fun _ => ?_)
    refine RL.assign rfl rfl rfl ?_
    refine RL.nil ?_
    refine NX.seq ?_
    refine TR.seq ?_
    refine TR.seq ?_
    refine TR.region ?_
    refine RL.assign rfl rfl rfl ?_
    refine RL.nil ?_
    refine NX.seq ?_
    refine TR.block ?_
    refine TR.loopP (ι := Nat) (fun k => k ≤ l.length) (fun k => [(1, .slice oa l.length c), (5, U ((l.take k).foldl (fun s n => mixN s (u64of n)) (mixN (mixN ((wordsN lb).foldl mixN 0) lb.length) l.length))), (8, I k)]) (fun _ => M) (fun _ => ArrF v.1 (wordsV (wordsN lb)) :: ArrF q.1.1 (bytesV lb) :: F) (fun k => l.length - k) 0 (Nat.zero_le _) ⟨rfl, congrArg (fun z => some (U z)) (by rw [List.take_zero, List.foldl_nil]), rfl, trivial⟩ (fun w hw => hw) (fun k hk => ?_)
    refine TR.seq ?_
    refine TR.seq ?_
    refine TR.region ?_
    refine RL.move rfl rfl rfl ?_
    refine RL.move rfl rfl rfl ?_
    refine RL.lenSlice rfl wg_tl22 rfl rfl ?_
    refine RL.bin rfl rfl rfl BinV.lss rfl ?_
    refine RL.nil ?_
    refine NX.seq ?_
    refine TR.cond rfl (fun h2 => ?_) (fun h2 => ?_)
    · skip
      have hk1 : k < l.length := by have := of_decide_eq_true h2; omega
      refine TR.openP (open_arr (oa := oa) (xs := ints l) (.tail _ (.tail _ ha)) (ints_ne (by omega))) (fun pq hpa => ?_)
      refine TR.skip ?_
      refine NX.seq ?_
      refine TR.seq ?_
      refine TR.block ?_
      refine TR.region ?_
      refine RL.move rfl rfl rfl ?_
      refine RL.move rfl rfl rfl ?_
      refine RL.move rfl rfl rfl ?_
      refine RL.indexAddr rfl wg_tl22 wg_tz3 (congrArg (fun a => some (Value.slice a _ _)) hpa) rfl (by omega) (by omega) rfl ?_
      refine RL.loadF rfl rfl (fun w K hF => run_loadCell1 (j := (k : Int).toNat * 1) (v := I l[k]) (hF _ (.head _)) wg_ts3 (by simp [hk1])) rfl ?_
      refine RL.conv rfl rfl (ConvV.iu64 wg_ti3 wg_ti65) rfl ?_
      refine RL.call rfl rfl Try.call94 rfl (rmix_spec (foldl_mixI_lt mixN_lt) (u64of_lt _)) (fun _ => ?_)
      refine RL.assign rfl rfl rfl ?_
      refine RL.nil ?_
      refine NX.off ?_
      refine NX.seq ?_
      refine TR.region ?_
      refine RL.move rfl rfl rfl ?_
      refine RL.bin rfl rfl rfl (BinV.add _ rfl (by omega) (by omega)) rfl ?_
      refine RL.assign rfl rfl rfl ?_
      refine RL.nil ?_
      refine NX.roundP (k + 1) (by omega) (by omega) ⟨rfl, congrArg (fun z => some (U z)) (by rw [List.take_succ_eq_append_getElem hk1, List.foldl_append, List.foldl_cons, List.foldl_nil]), rfl, trivial⟩ (fun w hw => hw.facts (fun φ h => .tail _ h))
    · skip
      have hk2 : k = l.length := by have := of_decide_eq_false h2; omega
      refine TR.exit ?_
      refine NX.exitThen ?_
      refine NX.exitThen ?_
      refine NX.exitHere ?_
      refine NX.seq ?_
      refine TR.seq ?_
      refine TR.region ?_
      refine RL.move rfl rfl rfl ?_
      refine RL.call rfl rfl Try.call94 rfl (rmix_spec (w := 0) (foldl_mixI_lt mixN_lt) (by omega)) (fun _ => ?_)
      refine RL.assign rfl rfl rfl ?_
      refine RL.nil ?_
      refine NX.seq ?_
      refine TR.ret ?_
      refine NX.ret1 () rfl rfl ?_ (fun w hw => hw.facts (fun φ h => .tail _ (.tail _ h)))
      rw [hk2, List.take_length, sumN]

structure IsX where
  k : Nat
  oa : Option Addr
  c : Nat

theorem rBytes_spec {lb b : List UInt8} {oa : Option Addr} {c : Nat} {M : List HP} {F : List Fact} (ha : ArrF oa (bytesV b) ∈ F) (hlb : lb.length ≤ 70368744177664) (hl : b.length ≤ 70368744177664) : Ctr Try.prog 48 [S lb, .slice oa b.length c] M F Unit (fun _ => U (hashN lb b)) (fun _ => M) (fun _ => F) := by
  refine Ctr.body Try.func48 rfl rfl ?_
  refine TR.seq ?_
  refine TR.region ?_
  refine RL.assign rfl rfl rfl ?_
  refine RL.nil ?_
  refine NX.seq ?_
  refine TR.seq ?_
  refine TR.region ?_
  refine RL.move rfl rfl rfl ?_
  refine RL.call rfl rfl Try.call74 rfl (words_spec (b := b) ha hl) (fun v => ?_)
  refine RL.assign rfl rfl rfl ?_
  refine RL.weak (fun w hw => hw.keepSl) ?_
  refine RL.nil ?_
  refine NX.seq ?_
  refine TR.seq ?_
  refine TR.region ?_
  have hwl := wordsN_length b
  refine RL.assign rfl rfl rfl ?_
  refine RL.weak (fun w hw => OwnSl.nil_new 3 1 hw) ?_
  refine RL.nil ?_
  refine NX.seq ?_
  refine TR.seq ?_
  refine TR.seq ?_
  refine TR.region ?_
  refine RL.assign rfl rfl rfl ?_
  refine RL.nil ?_
  refine NX.seq ?_
  refine TR.block ?_
  refine TR.loopP (ι := IsX) (fun x => x.k ≤ (wordsN b).length) (fun x => [(0, S lb), (1, .slice oa b.length c), (5, .slice v.1 (wordsN b).length v.2), (6, .slice x.oa x.k x.c), (7, I x.k)]) (fun x => OwnSl 3 1 x.oa x.k x.c (ints (((wordsN b).map i64of).take x.k)) :: M) (fun _ => ArrF v.1 (wordsV (wordsN b)) :: F) (fun x => (wordsN b).length - x.k) ⟨0, none, 0⟩ (Nat.zero_le _) ⟨rfl, rfl, rfl, rfl, rfl, trivial⟩ (fun w hw => hw) (fun x hx => ?_)
  refine TR.seq ?_
  refine TR.seq ?_
  refine TR.region ?_
  refine RL.move rfl rfl rfl ?_
  refine RL.move rfl rfl rfl ?_
  refine RL.lenSlice rfl wg_tl116 rfl rfl ?_
  refine RL.bin rfl rfl rfl BinV.lss rfl ?_
  refine RL.nil ?_
  refine NX.seq ?_
  refine TR.cond rfl (fun h1 => ?_) (fun h1 => ?_)
  · skip
    have hk1 : x.k < (wordsN b).length := by have := of_decide_eq_true h1; omega
    refine TR.openP (open_arr (oa := v.1) (xs := wordsV (wordsN b)) (.head _) (wordsV_ne hk1)) (fun pq hpa => ?_)
    refine TR.skip ?_
    refine NX.seq ?_
    refine TR.seq ?_
    refine TR.block ?_
    refine TR.region ?_
    refine RL.move rfl rfl rfl ?_
    refine RL.move rfl rfl rfl ?_
    refine RL.move rfl rfl rfl ?_
    refine RL.indexAddr rfl wg_tl116 wg_tz65 (congrArg (fun a => some (Value.slice a _ _)) hpa) rfl (by omega) (by omega) rfl ?_
    refine RL.loadF rfl rfl (fun w K hF => run_loadCell1 (j := (x.k : Int).toNat * 1) (v := U (wordsN b)[x.k]) (hF _ (.head _)) wg_ts65 (wordsV_get hk1)) rfl ?_
    refine RL.conv rfl rfl (ConvV.ui64 wg_ti65 wg_ti3) rfl ?_
    refine RL.buildSlice rfl rfl (wg_bs22_1_0 _) rfl (fun b2 => ?_)
    refine RL.ofGV rfl rfl (GV.append (j := 1) wg_tl22 wg_ni22 wg_te3 rfl rfl rfl (src_box (i := 0) rfl rfl rfl) (by omega) (by omega)) (fun y => ?_)
    refine RL.assign rfl rfl rfl ?_
    refine RL.nil ?_
    refine NX.off ?_
    refine NX.seq ?_
    refine TR.region ?_
    refine RL.move rfl rfl rfl ?_
    refine RL.bin rfl rfl rfl (BinV.add _ rfl (by omega) (by omega)) rfl ?_
    refine RL.assign rfl rfl rfl ?_
    refine RL.nil ?_
    refine NX.roundP ⟨x.k + 1, y.1, y.2⟩ (show x.k + 1 ≤ _ from hk1) (by show _ - (x.k + 1) < _ - x.k; omega) ⟨rfl, rfl, rfl, rfl, rfl, trivial⟩ (fun w hw => ?_)
    have e9 : ints (((wordsN b).map i64of).take (x.k + 1)) = ints (((wordsN b).map i64of).take x.k) ++ [I (i64of (wordsN b)[x.k])] := by
      rw [List.take_succ_eq_append_getElem (by rw [List.length_map]; exact hk1)]; simp
    show St w (OwnSl 3 1 y.1 (x.k + 1) y.2 (ints (((wordsN b).map i64of).take (x.k + 1))) :: M) _
    rw [e9]
    exact (hw.drop 0 rfl).facts (fun φ h => .tail _ h)
  · skip
    have hk2 : x.k = (wordsN b).length := by have := of_decide_eq_false h1; omega
    refine TR.exit ?_
    refine NX.exitThen ?_
    refine NX.exitThen ?_
    refine NX.exitHere ?_
    refine NX.seq ?_
    refine TR.seq ?_
    refine TR.region ?_
    have hmt : ((wordsN b).map i64of).take (wordsN b).length = (wordsN b).map i64of := List.take_of_length_le (by rw [List.length_map]; exact Nat.le_refl _)
    refine RL.move rfl rfl rfl ?_
    refine RL.move rfl rfl rfl ?_
    refine RL.move rfl rfl rfl ?_
    refine RL.lenSlice rfl wg_tl23 rfl rfl ?_
    refine RL.buildSlice rfl rfl (wg_bs22_1_0 _) rfl (fun b4 => ?_)
    refine RL.ofGV rfl rfl (GV.append (j := 1) wg_tl22 wg_ni22 wg_te3 rfl rfl rfl (src_box (i := 0) rfl rfl rfl) (by omega) (by omega)) (fun y => ?_)
    refine RL.sub (E' := [(24, S lb), (29, .slice y.1 (((wordsN b).map i64of ++ [(b.length : Int)])).length y.2)]) ⟨rfl, by show some (Value.slice y.1 (x.k + 1) y.2) = _; rw [List.length_append, List.length_map, hk2]; rfl, trivial⟩ ?_
    refine RL.weak (fun w hw => by
      have h9 := (hw.front (i := 1) rfl).keepSl
      rw [hk2, hmt, show ints ((wordsN b).map i64of) ++ [I (b.length : Int)] = ints ((wordsN b).map i64of ++ [(b.length : Int)]) from by simp] at h9
      exact h9) ?_
    refine RL.call rfl rfl Try.call75 rfl (rsum_spec (l := (wordsN b).map i64of ++ [(b.length : Int)]) (.head _) hlb (by rw [List.length_append, List.length_map, wordsN_length]; simp; omega)) (fun _ => ?_)
    refine RL.assign rfl rfl rfl ?_
    refine RL.nil ?_
    refine NX.seq ?_
    refine TR.ret ?_
    exact NX.ret1 () rfl rfl rfl (fun w hw => (hw.drop 0 rfl).facts (fun φ h => .tail _ (.tail _ h)))

structure RuY where
  n : Nat
  l : List UInt8
  oa : Option Addr
  oc : Nat

theorem rEncU_spec {n : Nat} {M : List HP} {F : List Fact} (hn : n < 18446744073709551616) : Ctr Try.prog 47 [U n] M F (Option Addr × Nat) (fun z => .slice z.1 (encU n).length z.2) (fun z => OwnSl 5 1 z.1 (encU n).length z.2 (bytesV (encU n)) :: M) (fun _ => F) := by
  refine Ctr.body Try.func47 rfl rfl ?_
  refine TR.seq ?_
  refine TR.region ?_
  refine RL.assign rfl rfl rfl ?_
  refine RL.nil ?_
  refine NX.seq ?_
  refine TR.seq ?_
  refine TR.region ?_
  refine RL.assign rfl rfl rfl ?_
  refine RL.weak (fun w hw => OwnSl.nil_new 5 1 hw) ?_
  refine RL.nil ?_
  refine NX.seq ?_
  refine TR.seq ?_
  refine TR.block ?_
  refine TR.loopP (ι := RuY) (fun x => x.n < 18446744073709551616 ∧ x.l ++ encU x.n = encU n) (fun x => [(0, U x.n), (3, .slice x.oa x.l.length x.oc)]) (fun x => OwnSl 5 1 x.oa x.l.length x.oc (bytesV x.l) :: M) (fun _ => F) (fun x => x.n) ⟨n, [], none, 0⟩ ⟨hn, rfl⟩ ⟨rfl, rfl, trivial⟩ (fun w hw => hw) (fun x hx => ?_)
  refine TR.seq ?_
  refine TR.seq ?_
  refine TR.region ?_
  refine RL.move rfl rfl rfl ?_
  refine RL.bin rfl rfl rfl BinV.gtr rfl ?_
  refine RL.nil ?_
  refine NX.seq ?_
  refine TR.cond rfl (fun h1 => ?_) (fun h1 => ?_)
  · skip
    have hn1 : ¬ x.n < 128 := by have := of_decide_eq_true h1; omega
    have hx2 := hx.2
    rw [encU_big hn1] at hx2
    have hlen := congrArg List.length hx.2
    simp only [List.length_append] at hlen
    have h10 := encU_len10 hn
    refine TR.skip ?_
    refine NX.seq ?_
    refine TR.block ?_
    refine TR.seq ?_
    refine TR.region ?_
    refine RL.move rfl rfl rfl ?_
    refine RL.move rfl rfl rfl ?_
    refine RL.bin rfl rfl rfl (BinV.remK (b := 128) (by omega)) rfl ?_
    refine RL.bin rfl rfl rfl (BinV.addU (a := 128) (b := x.n % 128) (by omega)) rfl ?_
    refine RL.conv rfl rfl (ConvV.ub wg_ti65 wg_ti5) rfl ?_
    refine RL.buildSlice rfl rfl (wg_bs23_1_0 _) rfl (fun b2 => ?_)
    refine RL.ofGV rfl rfl (GV.append (j := 1) wg_tl23 wg_ni23 wg_te5 rfl rfl rfl (src_box (i := 0) rfl rfl rfl) (by omega) (by omega)) (fun y => ?_)
    refine RL.assign rfl rfl rfl ?_
    refine RL.nil ?_
    refine NX.seq ?_
    refine TR.region ?_
    refine RL.move rfl rfl rfl ?_
    refine RL.bin rfl rfl rfl (BinV.quoU (b := 128) hx.1 (by omega)) rfl ?_
    refine RL.assign rfl rfl rfl ?_
    refine RL.nil ?_
    refine NX.off ?_
    refine NX.roundP ⟨x.n / 128, x.l ++ [UInt8.ofNat (128 + x.n % 128)], y.1, y.2⟩ ⟨Nat.lt_of_le_of_lt (Nat.div_le_self _ _) hx.1, ?_⟩ (by show x.n / 128 < x.n; omega) ⟨rfl, by show some (Value.slice y.1 (x.l.length + 1) y.2) = some (Value.slice y.1 (x.l ++ [UInt8.ofNat (128 + x.n % 128)]).length y.2); rw [List.length_append]; rfl, trivial⟩ (fun w hw => ?_)
    · rw [← hx2, List.append_assoc]; rfl
    · have h9 : St w (OwnSl 5 1 y.1 (x.l.length + 1) y.2 (bytesV x.l ++ [B8 ((128 + x.n % 128) % 256)]) :: M) F := hw.drop 0 rfl
      rw [more_byte2, ← bytesV_snoc] at h9
      show St w (OwnSl 5 1 y.1 (x.l ++ [UInt8.ofNat (128 + x.n % 128)]).length y.2 _ :: M) F
      rw [List.length_append]
      exact h9
  · skip
    have hn1 : x.n < 128 := by have := of_decide_eq_false h1; omega
    have hx2 := hx.2
    rw [encU_small hn1] at hx2
    have hlen := congrArg List.length hx.2
    simp only [List.length_append] at hlen
    have h10 := encU_len10 hn
    refine TR.exit ?_
    refine NX.exitThen ?_
    refine NX.exitThen ?_
    refine NX.exitHere ?_
    refine NX.seq ?_
    refine TR.seq ?_
    refine TR.region ?_
    refine RL.move rfl rfl rfl ?_
    refine RL.move rfl rfl rfl ?_
    refine RL.conv rfl rfl (ConvV.ub wg_ti65 wg_ti5) rfl ?_
    refine RL.buildSlice rfl rfl (wg_bs23_1_0 _) rfl (fun b4 => ?_)
    refine RL.ofGV rfl rfl (GV.append (j := 1) wg_tl23 wg_ni23 wg_te5 rfl rfl rfl (src_box (i := 0) rfl rfl rfl) (by omega) (by omega)) (fun y => ?_)
    refine RL.assign rfl rfl rfl ?_
    refine RL.nil ?_
    refine NX.seq ?_
    refine TR.ret ?_
    refine NX.ret1x rfl rfl (fun w hw => ⟨(y.1, y.2), ?_, ?_⟩)
    · rw [← hx2, List.length_append]; rfl
    · have h9 : St w (OwnSl 5 1 y.1 (x.l.length + 1) y.2 (bytesV x.l ++ [B8 (x.n % 256)]) :: M) F := hw.drop 0 rfl
      rw [last_byte hn1, ← bytesV_snoc, hx2] at h9
      show St w (OwnSl 5 1 y.1 (encU n).length y.2 (bytesV (encU n)) :: M) F
      rw [← hx2, List.length_append]
      rw [hx2]
      exact h9

theorem rZigzag_spec {n : Int} {M : List HP} {F : List Fact} (hlo : -9223372036854775808 ≤ n) (hhi : n ≤ 9223372036854775807) : Ctr Try.prog 93 [I n] M F Unit (fun _ => U (zz n)) (fun _ => M) (fun _ => F) := by
  refine Ctr.body Try.func93 rfl rfl ?_
  refine TR.seq ?_
  refine TR.region ?_
  refine RL.assign rfl rfl rfl ?_
  refine RL.nil ?_
  refine NX.seq ?_
  refine TR.seq ?_
  refine TR.seq ?_
  refine TR.region ?_
  refine RL.move rfl rfl rfl ?_
  refine RL.bin rfl rfl rfl BinV.lss rfl ?_
  refine RL.nil ?_
  refine NX.seq ?_
  refine TR.cond rfl (fun h1 => ?_) (fun h1 => ?_)
  · skip
    have hneg : n < 0 := of_decide_eq_true h1
    refine TR.seq ?_
    refine TR.region ?_
    refine RL.move rfl rfl rfl ?_
    refine RL.bin rfl rfl rfl (BinV.add _ rfl (by omega) (by omega)) rfl ?_
    refine RL.neg rfl rfl (by omega) (by omega) rfl ?_
    refine RL.conv rfl rfl (ConvV.iu64 wg_ti3 wg_ti65) rfl ?_
    refine RL.bin rfl rfl rfl (BinV.mulU (a := 2) (by have := (zz_neg hneg hlo).2; omega)) rfl ?_
    refine RL.bin rfl rfl rfl (BinV.addU (b := 1) (zz_neg hneg hlo).2) rfl ?_
    refine RL.assign rfl rfl rfl ?_
    refine RL.nil ?_
    refine NX.seq ?_
    refine TR.ret ?_
    refine NX.retThen ?_
    exact NX.ret1 () rfl rfl (by rw [← (zz_neg hneg hlo).1]) (fun w hw => hw)
  · skip
    have hneg : ¬ n < 0 := of_decide_eq_false h1
    refine TR.skip ?_
    refine NX.seq ?_
    refine TR.seq ?_
    refine TR.region ?_
    refine RL.move rfl rfl rfl ?_
    refine RL.conv rfl rfl (ConvV.iu64 wg_ti3 wg_ti65) rfl ?_
    refine RL.bin rfl rfl rfl (BinV.mulU (a := 2) (zz_pos hneg hhi).2) rfl ?_
    refine RL.assign rfl rfl rfl ?_
    refine RL.nil ?_
    refine NX.seq ?_
    refine TR.ret ?_
    exact NX.ret1 () rfl rfl (by rw [← (zz_pos hneg hhi).1]) (fun w hw => hw)

theorem rEncI_spec {n : Int} {M : List HP} {F : List Fact} (h0 : -9223372036854775808 ≤ n) (h1 : n ≤ 9223372036854775807) : Ctr Try.prog 73 [I n] M F (Option Addr × Nat) (fun z => .slice z.1 (encU (zz n)).length z.2) (fun z => OwnSl 5 1 z.1 (encU (zz n)).length z.2 (bytesV (encU (zz n))) :: M) (fun _ => F) := by
  refine Ctr.body Try.func73 rfl rfl ?_
  refine TR.seq ?_
  refine TR.region ?_
  refine RL.assign rfl rfl rfl ?_
  refine RL.nil ?_
  refine NX.seq ?_
  refine TR.seq ?_
  refine TR.region ?_
  refine RL.move rfl rfl rfl ?_
  refine RL.call rfl rfl Try.call93 rfl (rZigzag_spec h0 h1) (fun _ => ?_)
  refine RL.call rfl rfl Try.call47 rfl (rEncU_spec (zz_lt h0 h1)) (fun z => ?_)
  refine RL.assign rfl rfl rfl ?_
  refine RL.nil ?_
  refine NX.seq ?_
  refine TR.ret ?_
  exact NX.ret1 z rfl rfl rfl (fun w hw => hw)

theorem rEncR_spec {x : List UInt8} {oa : Option Addr} {c : Nat} {M : List HP} {F : List Fact} (ha : ArrF oa (bytesV x) ∈ F) (hx : x.length ≤ 70368744177664) : Ctr Try.prog 46 [.slice oa x.length c] M F (Option Addr × Nat) (fun z => .slice z.1 (encR x).length z.2) (fun z => OwnSl 5 1 z.1 (encR x).length z.2 (bytesV (encR x)) :: M) (fun _ => F) := by
  refine Ctr.body Try.func46 rfl rfl ?_
  refine TR.seq ?_
  refine TR.region ?_
  refine RL.assign rfl rfl rfl ?_
  refine RL.nil ?_
  refine NX.seq ?_
  refine TR.seq ?_
  refine TR.region ?_
  have h10 := encU_len10 (n := x.length) (by omega)
  refine RL.move rfl rfl rfl ?_
  refine RL.lenSlice rfl wg_tl23 rfl rfl ?_
  refine RL.conv rfl rfl (ConvV.iu wg_ti3 wg_ti65 (by omega)) rfl ?_
  refine RL.call rfl rfl Try.call47 rfl (rEncU_spec (n := x.length) (by omega)) (fun z => ?_)
  refine RL.move rfl rfl rfl ?_
  refine RL.ofGV rfl rfl (GV.append (j := 0) wg_tl23 wg_ni23 wg_te5 rfl rfl rfl (src_fact (xs := bytesV x) ha (by rw [bytesV_length, Nat.mul_one]) (bytesV_one _)) (by omega) (by omega)) (fun y => ?_)
  refine RL.assign rfl rfl rfl ?_
  refine RL.nil ?_
  refine NX.seq ?_
  refine TR.ret ?_
  refine NX.ret1x rfl rfl (fun w hw => ⟨(y.1, y.2), ?_, ?_⟩)
  · unfold encR; rw [List.length_append]
  · show St w (OwnSl 5 1 y.1 (encR x).length y.2 (bytesV (encR x)) :: M) F
    unfold encR
    rw [List.length_append, bytesV_append]
    exact hw

theorem rCore_spec {i : Int} {x : List UInt8} {oa : Option Addr} {c : Nat} {M : List HP} {F : List Fact} (ha : ArrF oa (bytesV x) ∈ F) (h0 : -9223372036854775808 ≤ i) (h1 : i ≤ 9223372036854775807) (hx : x.length ≤ 17592186044416) : Ctr Try.prog 45 [I i, .slice oa x.length c] M F (Option Addr × Nat) (fun z => .slice z.1 (coreJ i x).length z.2) (fun z => OwnSl 5 1 z.1 (coreJ i x).length z.2 (bytesV (coreJ i x)) :: M) (fun _ => F) := by
  refine Ctr.body Try.func45 rfl rfl ?_
  refine TR.seq ?_
  refine TR.region ?_
  refine RL.assign rfl rfl rfl ?_
  refine RL.nil ?_
  refine NX.seq ?_
  refine TR.seq ?_
  refine TR.region ?_
  have h10 := encU_len10 (zz_lt h0 h1)
  have h11 := encU_len10 (n := x.length) (by omega)
  have h12 : (encR x).length = (encU x.length).length + x.length := by unfold encR; rw [List.length_append]
  refine RL.move rfl rfl rfl ?_
  refine RL.call rfl rfl Try.call73 rfl (rEncI_spec h0 h1) (fun z => ?_)
  refine RL.assign rfl rfl rfl ?_
  refine RL.nil ?_
  refine NX.seq ?_
  refine TR.seq ?_
  refine TR.region ?_
  refine RL.move rfl rfl rfl ?_
  refine RL.move rfl rfl rfl ?_
  refine RL.call rfl rfl Try.call46 rfl (rEncR_spec (x := x) ha (by omega)) (fun v => ?_)
  refine RL.weak (fun w hw => hw.keepSl) ?_
  refine RL.ofGV rfl rfl (GV.append (j := 0) wg_tl23 wg_ni23 wg_te5 rfl rfl rfl (src_fact (xs := bytesV (encR x)) (.head _) (by rw [bytesV_length, Nat.mul_one]) (bytesV_one _)) (by omega) (by omega)) (fun y => ?_)
  refine RL.assign rfl rfl rfl ?_
  refine RL.nil ?_
  refine NX.seq ?_
  refine TR.ret ?_
  refine NX.ret1x rfl rfl (fun w hw => ⟨(y.1, y.2), ?_, ?_⟩)
  · unfold coreJ; rw [List.length_append]
  · show St w (OwnSl 5 1 y.1 (coreJ i x).length y.2 (bytesV (coreJ i x)) :: M) F
    unfold coreJ
    rw [List.length_append, bytesV_append]
    exact hw.facts (fun φ h => .tail _ h)

theorem rFrame_spec {i : Int} {x : List UInt8} {oa : Option Addr} {c : Nat} {M : List HP} {F : List Fact} (ha : ArrF oa (bytesV x) ∈ F) (h0 : -9223372036854775808 ≤ i) (h1 : i ≤ 9223372036854775807) (hx : x.length ≤ 17592186044416) : Ctr Try.prog 14 [I i, .slice oa x.length c] M F (Option Addr × Nat) (fun z => .slice z.1 (frameJ i x).length z.2) (fun z => OwnSl 5 1 z.1 (frameJ i x).length z.2 (bytesV (frameJ i x)) :: M) (fun _ => F) := by
  refine Ctr.body Try.func14 rfl rfl ?_
  refine TR.seq ?_
  refine TR.region ?_
  refine RL.assign rfl rfl rfl ?_
  refine RL.nil ?_
  refine NX.seq ?_
  refine TR.seq ?_
  refine TR.region ?_
  have hcl := coreJ_len h0 h1 (x := x) (by omega)
  have h10 := encU_len10 (hashN_lt (label := jl) (b := coreJ i x))
  refine RL.move rfl rfl rfl ?_
  refine RL.move rfl rfl rfl ?_
  refine RL.call rfl rfl Try.call45 rfl (rCore_spec ha h0 h1 hx) (fun z => ?_)
  refine RL.weak (fun w hw => hw.keepSl) ?_
  refine RL.assign rfl rfl rfl ?_
  refine RL.nil ?_
  refine NX.seq ?_
  refine TR.seq ?_
  refine TR.region ?_
  have h11 := encU_len10 (n := (coreJ i x).length) (by omega)
  have h12 : (encR (coreJ i x)).length = (encU (coreJ i x).length).length + (coreJ i x).length := by unfold encR; rw [List.length_append]
  refine RL.move rfl rfl rfl ?_
  refine RL.call rfl rfl Try.call46 rfl (rEncR_spec (x := coreJ i x) (.head _) (by omega)) (fun v => ?_)
  refine RL.assign rfl rfl rfl ?_
  refine RL.nil ?_
  refine NX.seq ?_
  refine TR.seq ?_
  refine TR.region ?_
  refine RL.move rfl rfl rfl ?_
  refine RL.move rfl rfl rfl ?_
  refine RL.call rfl rfl Try.call48 rfl (rBytes_spec (lb := jl) (b := coreJ i x) (.head _) (by decide) (by omega)) (fun _ => ?_)
  refine RL.call rfl rfl Try.call47 rfl (rEncU_spec hashN_lt) (fun q => ?_)
  refine RL.weak (fun w hw => hw.keepSl) ?_
  refine RL.ofGV rfl rfl (GV.append (j := 0) wg_tl23 wg_ni23 wg_te5 rfl rfl rfl (src_fact (xs := bytesV (encU (hashN jl (coreJ i x)))) (.head _) (by rw [bytesV_length, Nat.mul_one]) (bytesV_one _)) (by omega) (by omega)) (fun y => ?_)
  refine RL.assign rfl rfl rfl ?_
  refine RL.nil ?_
  refine NX.seq ?_
  refine TR.ret ?_
  refine NX.ret1x rfl rfl (fun w hw => ⟨(y.1, y.2), ?_, ?_⟩)
  · unfold frameJ; rw [List.length_append]
  · show St w (OwnSl 5 1 y.1 (frameJ i x).length y.2 (bytesV (frameJ i x)) :: M) F
    unfold frameJ
    rw [List.length_append, bytesV_append]
    exact hw.facts (fun φ h => .tail _ (.tail _ h))

end Go.Proofs.Ytdlpaojkkekdlaa

namespace Go.Proofs.Ytdlpaojkkekdlaa
open Go.GL
set_option linter.unusedVariables false
theorem wh_tf121_0 : fieldOff Try.prog 121 0 0 = true := by kernel_rfl
theorem wh_tf121_1 : fieldOff Try.prog 121 1 1 = true := by kernel_rfl
theorem wh_ti3 : tyInt Try.prog 3 .i64 = true := by kernel_rfl
theorem wh_ti5 : tyInt Try.prog 5 .u8 = true := by kernel_rfl
theorem wh_ti65 : tyInt Try.prog 65 .u64 = true := by kernel_rfl
theorem wh_tl23 : tySlice Try.prog 23 5 = true := by kernel_rfl
theorem wh_ts23 : tyScalar Try.prog 23 = true := by kernel_rfl
theorem wh_ts39 : tyScalar Try.prog 39 = true := by kernel_rfl
theorem wh_ts5 : tyScalar Try.prog 5 = true := by kernel_rfl
theorem wh_tz5 : tySize Try.prog 5 1 = true := by kernel_rfl
theorem back_spec {z : Nat} {M : List HP} {F : List Fact} (hz : z < 18446744073709551616) : Ctr Try.prog 97 [U z] M F Unit (fun _ => I (uz z)) (fun _ => M) (fun _ => F) := by
  refine Ctr.body Try.func97 rfl rfl ?_
  refine TR.seq ?_
  refine TR.region ?_
  refine RL.assign rfl rfl rfl ?_
  refine RL.nil ?_
  refine NX.seq ?_
  refine TR.seq ?_
  refine TR.seq ?_
  refine TR.region ?_
  refine RL.move rfl rfl rfl ?_
  refine RL.bin rfl rfl rfl (BinV.remK (b := 2) (by omega)) rfl ?_
  refine RL.bin rfl rfl rfl BinV.eql rfl ?_
  refine RL.nil ?_
  refine NX.seq ?_
  refine TR.cond rfl (fun h1 => ?_) (fun h1 => ?_)
  · skip
    have h1 : z % 2 = 1 := by have := of_decide_eq_true h1; omega
    refine TR.seq ?_
    refine TR.region ?_
    refine RL.move rfl rfl rfl ?_
    refine RL.bin rfl rfl rfl (BinV.quoU (b := 2) hz (by omega)) rfl ?_
    refine RL.conv rfl rfl (ConvV.uiS wh_ti65 wh_ti3 (by omega)) rfl ?_
    refine RL.neg rfl rfl (by omega) (by omega) rfl ?_
    refine RL.bin rfl rfl rfl (BinV.sub _ rfl (by omega) (by omega)) rfl ?_
    refine RL.assign rfl rfl rfl ?_
    refine RL.nil ?_
    refine NX.seq ?_
    refine TR.ret ?_
    refine NX.retThen ?_
    exact NX.ret1 () rfl rfl (by rw [← uz_odd h1]) (fun w hw => hw)
  · skip
    have h1 : ¬ z % 2 = 1 := by have := of_decide_eq_false h1; omega
    refine TR.skip ?_
    refine NX.seq ?_
    refine TR.seq ?_
    refine TR.region ?_
    refine RL.move rfl rfl rfl ?_
    refine RL.bin rfl rfl rfl (BinV.quoU (b := 2) hz (by omega)) rfl ?_
    refine RL.conv rfl rfl (ConvV.uiS wh_ti65 wh_ti3 (by omega)) rfl ?_
    refine RL.assign rfl rfl rfl ?_
    refine RL.nil ?_
    refine NX.seq ?_
    refine TR.ret ?_
    exact NX.ret1 () rfl rfl (by rw [← uz_even h1]) (fun w hw => hw)

structure RvX where
  i : Nat
  n : Nat

set_option maxHeartbeats 2000000 in
theorem rrUint_spec {b : Nat} {l : List UInt8} {oa : Option Addr} {c : Nat} {e : Int} {M : List HP} {F : List Fact} (ha : ArrF oa (bytesV l) ∈ F) (hc : l.length ≤ c) : Ctr Try.prog 98 [.pointer (some ⟨b, 0, none⟩)] (Box b 121 [.slice oa l.length c, I e] :: M) F {z : RdX // (refB l e).length ≤ z.c} (fun _ => U (rdU l e).1) (fun z => Box b 121 [.slice z.1.oa (refB l e).length z.1.c, I (rdU l e).2.2] :: M) (fun z => ArrF z.1.oa (bytesV (refB l e)) :: F) := by
  refine Ctr.body Try.func98 rfl rfl ?_
  refine TR.seq ?_
  refine TR.region ?_
  refine RL.assign rfl rfl rfl ?_
  refine RL.nil ?_
  refine NX.seq ?_
  refine TR.seq ?_
  refine TR.region ?_
  refine RL.assign rfl rfl rfl ?_
  refine RL.nil ?_
  refine NX.seq ?_
  refine TR.seq ?_
  refine TR.region ?_
  refine RL.assign rfl rfl rfl ?_
  refine RL.nil ?_
  refine NX.seq ?_
  refine TR.seq ?_
  refine TR.seq ?_
  refine TR.region ?_
  refine RL.assign rfl rfl rfl ?_
  refine RL.nil ?_
  refine NX.seq ?_
  refine TR.block ?_
  refine TR.loopP (ι := RvX) (fun x => e = 0 → x.i ≤ 9 ∧ x.n < 2 ^ (7 * x.i) ∧ rdU l e = decU x.i x.n (l.drop x.i) ∧ x.i ≤ l.length) (fun x => [(0, .pointer (some ⟨b, 0, none⟩)), (3, U x.n), (4, U (2 ^ (7 * x.i))), (5, I x.i)]) (fun x => Box b 121 [.slice oa l.length c, I e] :: M) (fun _ => F) (fun x => l.length - x.i) ⟨0, 0⟩ (fun he => ⟨Nat.zero_le _, by simp, by unfold rdU; rw [if_pos he]; rfl, Nat.zero_le _⟩) ⟨rfl, rfl, rfl, rfl, trivial⟩ (fun w hw => hw) (fun x hx => ?_)
  refine TR.seq ?_
  refine TR.seq ?_
  refine TR.region ?_
  refine RL.move rfl rfl rfl ?_
  refine RL.nilCheck rfl rfl rfl ?_
  refine RL.fieldAddr rfl wh_tf121_1 rfl rfl ?_
  refine RL.load1 0 rfl wh_ts39 rfl rfl rfl rfl ?_
  refine RL.bin rfl rfl rfl BinV.eql rfl ?_
  refine RL.nil ?_
  refine NX.seq ?_
  refine TR.cond rfl (fun h1 => ?_) (fun h1 => ?_)
  · skip
    have hee : e = 0 := of_decide_eq_true h1
    have hin := hx hee
    refine TR.skip ?_
    refine NX.seq ?_
    refine TR.seq ?_
    refine TR.block ?_
    refine TR.seq ?_
    refine TR.seq ?_
    refine TR.region ?_
    refine RL.move rfl rfl rfl ?_
    refine RL.move rfl rfl rfl ?_
    refine RL.nilCheck rfl rfl rfl ?_
    refine RL.fieldAddr rfl wh_tf121_0 rfl rfl ?_
    refine RL.load1 0 rfl wh_ts23 rfl rfl rfl rfl ?_
    refine RL.lenSlice rfl wh_tl23 rfl rfl ?_
    refine RL.bin rfl rfl rfl BinV.geq rfl ?_
    refine RL.nil ?_
    refine NX.seq ?_
    refine TR.cond rfl (fun h2 => ?_) (fun h2 => ?_)
    · skip
      have hfar : l.length ≤ x.i := by have := of_decide_eq_true h2; omega
      refine TR.seq ?_
      refine TR.region ?_
      refine RL.move rfl rfl rfl ?_
      refine RL.nilCheck rfl rfl rfl ?_
      refine RL.fieldAddr rfl wh_tf121_1 rfl rfl ?_
      refine RL.store1 0 rfl wh_ts39 rfl rfl rfl rfl rfl ?_
      refine RL.nil ?_
      refine NX.seq ?_
      refine TR.exit ?_
      refine NX.exitThen ?_
      refine NX.exitOn rfl ?_
      refine NX.exitThen ?_
      refine NX.exitThen ?_
      refine NX.exitHere ?_
      refine NX.seq ?_
      refine TR.seq ?_
      refine TR.region ?_
      refine RL.assign rfl rfl rfl ?_
      refine RL.nil ?_
      refine NX.seq ?_
      refine TR.ret ?_
      have hru : rdU l e = (0, [], 3) := by rw [hin.2.2.1, List.drop_of_length_le hfar, decU]
      have hrb : refB l e = l := by unfold refB; rw [hru]; exact if_neg (show ¬ (3 : Int) = 0 by decide)
      refine NX.ret1x rfl rfl (fun w hw => ⟨⟨⟨oa, c⟩, by rw [hrb]; exact hc⟩, by rw [hru] <;> rfl, ?_⟩)
      show St w (Box b 121 [.slice oa (refB l e).length c, I (rdU l e).2.2] :: M) (ArrF oa (bytesV (refB l e)) :: F)
      rw [hrb, hru]
      exact hw.addFact (ArrF oa (bytesV l)) (fun K hf => hf _ ha)
    · skip
      have hlt : x.i < l.length := by have := of_decide_eq_false h2; omega
      have hdk := List.drop_eq_getElem_cons hlt
      have hcb := (l[x.i]).toNat_lt
      refine TR.openP (open_arr (oa := oa) (xs := bytesV l) ha (bytesV_ne hlt)) (fun pq hpa => ?_)
      refine TR.skip ?_
      refine NX.seq ?_
      refine TR.seq ?_
      refine TR.region ?_
      refine RL.move rfl rfl rfl ?_
      refine RL.nilCheck rfl rfl rfl ?_
      refine RL.fieldAddr rfl wh_tf121_0 rfl rfl ?_
      refine RL.load1 0 rfl wh_ts23 rfl rfl rfl rfl ?_
      refine RL.move rfl rfl rfl ?_
      refine RL.indexAddr rfl wh_tl23 wh_tz5 (congrArg (fun a => some (Value.slice a _ _)) hpa) rfl (by omega) (by omega) rfl ?_
      refine RL.loadF rfl rfl (fun w K hF => run_loadCell1 (j := (x.i : Int).toNat * 1) (v := .int .u8 (l[x.i].toNat : Int)) (hF _ (.head _)) wh_ts5 (bytesV_get hlt)) rfl ?_
      refine RL.assign rfl rfl rfl ?_
      refine RL.nil ?_
      refine NX.seq ?_
      refine TR.seq ?_
      refine TR.seq ?_
      refine TR.region ?_
      refine RL.move rfl rfl rfl ?_
      refine RL.bin rfl rfl rfl BinV.eql rfl ?_
      refine RL.move rfl rfl rfl ?_
      refine RL.part (fun h3 => ?_) (fun h3 => ?_)
      · skip
        have h92 : (x.i : Int) = 9 := of_decide_eq_true h3
        refine RL.move rfl rfl rfl ?_
        refine RL.bin rfl rfl rfl BinV.gtr rfl ?_
        refine RL.pickT rfl rfl rfl rfl ?_
        refine RL.move rfl rfl rfl ?_
        refine RL.part (fun h4 => ?_) (fun h4 => ?_)
        · skip
          have h96 := of_decide_eq_true h4
          refine RL.skip rfl rfl rfl ?_
          refine RL.skip rfl rfl rfl ?_
          refine RL.skip rfl rfl rfl ?_
          refine RL.skip rfl rfl rfl ?_
          refine RL.skip rfl rfl rfl ?_
          refine RL.skip rfl rfl rfl ?_
          refine RL.pickT rfl rfl rfl rfl ?_
          refine RL.nil ?_
          refine NX.seq ?_
          refine TR.condT rfl ?_
          refine TR.seq ?_
          refine TR.region ?_
          refine RL.move rfl rfl rfl ?_
          refine RL.nilCheck rfl rfl rfl ?_
          refine RL.fieldAddr rfl wh_tf121_1 rfl rfl ?_
          refine RL.store1 0 rfl wh_ts39 rfl rfl rfl rfl rfl ?_
          refine RL.nil ?_
          refine NX.seq ?_
          refine TR.exit ?_
          refine NX.exitThen ?_
          refine NX.exitOn rfl ?_
          refine NX.exitThen ?_
          refine NX.exitThen ?_
          refine NX.exitHere ?_
          refine NX.seq ?_
          refine TR.seq ?_
          refine TR.region ?_
          refine RL.assign rfl rfl rfl ?_
          refine RL.nil ?_
          refine NX.seq ?_
          refine TR.ret ?_
          have hb : badU x.i l[x.i] := by unfold badU; omega
          have hru : rdU l e = (0, l.drop (x.i + 1), 2) := by rw [hin.2.2.1, hdk, decU_bad hb]
          have hrb : refB l e = l := by unfold refB; rw [hru]; exact if_neg (show ¬ (2 : Int) = 0 by decide)
          refine NX.ret1x rfl rfl (fun w hw => ⟨⟨⟨oa, c⟩, by rw [hrb]; exact hc⟩, by rw [hru] <;> rfl, ?_⟩)
          show St w (Box b 121 [.slice oa (refB l e).length c, I (rdU l e).2.2] :: M) (ArrF oa (bytesV (refB l e)) :: F)
          rw [hrb, hru]
          exact (hw.facts (F' := F) (fun φ h => .tail _ h)).addFact (ArrF oa (bytesV l)) (fun K hf => hf _ ha)
        · skip
          have h96 := of_decide_eq_false h4
          refine RL.move rfl rfl rfl ?_
          refine RL.bin rfl rfl rfl BinV.gtr rfl ?_
          refine RL.move rfl rfl rfl ?_
          refine RL.part (fun h5 => ?_) (fun h5 => ?_)
          · skip
            have h99 := of_decide_eq_true h5
            refine RL.move rfl rfl rfl ?_
            refine RL.bin rfl rfl rfl BinV.eql rfl ?_
            refine RL.pickT rfl rfl rfl rfl ?_
            refine RL.pickF rfl rfl rfl rfl ?_
            refine RL.nil ?_
            refine NX.seq ?_
            refine TR.cond rfl (fun h6 => ?_) (fun h6 => ?_)
            · skip
              have h44 := of_decide_eq_true h6
              refine TR.seq ?_
              refine TR.region ?_
              refine RL.move rfl rfl rfl ?_
              refine RL.nilCheck rfl rfl rfl ?_
              refine RL.fieldAddr rfl wh_tf121_1 rfl rfl ?_
              refine RL.store1 0 rfl wh_ts39 rfl rfl rfl rfl rfl ?_
              refine RL.nil ?_
              refine NX.seq ?_
              refine TR.exit ?_
              refine NX.exitThen ?_
              refine NX.exitOn rfl ?_
              refine NX.exitThen ?_
              refine NX.exitThen ?_
              refine NX.exitHere ?_
              refine NX.seq ?_
              refine TR.seq ?_
              refine TR.region ?_
              refine RL.assign rfl rfl rfl ?_
              refine RL.nil ?_
              refine NX.seq ?_
              refine TR.ret ?_
              have hb : badU x.i l[x.i] := by unfold badU; omega
              have hru : rdU l e = (0, l.drop (x.i + 1), 2) := by rw [hin.2.2.1, hdk, decU_bad hb]
              have hrb : refB l e = l := by unfold refB; rw [hru]; exact if_neg (show ¬ (2 : Int) = 0 by decide)
              refine NX.ret1x rfl rfl (fun w hw => ⟨⟨⟨oa, c⟩, by rw [hrb]; exact hc⟩, by rw [hru] <;> rfl, ?_⟩)
              show St w (Box b 121 [.slice oa (refB l e).length c, I (rdU l e).2.2] :: M) (ArrF oa (bytesV (refB l e)) :: F)
              rw [hrb, hru]
              exact (hw.facts (F' := F) (fun φ h => .tail _ h)).addFact (ArrF oa (bytesV l)) (fun K hf => hf _ ha)
            · skip
              have h44 := of_decide_eq_false h6
              refine TR.skip ?_
              refine NX.seq ?_
              refine TR.seq ?_
              refine TR.region ?_
              have hgood : ¬ badU x.i l[x.i] := by unfold badU; omega
              have hfit := byte_fits hgood hin.1 hin.2.1
              have hmul : l[x.i].toNat % 128 * 2 ^ (7 * x.i) % 18446744073709551616 = l[x.i].toNat % 128 * 2 ^ (7 * x.i) := Nat.mod_eq_of_lt (by omega)
              have hadd : (x.n + l[x.i].toNat % 128 * 2 ^ (7 * x.i) % 18446744073709551616) % 18446744073709551616 = x.n + l[x.i].toNat % 128 * 2 ^ (7 * x.i) := by rw [hmul, Nat.mod_eq_of_lt hfit.1]
              refine RL.move rfl rfl rfl ?_
              refine RL.move rfl rfl rfl ?_
              refine RL.bin rfl rfl rfl (BinV.remK (b := 128) (by omega)) rfl ?_
              refine RL.conv rfl rfl (ConvV.bu wh_ti5 wh_ti65 (by omega)) rfl ?_
              refine RL.move rfl rfl rfl ?_
              refine RL.bin rfl rfl rfl BinV.mulUw rfl ?_
              refine RL.bin rfl rfl rfl BinV.addUw rfl ?_
              refine RL.assign rfl rfl rfl ?_
              refine RL.nil ?_
              refine NX.seq ?_
              refine TR.seq ?_
              refine TR.region ?_
              refine RL.move rfl rfl rfl ?_
              refine RL.bin rfl rfl rfl (BinV.mulUw (b := 128)) rfl ?_
              refine RL.assign rfl rfl rfl ?_
              refine RL.nil ?_
              refine NX.seq ?_
              refine TR.seq ?_
              refine TR.region ?_
              refine RL.move rfl rfl rfl ?_
              refine RL.bin rfl rfl rfl BinV.lss rfl ?_
              refine RL.nil ?_
              refine NX.seq ?_
              refine TR.cond rfl (fun h7 => ?_) (fun h7 => ?_)
              · skip
                have h128 : l[x.i].toNat < 128 := by have := of_decide_eq_true h7; omega
                refine TR.seq ?_
                refine TR.region ?_
                refine RL.move rfl rfl rfl ?_
                refine RL.move rfl rfl rfl ?_
                refine RL.nilCheck rfl rfl rfl ?_
                refine RL.fieldAddr rfl wh_tf121_0 rfl rfl ?_
                refine RL.load1 0 rfl wh_ts23 rfl rfl rfl rfl ?_
                refine RL.move rfl rfl rfl ?_
                refine RL.bin rfl rfl rfl (BinV.add _ rfl (by omega) (by omega)) rfl ?_
                refine RL.sliceFromB (k := (x.i + 1)) (cap := c) rfl wh_tl23 wh_tz5 rfl rfl (by omega) hc (.tail _ ha) rfl ?_
                refine RL.nilCheck rfl rfl rfl ?_
                refine RL.fieldAddr rfl wh_tf121_0 rfl rfl ?_
                refine RL.store1 0 rfl wh_ts23 rfl rfl rfl rfl rfl ?_
                refine RL.nil ?_
                refine NX.seq ?_
                refine TR.seq ?_
                refine TR.region ?_
                refine RL.move rfl rfl rfl ?_
                refine RL.assign rfl rfl rfl ?_
                refine RL.nil ?_
                refine NX.seq ?_
                refine TR.ret ?_
                refine NX.retBlock ?_
                refine NX.retThen ?_
                refine NX.retThen ?_
                refine NX.retBlock ?_
                refine NX.retThen ?_
                have hru : rdU l e = (x.n + l[x.i].toNat % 128 * 2 ^ (7 * x.i), l.drop (x.i + 1), 0) := by rw [hin.2.2.1, hdk, decU_last hgood h128]
                rw [hadd]
                have hrb : refB l e = (l.drop (x.i + 1)) := by unfold refB; rw [hru]; exact if_pos (show (0 : Int) = 0 from rfl)
                refine NX.ret1x rfl rfl (fun w hw => ⟨⟨⟨(cutA oa (x.i + 1) c 1), (c - (x.i + 1))⟩, by rw [hrb]; exact (show (l.drop (x.i + 1)).length ≤ c - (x.i + 1) by rw [List.length_drop]; omega)⟩, by rw [hru] <;> rfl, ?_⟩)
                show St w (Box b 121 [.slice (cutA oa (x.i + 1) c 1) (refB l e).length (c - (x.i + 1)), I (rdU l e).2.2] :: M) (ArrF (cutA oa (x.i + 1) c 1) (bytesV (refB l e)) :: F)
                rw [hrb, hru]
                exact (by
                  have h9 : St w (Box b 121 [.slice (cutA oa (x.i + 1) c 1) (l.drop (x.i + 1)).length (c - (x.i + 1)), I e] :: M) _ := hw
                  rw [hee] at h9
                  exact h9.facts (fun φ h => by
                    rcases List.mem_cons.1 h with e1 | h
                    · subst e1; exact .head _
                    · exact .tail _ (.tail _ h)))
              · skip
                have h128 : ¬ l[x.i].toNat < 128 := by have := of_decide_eq_false h7; omega
                have hi8 : x.i ≤ 8 := by unfold badU at hgood; omega
                refine TR.skip ?_
                refine NX.off ?_
                refine NX.seq ?_
                refine TR.region ?_
                refine RL.move rfl rfl rfl ?_
                refine RL.bin rfl rfl rfl (BinV.add _ rfl (by omega) (by omega)) rfl ?_
                refine RL.assign rfl rfl rfl ?_
                refine RL.nil ?_
                have hu : 2 ^ (7 * x.i) * 128 % 18446744073709551616 = 2 ^ (7 * (x.i + 1)) := by
                  have e1 : (2 : Nat) ^ (7 * (x.i + 1)) = 2 ^ (7 * x.i) * 128 := by rw [show 7 * (x.i + 1) = 7 * x.i + 7 from by omega, Nat.pow_add]
                  have e2 : (2 : Nat) ^ (7 * (x.i + 1)) ≤ 2 ^ 63 := Nat.pow_le_pow_right (by omega) (by omega)
                  rw [← e1]; exact Nat.mod_eq_of_lt (by omega)
                refine NX.roundP ⟨x.i + 1, x.n + l[x.i].toNat % 128 * 2 ^ (7 * x.i)⟩ (fun _ => ⟨by show x.i + 1 ≤ 9; omega, hfit.2 hi8, ?_, hlt⟩) (by show _ - (x.i + 1) < _ - x.i; omega) ⟨rfl, congrArg (fun z => some (U z)) hadd, congrArg (fun z => some (U z)) hu, rfl, trivial⟩ (fun w hw => hw.facts (fun φ h => .tail _ h))
                show rdU l e = decU (x.i + 1) _ (l.drop (x.i + 1))
                rw [hin.2.2.1, hdk, decU_more hgood h128]
          · skip
            have h99 := of_decide_eq_false h5
            refine RL.skip rfl rfl rfl ?_
            refine RL.skip rfl rfl rfl ?_
            refine RL.pickF rfl rfl rfl rfl ?_
            refine RL.pickF rfl rfl rfl rfl ?_
            refine RL.nil ?_
            refine NX.seq ?_
            refine TR.condF rfl ?_
            refine TR.skip ?_
            refine NX.seq ?_
            refine TR.seq ?_
            refine TR.region ?_
            have hgood : ¬ badU x.i l[x.i] := by unfold badU; omega
            have hfit := byte_fits hgood hin.1 hin.2.1
            have hmul : l[x.i].toNat % 128 * 2 ^ (7 * x.i) % 18446744073709551616 = l[x.i].toNat % 128 * 2 ^ (7 * x.i) := Nat.mod_eq_of_lt (by omega)
            have hadd : (x.n + l[x.i].toNat % 128 * 2 ^ (7 * x.i) % 18446744073709551616) % 18446744073709551616 = x.n + l[x.i].toNat % 128 * 2 ^ (7 * x.i) := by rw [hmul, Nat.mod_eq_of_lt hfit.1]
            refine RL.move rfl rfl rfl ?_
            refine RL.move rfl rfl rfl ?_
            refine RL.bin rfl rfl rfl (BinV.remK (b := 128) (by omega)) rfl ?_
            refine RL.conv rfl rfl (ConvV.bu wh_ti5 wh_ti65 (by omega)) rfl ?_
            refine RL.move rfl rfl rfl ?_
            refine RL.bin rfl rfl rfl BinV.mulUw rfl ?_
            refine RL.bin rfl rfl rfl BinV.addUw rfl ?_
            refine RL.assign rfl rfl rfl ?_
            refine RL.nil ?_
            refine NX.seq ?_
            refine TR.seq ?_
            refine TR.region ?_
            refine RL.move rfl rfl rfl ?_
            refine RL.bin rfl rfl rfl (BinV.mulUw (b := 128)) rfl ?_
            refine RL.assign rfl rfl rfl ?_
            refine RL.nil ?_
            refine NX.seq ?_
            refine TR.seq ?_
            refine TR.region ?_
            refine RL.move rfl rfl rfl ?_
            refine RL.bin rfl rfl rfl BinV.lss rfl ?_
            refine RL.nil ?_
            refine NX.seq ?_
            refine TR.cond rfl (fun h8 => ?_) (fun h8 => ?_)
            · skip
              have h128 : l[x.i].toNat < 128 := by have := of_decide_eq_true h8; omega
              refine TR.seq ?_
              refine TR.region ?_
              refine RL.move rfl rfl rfl ?_
              refine RL.move rfl rfl rfl ?_
              refine RL.nilCheck rfl rfl rfl ?_
              refine RL.fieldAddr rfl wh_tf121_0 rfl rfl ?_
              refine RL.load1 0 rfl wh_ts23 rfl rfl rfl rfl ?_
              refine RL.move rfl rfl rfl ?_
              refine RL.bin rfl rfl rfl (BinV.add _ rfl (by omega) (by omega)) rfl ?_
              refine RL.sliceFromB (k := (x.i + 1)) (cap := c) rfl wh_tl23 wh_tz5 rfl rfl (by omega) hc (.tail _ ha) rfl ?_
              refine RL.nilCheck rfl rfl rfl ?_
              refine RL.fieldAddr rfl wh_tf121_0 rfl rfl ?_
              refine RL.store1 0 rfl wh_ts23 rfl rfl rfl rfl rfl ?_
              refine RL.nil ?_
              refine NX.seq ?_
              refine TR.seq ?_
              refine TR.region ?_
              refine RL.move rfl rfl rfl ?_
              refine RL.assign rfl rfl rfl ?_
              refine RL.nil ?_
              refine NX.seq ?_
              refine TR.ret ?_
              refine NX.retBlock ?_
              refine NX.retThen ?_
              refine NX.retThen ?_
              refine NX.retBlock ?_
              refine NX.retThen ?_
              have hru : rdU l e = (x.n + l[x.i].toNat % 128 * 2 ^ (7 * x.i), l.drop (x.i + 1), 0) := by rw [hin.2.2.1, hdk, decU_last hgood h128]
              rw [hadd]
              have hrb : refB l e = (l.drop (x.i + 1)) := by unfold refB; rw [hru]; exact if_pos (show (0 : Int) = 0 from rfl)
              refine NX.ret1x rfl rfl (fun w hw => ⟨⟨⟨(cutA oa (x.i + 1) c 1), (c - (x.i + 1))⟩, by rw [hrb]; exact (show (l.drop (x.i + 1)).length ≤ c - (x.i + 1) by rw [List.length_drop]; omega)⟩, by rw [hru] <;> rfl, ?_⟩)
              show St w (Box b 121 [.slice (cutA oa (x.i + 1) c 1) (refB l e).length (c - (x.i + 1)), I (rdU l e).2.2] :: M) (ArrF (cutA oa (x.i + 1) c 1) (bytesV (refB l e)) :: F)
              rw [hrb, hru]
              exact (by
                have h9 : St w (Box b 121 [.slice (cutA oa (x.i + 1) c 1) (l.drop (x.i + 1)).length (c - (x.i + 1)), I e] :: M) _ := hw
                rw [hee] at h9
                exact h9.facts (fun φ h => by
                  rcases List.mem_cons.1 h with e1 | h
                  · subst e1; exact .head _
                  · exact .tail _ (.tail _ h)))
            · skip
              have h128 : ¬ l[x.i].toNat < 128 := by have := of_decide_eq_false h8; omega
              have hi8 : x.i ≤ 8 := by unfold badU at hgood; omega
              refine TR.skip ?_
              refine NX.off ?_
              refine NX.seq ?_
              refine TR.region ?_
              refine RL.move rfl rfl rfl ?_
              refine RL.bin rfl rfl rfl (BinV.add _ rfl (by omega) (by omega)) rfl ?_
              refine RL.assign rfl rfl rfl ?_
              refine RL.nil ?_
              have hu : 2 ^ (7 * x.i) * 128 % 18446744073709551616 = 2 ^ (7 * (x.i + 1)) := by
                have e1 : (2 : Nat) ^ (7 * (x.i + 1)) = 2 ^ (7 * x.i) * 128 := by rw [show 7 * (x.i + 1) = 7 * x.i + 7 from by omega, Nat.pow_add]
                have e2 : (2 : Nat) ^ (7 * (x.i + 1)) ≤ 2 ^ 63 := Nat.pow_le_pow_right (by omega) (by omega)
                rw [← e1]; exact Nat.mod_eq_of_lt (by omega)
              refine NX.roundP ⟨x.i + 1, x.n + l[x.i].toNat % 128 * 2 ^ (7 * x.i)⟩ (fun _ => ⟨by show x.i + 1 ≤ 9; omega, hfit.2 hi8, ?_, hlt⟩) (by show _ - (x.i + 1) < _ - x.i; omega) ⟨rfl, congrArg (fun z => some (U z)) hadd, congrArg (fun z => some (U z)) hu, rfl, trivial⟩ (fun w hw => hw.facts (fun φ h => .tail _ h))
              show rdU l e = decU (x.i + 1) _ (l.drop (x.i + 1))
              rw [hin.2.2.1, hdk, decU_more hgood h128]
      · skip
        have h92 : ¬ (x.i : Int) = 9 := of_decide_eq_false h3
        refine RL.skip rfl rfl rfl ?_
        refine RL.skip rfl rfl rfl ?_
        refine RL.pickF rfl rfl rfl rfl ?_
        refine RL.move rfl rfl rfl ?_
        refine RL.move rfl rfl rfl ?_
        refine RL.bin rfl rfl rfl BinV.gtr rfl ?_
        refine RL.move rfl rfl rfl ?_
        refine RL.part (fun h9 => ?_) (fun h9 => ?_)
        · skip
          have h99 := of_decide_eq_true h9
          refine RL.move rfl rfl rfl ?_
          refine RL.bin rfl rfl rfl BinV.eql rfl ?_
          refine RL.pickT rfl rfl rfl rfl ?_
          refine RL.pickF rfl rfl rfl rfl ?_
          refine RL.nil ?_
          refine NX.seq ?_
          refine TR.cond rfl (fun h10 => ?_) (fun h10 => ?_)
          · skip
            have h44 := of_decide_eq_true h10
            refine TR.seq ?_
            refine TR.region ?_
            refine RL.move rfl rfl rfl ?_
            refine RL.nilCheck rfl rfl rfl ?_
            refine RL.fieldAddr rfl wh_tf121_1 rfl rfl ?_
            refine RL.store1 0 rfl wh_ts39 rfl rfl rfl rfl rfl ?_
            refine RL.nil ?_
            refine NX.seq ?_
            refine TR.exit ?_
            refine NX.exitThen ?_
            refine NX.exitOn rfl ?_
            refine NX.exitThen ?_
            refine NX.exitThen ?_
            refine NX.exitHere ?_
            refine NX.seq ?_
            refine TR.seq ?_
            refine TR.region ?_
            refine RL.assign rfl rfl rfl ?_
            refine RL.nil ?_
            refine NX.seq ?_
            refine TR.ret ?_
            have hb : badU x.i l[x.i] := by unfold badU; omega
            have hru : rdU l e = (0, l.drop (x.i + 1), 2) := by rw [hin.2.2.1, hdk, decU_bad hb]
            have hrb : refB l e = l := by unfold refB; rw [hru]; exact if_neg (show ¬ (2 : Int) = 0 by decide)
            refine NX.ret1x rfl rfl (fun w hw => ⟨⟨⟨oa, c⟩, by rw [hrb]; exact hc⟩, by rw [hru] <;> rfl, ?_⟩)
            show St w (Box b 121 [.slice oa (refB l e).length c, I (rdU l e).2.2] :: M) (ArrF oa (bytesV (refB l e)) :: F)
            rw [hrb, hru]
            exact (hw.facts (F' := F) (fun φ h => .tail _ h)).addFact (ArrF oa (bytesV l)) (fun K hf => hf _ ha)
          · skip
            have h44 := of_decide_eq_false h10
            refine TR.skip ?_
            refine NX.seq ?_
            refine TR.seq ?_
            refine TR.region ?_
            have hgood : ¬ badU x.i l[x.i] := by unfold badU; omega
            have hfit := byte_fits hgood hin.1 hin.2.1
            have hmul : l[x.i].toNat % 128 * 2 ^ (7 * x.i) % 18446744073709551616 = l[x.i].toNat % 128 * 2 ^ (7 * x.i) := Nat.mod_eq_of_lt (by omega)
            have hadd : (x.n + l[x.i].toNat % 128 * 2 ^ (7 * x.i) % 18446744073709551616) % 18446744073709551616 = x.n + l[x.i].toNat % 128 * 2 ^ (7 * x.i) := by rw [hmul, Nat.mod_eq_of_lt hfit.1]
            refine RL.move rfl rfl rfl ?_
            refine RL.move rfl rfl rfl ?_
            refine RL.bin rfl rfl rfl (BinV.remK (b := 128) (by omega)) rfl ?_
            refine RL.conv rfl rfl (ConvV.bu wh_ti5 wh_ti65 (by omega)) rfl ?_
            refine RL.move rfl rfl rfl ?_
            refine RL.bin rfl rfl rfl BinV.mulUw rfl ?_
            refine RL.bin rfl rfl rfl BinV.addUw rfl ?_
            refine RL.assign rfl rfl rfl ?_
            refine RL.nil ?_
            refine NX.seq ?_
            refine TR.seq ?_
            refine TR.region ?_
            refine RL.move rfl rfl rfl ?_
            refine RL.bin rfl rfl rfl (BinV.mulUw (b := 128)) rfl ?_
            refine RL.assign rfl rfl rfl ?_
            refine RL.nil ?_
            refine NX.seq ?_
            refine TR.seq ?_
            refine TR.region ?_
            refine RL.move rfl rfl rfl ?_
            refine RL.bin rfl rfl rfl BinV.lss rfl ?_
            refine RL.nil ?_
            refine NX.seq ?_
            refine TR.cond rfl (fun h11 => ?_) (fun h11 => ?_)
            · skip
              have h128 : l[x.i].toNat < 128 := by have := of_decide_eq_true h11; omega
              refine TR.seq ?_
              refine TR.region ?_
              refine RL.move rfl rfl rfl ?_
              refine RL.move rfl rfl rfl ?_
              refine RL.nilCheck rfl rfl rfl ?_
              refine RL.fieldAddr rfl wh_tf121_0 rfl rfl ?_
              refine RL.load1 0 rfl wh_ts23 rfl rfl rfl rfl ?_
              refine RL.move rfl rfl rfl ?_
              refine RL.bin rfl rfl rfl (BinV.add _ rfl (by omega) (by omega)) rfl ?_
              refine RL.sliceFromB (k := (x.i + 1)) (cap := c) rfl wh_tl23 wh_tz5 rfl rfl (by omega) hc (.tail _ ha) rfl ?_
              refine RL.nilCheck rfl rfl rfl ?_
              refine RL.fieldAddr rfl wh_tf121_0 rfl rfl ?_
              refine RL.store1 0 rfl wh_ts23 rfl rfl rfl rfl rfl ?_
              refine RL.nil ?_
              refine NX.seq ?_
              refine TR.seq ?_
              refine TR.region ?_
              refine RL.move rfl rfl rfl ?_
              refine RL.assign rfl rfl rfl ?_
              refine RL.nil ?_
              refine NX.seq ?_
              refine TR.ret ?_
              refine NX.retBlock ?_
              refine NX.retThen ?_
              refine NX.retThen ?_
              refine NX.retBlock ?_
              refine NX.retThen ?_
              have hru : rdU l e = (x.n + l[x.i].toNat % 128 * 2 ^ (7 * x.i), l.drop (x.i + 1), 0) := by rw [hin.2.2.1, hdk, decU_last hgood h128]
              rw [hadd]
              have hrb : refB l e = (l.drop (x.i + 1)) := by unfold refB; rw [hru]; exact if_pos (show (0 : Int) = 0 from rfl)
              refine NX.ret1x rfl rfl (fun w hw => ⟨⟨⟨(cutA oa (x.i + 1) c 1), (c - (x.i + 1))⟩, by rw [hrb]; exact (show (l.drop (x.i + 1)).length ≤ c - (x.i + 1) by rw [List.length_drop]; omega)⟩, by rw [hru] <;> rfl, ?_⟩)
              show St w (Box b 121 [.slice (cutA oa (x.i + 1) c 1) (refB l e).length (c - (x.i + 1)), I (rdU l e).2.2] :: M) (ArrF (cutA oa (x.i + 1) c 1) (bytesV (refB l e)) :: F)
              rw [hrb, hru]
              exact (by
                have h9 : St w (Box b 121 [.slice (cutA oa (x.i + 1) c 1) (l.drop (x.i + 1)).length (c - (x.i + 1)), I e] :: M) _ := hw
                rw [hee] at h9
                exact h9.facts (fun φ h => by
                  rcases List.mem_cons.1 h with e1 | h
                  · subst e1; exact .head _
                  · exact .tail _ (.tail _ h)))
            · skip
              have h128 : ¬ l[x.i].toNat < 128 := by have := of_decide_eq_false h11; omega
              have hi8 : x.i ≤ 8 := by unfold badU at hgood; omega
              refine TR.skip ?_
              refine NX.off ?_
              refine NX.seq ?_
              refine TR.region ?_
              refine RL.move rfl rfl rfl ?_
              refine RL.bin rfl rfl rfl (BinV.add _ rfl (by omega) (by omega)) rfl ?_
              refine RL.assign rfl rfl rfl ?_
              refine RL.nil ?_
              have hu : 2 ^ (7 * x.i) * 128 % 18446744073709551616 = 2 ^ (7 * (x.i + 1)) := by
                have e1 : (2 : Nat) ^ (7 * (x.i + 1)) = 2 ^ (7 * x.i) * 128 := by rw [show 7 * (x.i + 1) = 7 * x.i + 7 from by omega, Nat.pow_add]
                have e2 : (2 : Nat) ^ (7 * (x.i + 1)) ≤ 2 ^ 63 := Nat.pow_le_pow_right (by omega) (by omega)
                rw [← e1]; exact Nat.mod_eq_of_lt (by omega)
              refine NX.roundP ⟨x.i + 1, x.n + l[x.i].toNat % 128 * 2 ^ (7 * x.i)⟩ (fun _ => ⟨by show x.i + 1 ≤ 9; omega, hfit.2 hi8, ?_, hlt⟩) (by show _ - (x.i + 1) < _ - x.i; omega) ⟨rfl, congrArg (fun z => some (U z)) hadd, congrArg (fun z => some (U z)) hu, rfl, trivial⟩ (fun w hw => hw.facts (fun φ h => .tail _ h))
              show rdU l e = decU (x.i + 1) _ (l.drop (x.i + 1))
              rw [hin.2.2.1, hdk, decU_more hgood h128]
        · skip
          have h99 := of_decide_eq_false h9
          refine RL.skip rfl rfl rfl ?_
          refine RL.skip rfl rfl rfl ?_
          refine RL.pickF rfl rfl rfl rfl ?_
          refine RL.pickF rfl rfl rfl rfl ?_
          refine RL.nil ?_
          refine NX.seq ?_
          refine TR.condF rfl ?_
          refine TR.skip ?_
          refine NX.seq ?_
          refine TR.seq ?_
          refine TR.region ?_
          have hgood : ¬ badU x.i l[x.i] := by unfold badU; omega
          have hfit := byte_fits hgood hin.1 hin.2.1
          have hmul : l[x.i].toNat % 128 * 2 ^ (7 * x.i) % 18446744073709551616 = l[x.i].toNat % 128 * 2 ^ (7 * x.i) := Nat.mod_eq_of_lt (by omega)
          have hadd : (x.n + l[x.i].toNat % 128 * 2 ^ (7 * x.i) % 18446744073709551616) % 18446744073709551616 = x.n + l[x.i].toNat % 128 * 2 ^ (7 * x.i) := by rw [hmul, Nat.mod_eq_of_lt hfit.1]
          refine RL.move rfl rfl rfl ?_
          refine RL.move rfl rfl rfl ?_
          refine RL.bin rfl rfl rfl (BinV.remK (b := 128) (by omega)) rfl ?_
          refine RL.conv rfl rfl (ConvV.bu wh_ti5 wh_ti65 (by omega)) rfl ?_
          refine RL.move rfl rfl rfl ?_
          refine RL.bin rfl rfl rfl BinV.mulUw rfl ?_
          refine RL.bin rfl rfl rfl BinV.addUw rfl ?_
          refine RL.assign rfl rfl rfl ?_
          refine RL.nil ?_
          refine NX.seq ?_
          refine TR.seq ?_
          refine TR.region ?_
          refine RL.move rfl rfl rfl ?_
          refine RL.bin rfl rfl rfl (BinV.mulUw (b := 128)) rfl ?_
          refine RL.assign rfl rfl rfl ?_
          refine RL.nil ?_
          refine NX.seq ?_
          refine TR.seq ?_
          refine TR.region ?_
          refine RL.move rfl rfl rfl ?_
          refine RL.bin rfl rfl rfl BinV.lss rfl ?_
          refine RL.nil ?_
          refine NX.seq ?_
          refine TR.cond rfl (fun h12 => ?_) (fun h12 => ?_)
          · skip
            have h128 : l[x.i].toNat < 128 := by have := of_decide_eq_true h12; omega
            refine TR.seq ?_
            refine TR.region ?_
            refine RL.move rfl rfl rfl ?_
            refine RL.move rfl rfl rfl ?_
            refine RL.nilCheck rfl rfl rfl ?_
            refine RL.fieldAddr rfl wh_tf121_0 rfl rfl ?_
            refine RL.load1 0 rfl wh_ts23 rfl rfl rfl rfl ?_
            refine RL.move rfl rfl rfl ?_
            refine RL.bin rfl rfl rfl (BinV.add _ rfl (by omega) (by omega)) rfl ?_
            refine RL.sliceFromB (k := (x.i + 1)) (cap := c) rfl wh_tl23 wh_tz5 rfl rfl (by omega) hc (.tail _ ha) rfl ?_
            refine RL.nilCheck rfl rfl rfl ?_
            refine RL.fieldAddr rfl wh_tf121_0 rfl rfl ?_
            refine RL.store1 0 rfl wh_ts23 rfl rfl rfl rfl rfl ?_
            refine RL.nil ?_
            refine NX.seq ?_
            refine TR.seq ?_
            refine TR.region ?_
            refine RL.move rfl rfl rfl ?_
            refine RL.assign rfl rfl rfl ?_
            refine RL.nil ?_
            refine NX.seq ?_
            refine TR.ret ?_
            refine NX.retBlock ?_
            refine NX.retThen ?_
            refine NX.retThen ?_
            refine NX.retBlock ?_
            refine NX.retThen ?_
            have hru : rdU l e = (x.n + l[x.i].toNat % 128 * 2 ^ (7 * x.i), l.drop (x.i + 1), 0) := by rw [hin.2.2.1, hdk, decU_last hgood h128]
            rw [hadd]
            have hrb : refB l e = (l.drop (x.i + 1)) := by unfold refB; rw [hru]; exact if_pos (show (0 : Int) = 0 from rfl)
            refine NX.ret1x rfl rfl (fun w hw => ⟨⟨⟨(cutA oa (x.i + 1) c 1), (c - (x.i + 1))⟩, by rw [hrb]; exact (show (l.drop (x.i + 1)).length ≤ c - (x.i + 1) by rw [List.length_drop]; omega)⟩, by rw [hru] <;> rfl, ?_⟩)
            show St w (Box b 121 [.slice (cutA oa (x.i + 1) c 1) (refB l e).length (c - (x.i + 1)), I (rdU l e).2.2] :: M) (ArrF (cutA oa (x.i + 1) c 1) (bytesV (refB l e)) :: F)
            rw [hrb, hru]
            exact (by
              have h9 : St w (Box b 121 [.slice (cutA oa (x.i + 1) c 1) (l.drop (x.i + 1)).length (c - (x.i + 1)), I e] :: M) _ := hw
              rw [hee] at h9
              exact h9.facts (fun φ h => by
                rcases List.mem_cons.1 h with e1 | h
                · subst e1; exact .head _
                · exact .tail _ (.tail _ h)))
          · skip
            have h128 : ¬ l[x.i].toNat < 128 := by have := of_decide_eq_false h12; omega
            have hi8 : x.i ≤ 8 := by unfold badU at hgood; omega
            refine TR.skip ?_
            refine NX.off ?_
            refine NX.seq ?_
            refine TR.region ?_
            refine RL.move rfl rfl rfl ?_
            refine RL.bin rfl rfl rfl (BinV.add _ rfl (by omega) (by omega)) rfl ?_
            refine RL.assign rfl rfl rfl ?_
            refine RL.nil ?_
            have hu : 2 ^ (7 * x.i) * 128 % 18446744073709551616 = 2 ^ (7 * (x.i + 1)) := by
              have e1 : (2 : Nat) ^ (7 * (x.i + 1)) = 2 ^ (7 * x.i) * 128 := by rw [show 7 * (x.i + 1) = 7 * x.i + 7 from by omega, Nat.pow_add]
              have e2 : (2 : Nat) ^ (7 * (x.i + 1)) ≤ 2 ^ 63 := Nat.pow_le_pow_right (by omega) (by omega)
              rw [← e1]; exact Nat.mod_eq_of_lt (by omega)
            refine NX.roundP ⟨x.i + 1, x.n + l[x.i].toNat % 128 * 2 ^ (7 * x.i)⟩ (fun _ => ⟨by show x.i + 1 ≤ 9; omega, hfit.2 hi8, ?_, hlt⟩) (by show _ - (x.i + 1) < _ - x.i; omega) ⟨rfl, congrArg (fun z => some (U z)) hadd, congrArg (fun z => some (U z)) hu, rfl, trivial⟩ (fun w hw => hw.facts (fun φ h => .tail _ h))
            show rdU l e = decU (x.i + 1) _ (l.drop (x.i + 1))
            rw [hin.2.2.1, hdk, decU_more hgood h128]
  · skip
    have hee : ¬ e = 0 := of_decide_eq_false h1
    refine TR.exit ?_
    refine NX.exitThen ?_
    refine NX.exitThen ?_
    refine NX.exitHere ?_
    refine NX.seq ?_
    refine TR.seq ?_
    refine TR.region ?_
    refine RL.assign rfl rfl rfl ?_
    refine RL.nil ?_
    refine NX.seq ?_
    refine TR.ret ?_
    have hru : rdU l e = (0, l, e) := by unfold rdU; rw [if_neg hee]
    have hrb : refB l e = l := by unfold refB; rw [hru]; exact if_neg hee
    refine NX.ret1x rfl rfl (fun w hw => ⟨⟨⟨oa, c⟩, by rw [hrb]; exact hc⟩, by rw [hru] <;> rfl, ?_⟩)
    show St w (Box b 121 [.slice oa (refB l e).length c, I (rdU l e).2.2] :: M) (ArrF oa (bytesV (refB l e)) :: F)
    rw [hrb, hru]
    exact hw.addFact (ArrF oa (bytesV l)) (fun K hf => hf _ ha)

theorem rrInt_spec {b : Nat} {l : List UInt8} {oa : Option Addr} {c : Nat} {e : Int} {M : List HP} {F : List Fact} (ha : ArrF oa (bytesV l) ∈ F) (hc : l.length ≤ c) : Ctr Try.prog 80 [.pointer (some ⟨b, 0, none⟩)] (Box b 121 [.slice oa l.length c, I e] :: M) F {z : RdX // (refB l e).length ≤ z.c} (fun _ => I (uz (rdU l e).1)) (fun z => Box b 121 [.slice z.1.oa (refB l e).length z.1.c, I (rdU l e).2.2] :: M) (fun z => ArrF z.1.oa (bytesV (refB l e)) :: F) := by
  refine Ctr.body Try.func80 rfl rfl ?_
  refine TR.seq ?_
  refine TR.region ?_
  refine RL.assign rfl rfl rfl ?_
  refine RL.nil ?_
  refine NX.seq ?_
  refine TR.seq ?_
  refine TR.region ?_
  refine RL.move rfl rfl rfl ?_
  refine RL.call rfl rfl Try.call98 rfl (rrUint_spec ha hc) (fun y => ?_)
  refine RL.call rfl rfl Try.call97 rfl (back_spec rdU_lt) (fun _ => ?_)
  refine RL.assign rfl rfl rfl ?_
  refine RL.nil ?_
  refine NX.seq ?_
  refine TR.ret ?_
  exact NX.ret1 y rfl rfl rfl (fun w hw => hw)

theorem rrLen_spec {b : Nat} {l : List UInt8} {oa : Option Addr} {c : Nat} {e : Int} {M : List HP} {F : List Fact} (ha : ArrF oa (bytesV l) ∈ F) (hc : l.length ≤ c) (hl : l.length ≤ 70368744177664) : Ctr Try.prog 96 [.pointer (some ⟨b, 0, none⟩)] (Box b 121 [.slice oa l.length c, I e] :: M) F {z : RdX // (refB l e).length ≤ z.c} (fun _ => I (if (rdRaw l e).2.2 = 0 then ((rdU l e).1 : Int) else 0)) (fun z => Box b 121 [.slice z.1.oa (refB l e).length z.1.c, I (rdRaw l e).2.2] :: M) (fun z => ArrF z.1.oa (bytesV (refB l e)) :: F) := by
  refine Ctr.body Try.func96 rfl rfl ?_
  refine TR.seq ?_
  refine TR.region ?_
  refine RL.assign rfl rfl rfl ?_
  refine RL.nil ?_
  refine NX.seq ?_
  refine TR.seq ?_
  refine TR.region ?_
  refine RL.move rfl rfl rfl ?_
  refine RL.call rfl rfl Try.call98 rfl (rrUint_spec ha hc) (fun y => ?_)
  refine RL.assign rfl rfl rfl ?_
  refine RL.nil ?_
  refine NX.seq ?_
  refine TR.seq ?_
  refine TR.seq ?_
  refine TR.region ?_
  have hbl := refB_len (l := l) (e := e)
  have hpl := rdU_len (l := l) (e := e)
  refine RL.move rfl rfl rfl ?_
  refine RL.nilCheck rfl rfl rfl ?_
  refine RL.fieldAddr rfl wh_tf121_1 rfl rfl ?_
  refine RL.load1 0 rfl wh_ts39 rfl rfl rfl rfl ?_
  refine RL.bin rfl rfl rfl BinV.eql rfl ?_
  refine RL.move rfl rfl rfl ?_
  refine RL.part (fun h1 => ?_) (fun h1 => ?_)
  · skip
    have he0 : (rdU l e).2.2 = 0 := of_decide_eq_true h1
    have hbe : refB l e = (rdU l e).2.1 := by unfold refB; rw [if_pos he0]
    refine RL.move rfl rfl rfl ?_
    refine RL.move rfl rfl rfl ?_
    refine RL.nilCheck rfl rfl rfl ?_
    refine RL.fieldAddr rfl wh_tf121_0 rfl rfl ?_
    refine RL.load1 0 rfl wh_ts23 rfl rfl rfl rfl ?_
    refine RL.lenSlice rfl wh_tl23 rfl rfl ?_
    refine RL.conv rfl rfl (ConvV.iu wh_ti3 wh_ti65 (by omega)) rfl ?_
    refine RL.bin rfl rfl rfl BinV.gtr rfl ?_
    refine RL.pickT rfl rfl rfl rfl ?_
    refine RL.nil ?_
    refine NX.seq ?_
    refine TR.cond rfl (fun h2 => ?_) (fun h2 => ?_)
    · skip
      have hfar : (rdU l e).2.1.length < (rdU l e).1 := by rw [← hbe]; have := of_decide_eq_true h2; omega
      refine TR.region ?_
      refine RL.move rfl rfl rfl ?_
      refine RL.nilCheck rfl rfl rfl ?_
      refine RL.fieldAddr rfl wh_tf121_1 rfl rfl ?_
      refine RL.store1 0 rfl wh_ts39 rfl rfl rfl rfl rfl ?_
      refine RL.nil ?_
      refine NX.seq ?_
      refine TR.seq ?_
      refine TR.seq ?_
      refine TR.region ?_
      refine RL.move rfl rfl rfl ?_
      refine RL.nilCheck rfl rfl rfl ?_
      refine RL.fieldAddr rfl wh_tf121_1 rfl rfl ?_
      refine RL.load1 0 rfl wh_ts39 rfl rfl rfl rfl ?_
      refine RL.bin rfl rfl rfl BinV.neq rfl ?_
      refine RL.nil ?_
      refine NX.seq ?_
      refine TR.cond rfl (fun h3 => ?_) (fun h3 => ?_)
      · skip
        refine TR.seq ?_
        refine TR.region ?_
        refine RL.assign rfl rfl rfl ?_
        refine RL.nil ?_
        refine NX.seq ?_
        refine TR.ret ?_
        refine NX.retThen ?_
        have hR : rdRaw l e = ([], (rdU l e).2.1, 3) := rdRaw_far he0 hfar
        refine NX.ret1 y rfl rfl (by rw [hR]; rfl) (fun w hw => ?_)
        rw [hR]
        exact hw
      · skip
        exact absurd (of_decide_eq_false h3) (by decide)
    · skip
      have hnear : (rdU l e).1 ≤ (rdU l e).2.1.length := by rw [← hbe]; have := of_decide_eq_false h2; omega
      refine TR.skip ?_
      refine NX.seq ?_
      refine TR.seq ?_
      refine TR.seq ?_
      refine TR.region ?_
      refine RL.move rfl rfl rfl ?_
      refine RL.nilCheck rfl rfl rfl ?_
      refine RL.fieldAddr rfl wh_tf121_1 rfl rfl ?_
      refine RL.load1 0 rfl wh_ts39 rfl rfl rfl rfl ?_
      refine RL.bin rfl rfl rfl BinV.neq rfl ?_
      refine RL.nil ?_
      refine NX.seq ?_
      refine TR.cond rfl (fun h4 => ?_) (fun h4 => ?_)
      · skip
        exact absurd he0 (of_decide_eq_true h4)
      · skip
        refine TR.skip ?_
        refine NX.seq ?_
        refine TR.seq ?_
        refine TR.region ?_
        refine RL.move rfl rfl rfl ?_
        refine RL.conv rfl rfl (ConvV.uiS wh_ti65 wh_ti3 (by omega)) rfl ?_
        refine RL.assign rfl rfl rfl ?_
        refine RL.nil ?_
        refine NX.seq ?_
        refine TR.ret ?_
        have hR := rdRaw_ok he0 hnear
        refine NX.ret1 y rfl rfl (by rw [hR]; exact congrArg (fun z => I z) (if_pos rfl).symm) (fun w hw => ?_)
        rw [hR]
        rw [he0] at hw
        exact hw
  · skip
    have he0 : ¬ (rdU l e).2.2 = 0 := of_decide_eq_false h1
    refine RL.skip rfl rfl rfl ?_
    refine RL.skip rfl rfl rfl ?_
    refine RL.skip rfl rfl rfl ?_
    refine RL.skip rfl rfl rfl ?_
    refine RL.skip rfl rfl rfl ?_
    refine RL.skip rfl rfl rfl ?_
    refine RL.skip rfl rfl rfl ?_
    refine RL.skip rfl rfl rfl ?_
    refine RL.pickF rfl rfl rfl rfl ?_
    refine RL.nil ?_
    refine NX.seq ?_
    refine TR.condF rfl ?_
    refine TR.skip ?_
    refine NX.seq ?_
    refine TR.seq ?_
    refine TR.seq ?_
    refine TR.region ?_
    refine RL.move rfl rfl rfl ?_
    refine RL.nilCheck rfl rfl rfl ?_
    refine RL.fieldAddr rfl wh_tf121_1 rfl rfl ?_
    refine RL.load1 0 rfl wh_ts39 rfl rfl rfl rfl ?_
    refine RL.bin rfl rfl rfl BinV.neq rfl ?_
    refine RL.nil ?_
    refine NX.seq ?_
    refine TR.cond rfl (fun h5 => ?_) (fun h5 => ?_)
    · skip
      refine TR.seq ?_
      refine TR.region ?_
      refine RL.assign rfl rfl rfl ?_
      refine RL.nil ?_
      refine NX.seq ?_
      refine TR.ret ?_
      refine NX.retThen ?_
      have hR := rdRaw_err he0
      refine NX.ret1 y rfl rfl (by rw [hR]; exact congrArg (fun z => I z) (if_neg he0).symm) (fun w hw => ?_)
      rw [hR]
      exact hw
    · skip
      exact absurd he0 (of_decide_eq_false h5)

theorem rrRaw_spec {b : Nat} {l : List UInt8} {oa : Option Addr} {c : Nat} {e : Int} {M : List HP} {F : List Fact} (ha : ArrF oa (bytesV l) ∈ F) (hc : l.length ≤ c) (hl : l.length ≤ 70368744177664) : Ctr Try.prog 79 [.pointer (some ⟨b, 0, none⟩)] (Box b 121 [.slice oa l.length c, I e] :: M) F {z : RwX // (refR l e).length ≤ z.c ∧ (rdRaw l e).1.length ≤ z.rc} (fun z => .slice z.1.ro (rdRaw l e).1.length z.1.rc) (fun z => Box b 121 [.slice z.1.oa (refR l e).length z.1.c, I (rdRaw l e).2.2] :: M) (fun z => ArrF z.1.ro (bytesV (rdRaw l e).1) :: ArrF z.1.oa (bytesV (refR l e)) :: F) := by
  refine Ctr.body Try.func79 rfl rfl ?_
  refine TR.seq ?_
  refine TR.region ?_
  refine RL.assign rfl rfl rfl ?_
  refine RL.nil ?_
  refine NX.seq ?_
  refine TR.seq ?_
  refine TR.region ?_
  refine RL.move rfl rfl rfl ?_
  refine RL.call rfl rfl Try.call96 rfl (rrLen_spec ha hc hl) (fun y => ?_)
  refine RL.assign rfl rfl rfl ?_
  refine RL.nil ?_
  refine NX.seq ?_
  refine TR.seq ?_
  refine TR.seq ?_
  refine TR.region ?_
  refine RL.move rfl rfl rfl ?_
  refine RL.nilCheck rfl rfl rfl ?_
  refine RL.fieldAddr rfl wh_tf121_1 rfl rfl ?_
  refine RL.load1 0 rfl wh_ts39 rfl rfl rfl rfl ?_
  refine RL.bin rfl rfl rfl BinV.neq rfl ?_
  refine RL.nil ?_
  refine NX.seq ?_
  refine TR.cond rfl (fun h1 => ?_) (fun h1 => ?_)
  · skip
    have hE : ¬ (rdRaw l e).2.2 = 0 := of_decide_eq_true h1
    refine TR.seq ?_
    refine TR.region ?_
    refine RL.assign rfl rfl rfl ?_
    refine RL.nil ?_
    refine NX.seq ?_
    refine TR.ret ?_
    refine NX.retThen ?_
    have hRn : (rdRaw l e).1 = [] := by
      rcases Int.decEq (rdU l e).2.2 0 with h | h
      · rw [rdRaw_err h]
      · rcases Nat.lt_or_ge (rdU l e).2.1.length (rdU l e).1 with h2 | h2
        · rw [rdRaw_far h h2]
        · rw [rdRaw_ok h h2] at hE; exact absurd rfl hE
    refine NX.ret1x rfl rfl (fun w hw => ⟨⟨⟨none, 0, y.1.oa, y.1.c⟩, ?_⟩, ?_, ?_⟩)
    · unfold refR; rw [if_neg hE]; exact ⟨y.2, by rw [hRn]; exact Nat.zero_le _⟩
    · show Value.slice none 0 0 = Value.slice none (rdRaw l e).1.length 0; rw [hRn]; rfl
    · show St w (Box b 121 [.slice y.1.oa (refR l e).length y.1.c, I (rdRaw l e).2.2] :: M) (ArrF none (bytesV (rdRaw l e).1) :: ArrF y.1.oa (bytesV (refR l e)) :: F)
      unfold refR
      rw [if_neg hE, hRn]
      exact hw.arr0
  · skip
    have hE : (rdRaw l e).2.2 = 0 := by have := of_decide_eq_false h1; omega
    have he0 : (rdU l e).2.2 = 0 := by
      rcases Int.decEq (rdU l e).2.2 0 with h | h
      · rw [rdRaw_err h] at hE; exact absurd hE h
      · exact h
    have hnear : (rdU l e).1 ≤ (rdU l e).2.1.length := by
      rcases Nat.lt_or_ge (rdU l e).2.1.length (rdU l e).1 with h | h
      · rw [rdRaw_far he0 h] at hE; exact absurd hE (show ¬ (3 : Int) = 0 by decide)
      · exact h
    have hR := rdRaw_ok he0 hnear
    have hbe : refB l e = (rdU l e).2.1 := by unfold refB; rw [if_pos he0]
    have hLV : (if (rdRaw l e).2.2 = 0 then ((rdU l e).1 : Int) else 0) = ((rdU l e).1 : Int) := if_pos hE
    obtain ⟨⟨yoa, yc⟩, hyc⟩ := y
    have hyc : (refB l e).length ≤ yc := hyc
    rw [hLV]
    refine TR.skip ?_
    refine NX.seq ?_
    refine TR.seq ?_
    refine TR.region ?_
    refine RL.move rfl rfl rfl ?_
    refine RL.nilCheck rfl rfl rfl ?_
    refine RL.fieldAddr rfl wh_tf121_0 rfl rfl ?_
    refine RL.load1 0 rfl wh_ts23 rfl rfl rfl rfl ?_
    refine RL.move rfl rfl rfl ?_
    refine RL.sliceToB (k := (rdU l e).1) (cap := yc) rfl wh_tl23 wh_tz5 rfl rfl (by rw [List.length_take, hbe]; omega) hyc (.head _) rfl ?_
    refine RL.assign rfl rfl rfl ?_
    refine RL.nil ?_
    refine NX.seq ?_
    refine TR.seq ?_
    refine TR.region ?_
    refine RL.move rfl rfl rfl ?_
    refine RL.move rfl rfl rfl ?_
    refine RL.nilCheck rfl rfl rfl ?_
    refine RL.fieldAddr rfl wh_tf121_0 rfl rfl ?_
    refine RL.load1 0 rfl wh_ts23 rfl rfl rfl rfl ?_
    refine RL.move rfl rfl rfl ?_
    refine RL.sliceFromB (k := (rdU l e).1) (cap := yc) rfl wh_tl23 wh_tz5 rfl rfl (by rw [hbe]; exact hnear) hyc (.tail _ (.head _)) rfl ?_
    refine RL.nilCheck rfl rfl rfl ?_
    refine RL.fieldAddr rfl wh_tf121_0 rfl rfl ?_
    refine RL.store1 0 rfl wh_ts23 rfl rfl rfl rfl rfl ?_
    refine RL.nil ?_
    refine NX.seq ?_
    refine TR.seq ?_
    refine TR.region ?_
    refine RL.move rfl rfl rfl ?_
    refine RL.assign rfl rfl rfl ?_
    refine RL.nil ?_
    refine NX.seq ?_
    refine TR.ret ?_
    refine NX.ret1x rfl rfl (fun w hw => ⟨⟨⟨cutA yoa 0 yc 1, yc, cutA yoa (rdU l e).1 yc 1, yc - (rdU l e).1⟩, ?_⟩, ?_, ?_⟩)
    · unfold refR; rw [if_pos hE, hR]
      have h7 := hyc
      rw [hbe] at h7
      exact ⟨by show ((rdU l e).2.1.drop (rdU l e).1).length ≤ yc - (rdU l e).1; rw [List.length_drop]; omega, by show ((rdU l e).2.1.take (rdU l e).1).length ≤ yc; rw [List.length_take]; omega⟩
    · show Value.slice (cutA yoa 0 yc 1) ((refB l e).take (rdU l e).1).length yc = Value.slice (cutA yoa 0 yc 1) (rdRaw l e).1.length yc
      rw [hR, hbe]
    · show St w (Box b 121 [.slice (cutA yoa (rdU l e).1 yc 1) (refR l e).length (yc - (rdU l e).1), I (rdRaw l e).2.2] :: M) (ArrF (cutA yoa 0 yc 1) (bytesV (rdRaw l e).1) :: ArrF (cutA yoa (rdU l e).1 yc 1) (bytesV (refR l e)) :: F)
      unfold refR
      rw [if_pos hE]
      have h9 : St w (Box b 121 [.slice (cutA yoa (rdU l e).1 yc 1) ((refB l e).drop (rdU l e).1).length (yc - (rdU l e).1), I (rdRaw l e).2.2] :: M) (ArrF (cutA yoa (rdU l e).1 yc 1) (bytesV ((refB l e).drop (rdU l e).1)) :: ArrF (cutA yoa 0 yc 1) (bytesV ((refB l e).take (rdU l e).1)) :: ArrF yoa (bytesV (refB l e)) :: F) := hw
      rw [hR] at h9 ⊢
      rw [hbe] at h9
      exact h9.facts (fun φ h => by
        rcases List.mem_cons.1 h with e1 | h
        · subst e1; exact .tail _ (.head _)
        rcases List.mem_cons.1 h with e1 | h
        · subst e1; exact .head _
        · exact .tail _ (.tail _ (.tail _ h)))

end Go.Proofs.Ytdlpaojkkekdlaa
