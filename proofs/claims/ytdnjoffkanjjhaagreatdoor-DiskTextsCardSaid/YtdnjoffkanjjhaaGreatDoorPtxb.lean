/- Lemmas and walks for the proof of TexJ: texts one behind the other. No condition. -/
import Derived.Maps.RangeRun
import Derived.Maps.Keyed
import Derived.Carry
import Derived.DefersIn
import Derived.Laws.OwnMore
import Derived.Test.YtdnjoffkanjjhaaGreatDoorPtxa
set_option linter.unusedVariables false
set_option linter.unusedSimpArgs false
namespace Go.Proofs.YtdnjoffkanjjhaaGreatDoor
open Go.GL
set_option linter.unusedVariables false
theorem wc_bs32_1_0 (x0 : Int) : BuildSV Tryz.prog 32 5 1 [(0, .int .u8 x0)] [.int .u8 x0] := fun w => by kernel_rfl
theorem wc_bv78_0 (x0 : Option Addr) (x0n x0c : Nat) : BuildV Tryz.prog 78 [(0, .slice x0 x0n x0c)] (.agg #[.slice x0 x0n x0c, .int .i64 0]) := fun w => by kernel_rfl
theorem wc_ni32 : noInt Tryz.prog 32 = true := by kernel_rfl
theorem wc_te5 : tyElem Tryz.prog 5 1 1 = true := by kernel_rfl
theorem wc_tf78_0 : fieldOff Tryz.prog 78 0 0 = true := by kernel_rfl
theorem wc_tf78_1 : fieldOff Tryz.prog 78 1 1 = true := by kernel_rfl
theorem wc_ti3 : tyInt Tryz.prog 3 .i64 = true := by kernel_rfl
theorem wc_ti5 : tyInt Tryz.prog 5 .u8 = true := by kernel_rfl
theorem wc_ti64 : tyInt Tryz.prog 64 .u64 = true := by kernel_rfl
theorem wc_tl32 : tySlice Tryz.prog 32 5 = true := by kernel_rfl
theorem wc_ts24 : tyScalar Tryz.prog 24 = true := by kernel_rfl
theorem wc_ts32 : tyScalar Tryz.prog 32 = true := by kernel_rfl
theorem wc_ts5 : tyScalar Tryz.prog 5 = true := by kernel_rfl
theorem wc_tz5 : tySize Tryz.prog 5 1 = true := by kernel_rfl
theorem read_spec {l : List UInt8} {oa : Option Addr} {c : Nat} {M : List HP} {F : List Fact} (ha : ArrF oa (bytesV l) ∈ F) (hl : l.length ≤ 70368744177664) : Ctr Tryz.prog 18 [.slice oa l.length c] M F {z : Nat × RdX // l.length ≤ z.2.c} (fun z => .pointer (some ⟨z.1.1, 0, none⟩)) (fun z => Box z.1.1 78 [.slice z.1.2.oa l.length z.1.2.c, I 0] :: M) (fun z => ArrF z.1.2.oa (bytesV l) :: F) := by
  refine Ctr.body Tryz.func18 rfl rfl ?_
  refine TR.seq ?_
  refine TR.region ?_
  refine RL.assign rfl rfl rfl ?_
  refine RL.nil ?_
  refine NX.seq ?_
  refine TR.seq ?_
  refine TR.region ?_
  refine RL.move rfl rfl rfl ?_
  refine RL.call rfl rfl Tryz.call29 rfl (cloneB_spec (rd_fact ha) hl) (fun z => ?_)
  refine RL.build rfl rfl (wc_bv78_0 _ _ _) rfl ?_
  refine RL.boxA rfl rfl rfl (fun b1 => ?_)
  refine RL.assign rfl rfl rfl ?_
  refine RL.nil ?_
  refine NX.seq ?_
  refine TR.ret ?_
  refine NX.ret1x rfl rfl (fun w hw => ⟨⟨(b1, ⟨z.1, z.2⟩), hw.swap.ownLen.2⟩, rfl, ?_⟩)
  exact hw.swap.keepSl
theorem fail_spec {b : Nat} {sl : Value} {e k : Int} {M : List HP} {F : List Fact} : Ctr Tryz.prog 56 [.pointer (some ⟨b, 0, none⟩), I k] (Box b 78 [sl, I e] :: M) F Unit (fun _ => .tuple #[]) (fun _ => Box b 78 [sl, I (if e = 0 then k else e)] :: M) (fun _ => F) := by
  refine Ctr.body Tryz.func56 rfl rfl ?_
  refine TR.seq ?_
  refine TR.region ?_
  refine RL.move rfl rfl rfl ?_
  refine RL.nilCheck rfl rfl rfl ?_
  refine RL.fieldAddr rfl wc_tf78_1 rfl rfl ?_
  refine RL.load1 0 rfl wc_ts24 rfl rfl rfl rfl ?_
  refine RL.bin rfl rfl rfl BinV.eql rfl ?_
  refine RL.nil ?_
  refine NX.seq ?_
  refine TR.cond rfl (fun h1 => ?_) (fun h1 => ?_)
  · skip
    have he : e = 0 := of_decide_eq_true h1
    refine TR.region ?_
    refine RL.move rfl rfl rfl ?_
    refine RL.move rfl rfl rfl ?_
    refine RL.nilCheck rfl rfl rfl ?_
    refine RL.fieldAddr rfl wc_tf78_1 rfl rfl ?_
    refine RL.store1 0 rfl wc_ts24 rfl rfl rfl rfl rfl ?_
    refine RL.nil ?_
    refine NX.end0 () rfl rfl (fun w hw => ?_)
    rw [if_pos he]
    exact hw
  · skip
    have he : ¬ e = 0 := of_decide_eq_false h1
    refine TR.skip ?_
    refine NX.end0 () rfl rfl (fun w hw => ?_)
    rw [if_neg he]
    exact hw
theorem nextN_spec {b : Nat} {oa : Option Addr} {c : Nat} {M : List HP} {F : List Fact} : Ctr Tryz.prog 55 [.pointer (some ⟨b, 0, none⟩)] (Box b 78 [.slice oa ([] : List UInt8).length c, I 0] :: M) F Unit (fun _ => .int .u8 0) (fun _ => Box b 78 [.slice oa 0 c, I 3] :: M) (fun _ => F) := by
  refine Ctr.body Tryz.func55 rfl rfl ?_
  refine TR.seq ?_
  refine TR.region ?_
  refine RL.assign rfl rfl rfl ?_
  refine RL.nil ?_
  refine NX.seq ?_
  refine TR.seq ?_
  refine TR.seq ?_
  refine TR.region ?_
  refine RL.move rfl rfl rfl ?_
  refine RL.nilCheck rfl rfl rfl ?_
  refine RL.fieldAddr rfl wc_tf78_0 rfl rfl ?_
  refine RL.load1 0 rfl wc_ts32 rfl rfl rfl rfl ?_
  refine RL.lenSlice rfl wc_tl32 rfl rfl ?_
  refine RL.bin rfl rfl rfl BinV.eql rfl ?_
  refine RL.nil ?_
  refine NX.seq ?_
  refine TR.cond rfl (fun h1 => ?_) (fun h1 => ?_)
  · skip
    refine TR.region ?_
    refine RL.move rfl rfl rfl ?_
    refine RL.call rfl rfl Tryz.call56 rfl (fail_spec) (fun _ => ?_)
    refine RL.nil ?_
    refine NX.seq ?_
    refine TR.seq ?_
    refine TR.seq ?_
    refine TR.region ?_
    refine RL.move rfl rfl rfl ?_
    refine RL.nilCheck rfl rfl rfl ?_
    refine RL.fieldAddr rfl wc_tf78_1 rfl rfl ?_
    refine RL.load1 0 rfl wc_ts24 rfl rfl rfl rfl ?_
    refine RL.bin rfl rfl rfl BinV.neq rfl ?_
    refine RL.nil ?_
    refine NX.seq ?_
    refine TR.cond rfl (fun h2 => ?_) (fun h2 => ?_)
    · skip
      refine TR.seq ?_
      refine TR.region ?_
      refine RL.assign rfl rfl rfl ?_
      refine RL.nil ?_
      refine NX.seq ?_
      refine TR.ret ?_
      refine NX.retThen ?_
      refine NX.ret1 () rfl rfl rfl (fun w hw => ?_)
      rw [if_pos rfl] at hw
      exact hw
    · skip
      exact absurd (of_decide_eq_false h2) (by simp)
  · skip
    exact absurd (of_decide_eq_false h1) (by simp)
theorem nextC_spec {b : Nat} {oa : Option Addr} {c : Nat} {M : List HP} {F : List Fact} {x : UInt8} {l : List UInt8} (ha : ArrF oa (bytesV (x :: l)) ∈ F) (hc : (x :: l).length ≤ c) : Ctr Tryz.prog 55 [.pointer (some ⟨b, 0, none⟩)] (Box b 78 [.slice oa (x :: l).length c, I 0] :: M) F {z : RdX // l.length ≤ z.c} (fun _ => .int .u8 (x.toNat : Int)) (fun z => Box b 78 [.slice z.1.oa l.length z.1.c, I 0] :: M) (fun z => ArrF z.1.oa (bytesV l) :: F) := by
  refine Ctr.body Tryz.func55 rfl rfl ?_
  refine TR.seq ?_
  refine TR.region ?_
  refine RL.assign rfl rfl rfl ?_
  refine RL.nil ?_
  refine NX.seq ?_
  refine TR.seq ?_
  refine TR.seq ?_
  refine TR.region ?_
  refine RL.move rfl rfl rfl ?_
  refine RL.nilCheck rfl rfl rfl ?_
  refine RL.fieldAddr rfl wc_tf78_0 rfl rfl ?_
  refine RL.load1 0 rfl wc_ts32 rfl rfl rfl rfl ?_
  refine RL.lenSlice rfl wc_tl32 rfl rfl ?_
  refine RL.bin rfl rfl rfl BinV.eql rfl ?_
  refine RL.nil ?_
  refine NX.seq ?_
  refine TR.cond rfl (fun h1 => ?_) (fun h1 => ?_)
  · skip
    exact absurd (of_decide_eq_true h1) (by simp only [List.length_cons]; omega)
  · skip
    refine TR.skip ?_
    refine NX.seq ?_
    refine TR.seq ?_
    refine TR.seq ?_
    refine TR.region ?_
    refine RL.move rfl rfl rfl ?_
    refine RL.nilCheck rfl rfl rfl ?_
    refine RL.fieldAddr rfl wc_tf78_1 rfl rfl ?_
    refine RL.load1 0 rfl wc_ts24 rfl rfl rfl rfl ?_
    refine RL.bin rfl rfl rfl BinV.neq rfl ?_
    refine RL.nil ?_
    refine NX.seq ?_
    refine TR.cond rfl (fun h2 => ?_) (fun h2 => ?_)
    · skip
      exact absurd (of_decide_eq_true h2) (by simp)
    · skip
      refine TR.skip ?_
      refine NX.seq ?_
      refine TR.seq ?_
      refine TR.region ?_
      have hlen1 : (x :: l).length = l.length + 1 := rfl
      refine RL.openP (open_arr (oa := oa) (xs := bytesV (x :: l)) ha (by simp [bytesV])) (fun pq hpa => ?_)
      refine RL.move rfl rfl rfl ?_
      refine RL.nilCheck rfl rfl rfl ?_
      refine RL.fieldAddr rfl wc_tf78_0 rfl rfl ?_
      refine RL.load1 0 rfl wc_ts32 rfl rfl rfl rfl ?_
      refine RL.indexAddr rfl wc_tl32 wc_tz5 (congrArg (fun a => some (Value.slice a _ _)) hpa) rfl (by omega) (by omega) rfl ?_
      refine RL.loadF rfl rfl (fun w K hF => run_loadCell1 (j := (0 : Int).toNat * 1) (v := .int .u8 (x.toNat : Int)) (hF _ (.head _)) wc_ts5 (by simp [bytesV])) rfl ?_
      refine RL.assign rfl rfl rfl ?_
      refine RL.nil ?_
      refine NX.seq ?_
      refine TR.seq ?_
      refine TR.region ?_
      refine RL.move rfl rfl rfl ?_
      refine RL.move rfl rfl rfl ?_
      refine RL.nilCheck rfl rfl rfl ?_
      refine RL.fieldAddr rfl wc_tf78_0 rfl rfl ?_
      refine RL.load1 0 rfl wc_ts32 rfl rfl rfl rfl ?_
      refine RL.sliceLH (l := 1) (h := (x :: l).length) rfl wc_tl32 wc_tz5 rfl (.inr ⟨_, rfl, rfl⟩) (.inl ⟨rfl, rfl⟩) (by simp) hc rfl ?_
      refine RL.nilCheck rfl rfl rfl ?_
      refine RL.fieldAddr rfl wc_tf78_0 rfl rfl ?_
      refine RL.store1 0 rfl wc_ts32 rfl rfl rfl rfl rfl ?_
      refine RL.nil ?_
      refine NX.seq ?_
      refine TR.seq ?_
      refine TR.region ?_
      refine RL.move rfl rfl rfl ?_
      refine RL.assign rfl rfl rfl ?_
      refine RL.nil ?_
      refine NX.seq ?_
      refine TR.ret ?_
      refine NX.ret1x rfl rfl (fun w hw => ⟨⟨⟨cutA oa 1 c 1, c - 1⟩, by rw [List.length_cons] at hc; show l.length ≤ c - 1; omega⟩, rfl, ?_⟩)
      have h9 := (hw.facts (F' := F) (fun φ h => .tail _ h)).cutB (oa := oa) (cap := c) (l := x :: l) 1 (by simp) hc ha
      exact h9
structure RuX where
  i : Nat
  n : Nat
  l : List UInt8
  oa : Option Addr
  c : Nat
  e : Int
set_option maxHeartbeats 2000000 in
theorem rUint_spec {b : Nat} {l : List UInt8} {oa : Option Addr} {c : Nat} {e : Int} {M : List HP} {F : List Fact} (ha : ArrF oa (bytesV l) ∈ F) (hc : l.length ≤ c) : Ctr Tryz.prog 39 [.pointer (some ⟨b, 0, none⟩)] (Box b 78 [.slice oa l.length c, I e] :: M) F {z : RdX // (rdU l e).2.1.length ≤ z.c} (fun _ => U (rdU l e).1) (fun z => Box b 78 [.slice z.1.oa (rdU l e).2.1.length z.1.c, I (rdU l e).2.2] :: M) (fun z => ArrF z.1.oa (bytesV (rdU l e).2.1) :: F) := by
  refine Ctr.body Tryz.func39 rfl rfl ?_
  refine TR.seq ?_
  refine TR.region ?_
  refine RL.assign rfl rfl rfl ?_
  refine RL.nil ?_
  refine NX.seq ?_
  refine TR.seq ?_
  refine TR.region ?_
  refine RL.assign rfl rfl rfl ?_
  refine RL.nil ?_
  refine NX.seq ?_
  refine TR.seq ?_
  refine TR.seq ?_
  refine TR.region ?_
  refine RL.assign rfl rfl rfl ?_
  refine RL.nil ?_
  refine NX.seq ?_
  refine TR.block ?_
  refine TR.loopP (ι := RuX) (fun x => x.l.length ≤ x.c ∧ rdU l e = (if x.e = 0 then decU x.i x.n x.l else (0, x.l, x.e)) ∧ (x.e = 0 → x.i ≤ 9 ∧ x.n < 2 ^ (7 * x.i))) (fun x => [(0, .pointer (some ⟨b, 0, none⟩)), (3, U x.n), (4, I x.i)]) (fun x => Box b 78 [.slice x.oa x.l.length x.c, I x.e] :: M) (fun x => ArrF x.oa (bytesV x.l) :: F) (fun x => if x.e = 0 then x.l.length + 1 else 0) ⟨0, 0, l, oa, c, e⟩ ⟨hc, rfl, fun _ => ⟨Nat.zero_le _, by simp⟩⟩ ⟨rfl, rfl, rfl, trivial⟩ (fun w hw => hw.addFact (ArrF oa (bytesV l)) (fun K hf => hf _ ha)) (fun x hx => ?_)
  refine TR.seq ?_
  refine TR.seq ?_
  refine TR.region ?_
  refine RL.move rfl rfl rfl ?_
  refine RL.nilCheck rfl rfl rfl ?_
  refine RL.fieldAddr rfl wc_tf78_1 rfl rfl ?_
  refine RL.load1 0 rfl wc_ts24 rfl rfl rfl rfl ?_
  refine RL.bin rfl rfl rfl BinV.eql rfl ?_
  refine RL.nil ?_
  refine NX.seq ?_
  refine TR.cond rfl (fun h1 => ?_) (fun h1 => ?_)
  · skip
    have hxe : x.e = 0 := of_decide_eq_true h1
    have hin := hx.2.2 hxe
    have hru := hx.2.1
    rw [if_pos hxe] at hru
    have hx1 := hx.1
    refine TR.skip ?_
    refine NX.seq ?_
    refine TR.seq ?_
    refine TR.block ?_
    refine TR.seq ?_
    refine TR.region ?_
    rcases hxl : x.l with _ | ⟨cc, l2⟩
    · skip
      refine RL.move rfl rfl rfl ?_
      rw [hxl] at hru hx1
      rw [hxe]
      rw [decU] at hru
      refine RL.call rfl rfl Tryz.call55 rfl (nextN_spec) (fun _ => ?_)
      refine RL.assign rfl rfl rfl ?_
      refine RL.nil ?_
      refine NX.seq ?_
      refine TR.seq ?_
      refine TR.seq ?_
      refine TR.region ?_
      refine RL.move rfl rfl rfl ?_
      refine RL.bin rfl rfl rfl BinV.eql rfl ?_
      refine RL.move rfl rfl rfl ?_
      refine RL.part (fun h2 => ?_) (fun h2 => ?_)
      · skip
        have h62 : (x.i : Int) = 9 := of_decide_eq_true h2
        refine RL.move rfl rfl rfl ?_
        refine RL.bin rfl rfl rfl BinV.gtr rfl ?_
        refine RL.pickT rfl rfl rfl rfl ?_
        refine RL.move rfl rfl rfl ?_
        refine RL.part (fun h3 => ?_) (fun h3 => ?_)
        · skip
          have h66 := of_decide_eq_true h3
          refine RL.skip rfl rfl rfl ?_
          refine RL.skip rfl rfl rfl ?_
          refine RL.skip rfl rfl rfl ?_
          refine RL.skip rfl rfl rfl ?_
          refine RL.skip rfl rfl rfl ?_
          refine RL.skip rfl rfl rfl ?_
          refine RL.pickT rfl rfl rfl rfl ?_
          refine RL.nil ?_
          refine NX.seq ?_
          refine TR.condT rfl ?_
          refine TR.region ?_
          refine RL.move rfl rfl rfl ?_
          refine RL.call rfl rfl Tryz.call56 rfl (fail_spec) (fun _ => ?_)
          refine RL.nil ?_
          refine NX.seq ?_
          refine TR.seq ?_
          refine TR.region ?_
          refine RL.move rfl rfl rfl ?_
          refine RL.move rfl rfl rfl ?_
          refine RL.bin rfl rfl rfl (BinV.clear7 (a := 0) (by omega)) rfl ?_
          refine RL.conv rfl rfl (ConvV.bu wc_ti5 wc_ti64 (by omega)) rfl ?_
          refine RL.move rfl rfl rfl ?_
          refine RL.bin rfl rfl rfl (BinV.mul ((7 * x.i : Nat) : Int) (by omega) (by omega) (by omega)) rfl ?_
          refine RL.bin rfl rfl rfl (BinV.shlU (s := 7 * x.i) (by omega)) rfl ?_
          refine RL.bin rfl rfl rfl (BinV.orU (Nat.lt_of_lt_of_le hin.2 (Nat.pow_le_pow_right (by omega) (show 7 * x.i ≤ 64 by omega))) (Nat.mod_lt _ (by omega))) rfl ?_
          refine RL.assign rfl rfl rfl ?_
          refine RL.nil ?_
          refine NX.seq ?_
          refine TR.seq ?_
          refine TR.region ?_
          refine RL.move rfl rfl rfl ?_
          refine RL.bin rfl rfl rfl BinV.lss rfl ?_
          refine RL.move rfl rfl rfl ?_
          refine RL.part (fun h4 => ?_) (fun h4 => ?_)
          · skip
            have h92 := h4
            refine RL.move rfl rfl rfl ?_
            refine RL.nilCheck rfl rfl rfl ?_
            refine RL.fieldAddr rfl wc_tf78_1 rfl rfl ?_
            refine RL.load1 0 rfl wc_ts24 rfl rfl rfl rfl ?_
            refine RL.bin rfl rfl rfl BinV.eql rfl ?_
            refine RL.pickT rfl rfl rfl rfl ?_
            refine RL.nil ?_
            refine NX.seq ?_
            refine TR.cond rfl (fun h5 => ?_) (fun h5 => ?_)
            · skip
              exact absurd (of_decide_eq_true h5) (by decide)
            · skip
              refine TR.skip ?_
              refine NX.off ?_
              refine NX.seq ?_
              refine TR.region ?_
              refine RL.move rfl rfl rfl ?_
              refine RL.bin rfl rfl rfl (BinV.add _ rfl (by omega) (by omega)) rfl ?_
              refine RL.assign rfl rfl rfl ?_
              refine RL.nil ?_
              refine NX.roundP ⟨x.i + 1, (x.n ||| (0 % 128 * 2 ^ (7 * x.i) % 18446744073709551616)), [], x.oa, x.c, 3⟩ ⟨Nat.zero_le _, ?_, fun h => absurd (show (3 : Int) = 0 from h) (by decide)⟩ (by simp) ⟨rfl, rfl, rfl, trivial⟩ (fun w hw => hw)
              · show rdU l e = if (3 : Int) = 0 then _ else (0, [], 3)
                rw [if_neg (by decide)]; exact hru
          · skip
            have h92 := h4
            refine RL.skip rfl rfl rfl ?_
            refine RL.skip rfl rfl rfl ?_
            refine RL.skip rfl rfl rfl ?_
            refine RL.skip rfl rfl rfl ?_
            refine RL.skip rfl rfl rfl ?_
            refine RL.pickF rfl rfl rfl rfl ?_
            refine RL.nil ?_
            refine NX.seq ?_
            refine TR.condF rfl ?_
            refine TR.skip ?_
            refine NX.off ?_
            refine NX.seq ?_
            refine TR.region ?_
            refine RL.move rfl rfl rfl ?_
            refine RL.bin rfl rfl rfl (BinV.add _ rfl (by omega) (by omega)) rfl ?_
            refine RL.assign rfl rfl rfl ?_
            refine RL.nil ?_
            refine NX.roundP ⟨x.i + 1, (x.n ||| (0 % 128 * 2 ^ (7 * x.i) % 18446744073709551616)), [], x.oa, x.c, 3⟩ ⟨Nat.zero_le _, ?_, fun h => absurd (show (3 : Int) = 0 from h) (by decide)⟩ (by simp) ⟨rfl, rfl, rfl, trivial⟩ (fun w hw => hw)
            · show rdU l e = if (3 : Int) = 0 then _ else (0, [], 3)
              rw [if_neg (by decide)]; exact hru
        · skip
          have h66 := of_decide_eq_false h3
          refine RL.move rfl rfl rfl ?_
          refine RL.bin rfl rfl rfl BinV.gtr rfl ?_
          refine RL.move rfl rfl rfl ?_
          refine RL.part (fun h6 => ?_) (fun h6 => ?_)
          · skip
            have h69 := of_decide_eq_true h6
            refine RL.move rfl rfl rfl ?_
            refine RL.bin rfl rfl rfl BinV.eql rfl ?_
            refine RL.pickT rfl rfl rfl rfl ?_
            refine RL.pickF rfl rfl rfl rfl ?_
            refine RL.nil ?_
            refine NX.seq ?_
            refine TR.cond rfl (fun h7 => ?_) (fun h7 => ?_)
            · skip
              have h28 := of_decide_eq_true h7
              refine TR.region ?_
              refine RL.move rfl rfl rfl ?_
              refine RL.call rfl rfl Tryz.call56 rfl (fail_spec) (fun _ => ?_)
              refine RL.nil ?_
              refine NX.seq ?_
              refine TR.seq ?_
              refine TR.region ?_
              refine RL.move rfl rfl rfl ?_
              refine RL.move rfl rfl rfl ?_
              refine RL.bin rfl rfl rfl (BinV.clear7 (a := 0) (by omega)) rfl ?_
              refine RL.conv rfl rfl (ConvV.bu wc_ti5 wc_ti64 (by omega)) rfl ?_
              refine RL.move rfl rfl rfl ?_
              refine RL.bin rfl rfl rfl (BinV.mul ((7 * x.i : Nat) : Int) (by omega) (by omega) (by omega)) rfl ?_
              refine RL.bin rfl rfl rfl (BinV.shlU (s := 7 * x.i) (by omega)) rfl ?_
              refine RL.bin rfl rfl rfl (BinV.orU (Nat.lt_of_lt_of_le hin.2 (Nat.pow_le_pow_right (by omega) (show 7 * x.i ≤ 64 by omega))) (Nat.mod_lt _ (by omega))) rfl ?_
              refine RL.assign rfl rfl rfl ?_
              refine RL.nil ?_
              refine NX.seq ?_
              refine TR.seq ?_
              refine TR.region ?_
              refine RL.move rfl rfl rfl ?_
              refine RL.bin rfl rfl rfl BinV.lss rfl ?_
              refine RL.move rfl rfl rfl ?_
              refine RL.part (fun h8 => ?_) (fun h8 => ?_)
              · skip
                have h92 := h8
                refine RL.move rfl rfl rfl ?_
                refine RL.nilCheck rfl rfl rfl ?_
                refine RL.fieldAddr rfl wc_tf78_1 rfl rfl ?_
                refine RL.load1 0 rfl wc_ts24 rfl rfl rfl rfl ?_
                refine RL.bin rfl rfl rfl BinV.eql rfl ?_
                refine RL.pickT rfl rfl rfl rfl ?_
                refine RL.nil ?_
                refine NX.seq ?_
                refine TR.cond rfl (fun h9 => ?_) (fun h9 => ?_)
                · skip
                  exact absurd (of_decide_eq_true h9) (by decide)
                · skip
                  refine TR.skip ?_
                  refine NX.off ?_
                  refine NX.seq ?_
                  refine TR.region ?_
                  refine RL.move rfl rfl rfl ?_
                  refine RL.bin rfl rfl rfl (BinV.add _ rfl (by omega) (by omega)) rfl ?_
                  refine RL.assign rfl rfl rfl ?_
                  refine RL.nil ?_
                  refine NX.roundP ⟨x.i + 1, (x.n ||| (0 % 128 * 2 ^ (7 * x.i) % 18446744073709551616)), [], x.oa, x.c, 3⟩ ⟨Nat.zero_le _, ?_, fun h => absurd (show (3 : Int) = 0 from h) (by decide)⟩ (by simp) ⟨rfl, rfl, rfl, trivial⟩ (fun w hw => hw)
                  · show rdU l e = if (3 : Int) = 0 then _ else (0, [], 3)
                    rw [if_neg (by decide)]; exact hru
              · skip
                have h92 := h8
                refine RL.skip rfl rfl rfl ?_
                refine RL.skip rfl rfl rfl ?_
                refine RL.skip rfl rfl rfl ?_
                refine RL.skip rfl rfl rfl ?_
                refine RL.skip rfl rfl rfl ?_
                refine RL.pickF rfl rfl rfl rfl ?_
                refine RL.nil ?_
                refine NX.seq ?_
                refine TR.condF rfl ?_
                refine TR.skip ?_
                refine NX.off ?_
                refine NX.seq ?_
                refine TR.region ?_
                refine RL.move rfl rfl rfl ?_
                refine RL.bin rfl rfl rfl (BinV.add _ rfl (by omega) (by omega)) rfl ?_
                refine RL.assign rfl rfl rfl ?_
                refine RL.nil ?_
                refine NX.roundP ⟨x.i + 1, (x.n ||| (0 % 128 * 2 ^ (7 * x.i) % 18446744073709551616)), [], x.oa, x.c, 3⟩ ⟨Nat.zero_le _, ?_, fun h => absurd (show (3 : Int) = 0 from h) (by decide)⟩ (by simp) ⟨rfl, rfl, rfl, trivial⟩ (fun w hw => hw)
                · show rdU l e = if (3 : Int) = 0 then _ else (0, [], 3)
                  rw [if_neg (by decide)]; exact hru
            · skip
              have h28 := of_decide_eq_false h7
              refine TR.skip ?_
              refine NX.seq ?_
              refine TR.seq ?_
              refine TR.region ?_
              refine RL.move rfl rfl rfl ?_
              refine RL.move rfl rfl rfl ?_
              refine RL.bin rfl rfl rfl (BinV.clear7 (a := 0) (by omega)) rfl ?_
              refine RL.conv rfl rfl (ConvV.bu wc_ti5 wc_ti64 (by omega)) rfl ?_
              refine RL.move rfl rfl rfl ?_
              refine RL.bin rfl rfl rfl (BinV.mul ((7 * x.i : Nat) : Int) (by omega) (by omega) (by omega)) rfl ?_
              refine RL.bin rfl rfl rfl (BinV.shlU (s := 7 * x.i) (by omega)) rfl ?_
              refine RL.bin rfl rfl rfl (BinV.orU (Nat.lt_of_lt_of_le hin.2 (Nat.pow_le_pow_right (by omega) (show 7 * x.i ≤ 64 by omega))) (Nat.mod_lt _ (by omega))) rfl ?_
              refine RL.assign rfl rfl rfl ?_
              refine RL.nil ?_
              refine NX.seq ?_
              refine TR.seq ?_
              refine TR.region ?_
              refine RL.move rfl rfl rfl ?_
              refine RL.bin rfl rfl rfl BinV.lss rfl ?_
              refine RL.move rfl rfl rfl ?_
              refine RL.part (fun h10 => ?_) (fun h10 => ?_)
              · skip
                have h92 := h10
                refine RL.move rfl rfl rfl ?_
                refine RL.nilCheck rfl rfl rfl ?_
                refine RL.fieldAddr rfl wc_tf78_1 rfl rfl ?_
                refine RL.load1 0 rfl wc_ts24 rfl rfl rfl rfl ?_
                refine RL.bin rfl rfl rfl BinV.eql rfl ?_
                refine RL.pickT rfl rfl rfl rfl ?_
                refine RL.nil ?_
                refine NX.seq ?_
                refine TR.cond rfl (fun h11 => ?_) (fun h11 => ?_)
                · skip
                  exact absurd (of_decide_eq_true h11) (by decide)
                · skip
                  refine TR.skip ?_
                  refine NX.off ?_
                  refine NX.seq ?_
                  refine TR.region ?_
                  refine RL.move rfl rfl rfl ?_
                  refine RL.bin rfl rfl rfl (BinV.add _ rfl (by omega) (by omega)) rfl ?_
                  refine RL.assign rfl rfl rfl ?_
                  refine RL.nil ?_
                  refine NX.roundP ⟨x.i + 1, (x.n ||| (0 % 128 * 2 ^ (7 * x.i) % 18446744073709551616)), [], x.oa, x.c, 3⟩ ⟨Nat.zero_le _, ?_, fun h => absurd (show (3 : Int) = 0 from h) (by decide)⟩ (by simp) ⟨rfl, rfl, rfl, trivial⟩ (fun w hw => hw)
                  · show rdU l e = if (3 : Int) = 0 then _ else (0, [], 3)
                    rw [if_neg (by decide)]; exact hru
              · skip
                have h92 := h10
                refine RL.skip rfl rfl rfl ?_
                refine RL.skip rfl rfl rfl ?_
                refine RL.skip rfl rfl rfl ?_
                refine RL.skip rfl rfl rfl ?_
                refine RL.skip rfl rfl rfl ?_
                refine RL.pickF rfl rfl rfl rfl ?_
                refine RL.nil ?_
                refine NX.seq ?_
                refine TR.condF rfl ?_
                refine TR.skip ?_
                refine NX.off ?_
                refine NX.seq ?_
                refine TR.region ?_
                refine RL.move rfl rfl rfl ?_
                refine RL.bin rfl rfl rfl (BinV.add _ rfl (by omega) (by omega)) rfl ?_
                refine RL.assign rfl rfl rfl ?_
                refine RL.nil ?_
                refine NX.roundP ⟨x.i + 1, (x.n ||| (0 % 128 * 2 ^ (7 * x.i) % 18446744073709551616)), [], x.oa, x.c, 3⟩ ⟨Nat.zero_le _, ?_, fun h => absurd (show (3 : Int) = 0 from h) (by decide)⟩ (by simp) ⟨rfl, rfl, rfl, trivial⟩ (fun w hw => hw)
                · show rdU l e = if (3 : Int) = 0 then _ else (0, [], 3)
                  rw [if_neg (by decide)]; exact hru
          · skip
            have h69 := of_decide_eq_false h6
            refine RL.skip rfl rfl rfl ?_
            refine RL.skip rfl rfl rfl ?_
            refine RL.pickF rfl rfl rfl rfl ?_
            refine RL.pickF rfl rfl rfl rfl ?_
            refine RL.nil ?_
            refine NX.seq ?_
            refine TR.condF rfl ?_
            refine TR.skip ?_
            refine NX.seq ?_
            refine TR.seq ?_
            refine TR.region ?_
            refine RL.move rfl rfl rfl ?_
            refine RL.move rfl rfl rfl ?_
            refine RL.bin rfl rfl rfl (BinV.clear7 (a := 0) (by omega)) rfl ?_
            refine RL.conv rfl rfl (ConvV.bu wc_ti5 wc_ti64 (by omega)) rfl ?_
            refine RL.move rfl rfl rfl ?_
            refine RL.bin rfl rfl rfl (BinV.mul ((7 * x.i : Nat) : Int) (by omega) (by omega) (by omega)) rfl ?_
            refine RL.bin rfl rfl rfl (BinV.shlU (s := 7 * x.i) (by omega)) rfl ?_
            refine RL.bin rfl rfl rfl (BinV.orU (Nat.lt_of_lt_of_le hin.2 (Nat.pow_le_pow_right (by omega) (show 7 * x.i ≤ 64 by omega))) (Nat.mod_lt _ (by omega))) rfl ?_
            refine RL.assign rfl rfl rfl ?_
            refine RL.nil ?_
            refine NX.seq ?_
            refine TR.seq ?_
            refine TR.region ?_
            refine RL.move rfl rfl rfl ?_
            refine RL.bin rfl rfl rfl BinV.lss rfl ?_
            refine RL.move rfl rfl rfl ?_
            refine RL.part (fun h12 => ?_) (fun h12 => ?_)
            · skip
              have h92 := h12
              refine RL.move rfl rfl rfl ?_
              refine RL.nilCheck rfl rfl rfl ?_
              refine RL.fieldAddr rfl wc_tf78_1 rfl rfl ?_
              refine RL.load1 0 rfl wc_ts24 rfl rfl rfl rfl ?_
              refine RL.bin rfl rfl rfl BinV.eql rfl ?_
              refine RL.pickT rfl rfl rfl rfl ?_
              refine RL.nil ?_
              refine NX.seq ?_
              refine TR.cond rfl (fun h13 => ?_) (fun h13 => ?_)
              · skip
                exact absurd (of_decide_eq_true h13) (by decide)
              · skip
                refine TR.skip ?_
                refine NX.off ?_
                refine NX.seq ?_
                refine TR.region ?_
                refine RL.move rfl rfl rfl ?_
                refine RL.bin rfl rfl rfl (BinV.add _ rfl (by omega) (by omega)) rfl ?_
                refine RL.assign rfl rfl rfl ?_
                refine RL.nil ?_
                refine NX.roundP ⟨x.i + 1, (x.n ||| (0 % 128 * 2 ^ (7 * x.i) % 18446744073709551616)), [], x.oa, x.c, 3⟩ ⟨Nat.zero_le _, ?_, fun h => absurd (show (3 : Int) = 0 from h) (by decide)⟩ (by simp) ⟨rfl, rfl, rfl, trivial⟩ (fun w hw => hw)
                · show rdU l e = if (3 : Int) = 0 then _ else (0, [], 3)
                  rw [if_neg (by decide)]; exact hru
            · skip
              have h92 := h12
              refine RL.skip rfl rfl rfl ?_
              refine RL.skip rfl rfl rfl ?_
              refine RL.skip rfl rfl rfl ?_
              refine RL.skip rfl rfl rfl ?_
              refine RL.skip rfl rfl rfl ?_
              refine RL.pickF rfl rfl rfl rfl ?_
              refine RL.nil ?_
              refine NX.seq ?_
              refine TR.condF rfl ?_
              refine TR.skip ?_
              refine NX.off ?_
              refine NX.seq ?_
              refine TR.region ?_
              refine RL.move rfl rfl rfl ?_
              refine RL.bin rfl rfl rfl (BinV.add _ rfl (by omega) (by omega)) rfl ?_
              refine RL.assign rfl rfl rfl ?_
              refine RL.nil ?_
              refine NX.roundP ⟨x.i + 1, (x.n ||| (0 % 128 * 2 ^ (7 * x.i) % 18446744073709551616)), [], x.oa, x.c, 3⟩ ⟨Nat.zero_le _, ?_, fun h => absurd (show (3 : Int) = 0 from h) (by decide)⟩ (by simp) ⟨rfl, rfl, rfl, trivial⟩ (fun w hw => hw)
              · show rdU l e = if (3 : Int) = 0 then _ else (0, [], 3)
                rw [if_neg (by decide)]; exact hru
      · skip
        have h62 : ¬ (x.i : Int) = 9 := of_decide_eq_false h2
        refine RL.skip rfl rfl rfl ?_
        refine RL.skip rfl rfl rfl ?_
        refine RL.pickF rfl rfl rfl rfl ?_
        refine RL.move rfl rfl rfl ?_
        refine RL.move rfl rfl rfl ?_
        refine RL.bin rfl rfl rfl BinV.gtr rfl ?_
        refine RL.move rfl rfl rfl ?_
        refine RL.part (fun h14 => ?_) (fun h14 => ?_)
        · skip
          have h69 := of_decide_eq_true h14
          refine RL.move rfl rfl rfl ?_
          refine RL.bin rfl rfl rfl BinV.eql rfl ?_
          refine RL.pickT rfl rfl rfl rfl ?_
          refine RL.pickF rfl rfl rfl rfl ?_
          refine RL.nil ?_
          refine NX.seq ?_
          refine TR.cond rfl (fun h15 => ?_) (fun h15 => ?_)
          · skip
            have h28 := of_decide_eq_true h15
            refine TR.region ?_
            refine RL.move rfl rfl rfl ?_
            refine RL.call rfl rfl Tryz.call56 rfl (fail_spec) (fun _ => ?_)
            refine RL.nil ?_
            refine NX.seq ?_
            refine TR.seq ?_
            refine TR.region ?_
            refine RL.move rfl rfl rfl ?_
            refine RL.move rfl rfl rfl ?_
            refine RL.bin rfl rfl rfl (BinV.clear7 (a := 0) (by omega)) rfl ?_
            refine RL.conv rfl rfl (ConvV.bu wc_ti5 wc_ti64 (by omega)) rfl ?_
            refine RL.move rfl rfl rfl ?_
            refine RL.bin rfl rfl rfl (BinV.mul ((7 * x.i : Nat) : Int) (by omega) (by omega) (by omega)) rfl ?_
            refine RL.bin rfl rfl rfl (BinV.shlU (s := 7 * x.i) (by omega)) rfl ?_
            refine RL.bin rfl rfl rfl (BinV.orU (Nat.lt_of_lt_of_le hin.2 (Nat.pow_le_pow_right (by omega) (show 7 * x.i ≤ 64 by omega))) (Nat.mod_lt _ (by omega))) rfl ?_
            refine RL.assign rfl rfl rfl ?_
            refine RL.nil ?_
            refine NX.seq ?_
            refine TR.seq ?_
            refine TR.region ?_
            refine RL.move rfl rfl rfl ?_
            refine RL.bin rfl rfl rfl BinV.lss rfl ?_
            refine RL.move rfl rfl rfl ?_
            refine RL.part (fun h16 => ?_) (fun h16 => ?_)
            · skip
              have h92 := h16
              refine RL.move rfl rfl rfl ?_
              refine RL.nilCheck rfl rfl rfl ?_
              refine RL.fieldAddr rfl wc_tf78_1 rfl rfl ?_
              refine RL.load1 0 rfl wc_ts24 rfl rfl rfl rfl ?_
              refine RL.bin rfl rfl rfl BinV.eql rfl ?_
              refine RL.pickT rfl rfl rfl rfl ?_
              refine RL.nil ?_
              refine NX.seq ?_
              refine TR.cond rfl (fun h17 => ?_) (fun h17 => ?_)
              · skip
                exact absurd (of_decide_eq_true h17) (by decide)
              · skip
                refine TR.skip ?_
                refine NX.off ?_
                refine NX.seq ?_
                refine TR.region ?_
                refine RL.move rfl rfl rfl ?_
                refine RL.bin rfl rfl rfl (BinV.add _ rfl (by omega) (by omega)) rfl ?_
                refine RL.assign rfl rfl rfl ?_
                refine RL.nil ?_
                refine NX.roundP ⟨x.i + 1, (x.n ||| (0 % 128 * 2 ^ (7 * x.i) % 18446744073709551616)), [], x.oa, x.c, 3⟩ ⟨Nat.zero_le _, ?_, fun h => absurd (show (3 : Int) = 0 from h) (by decide)⟩ (by simp) ⟨rfl, rfl, rfl, trivial⟩ (fun w hw => hw)
                · show rdU l e = if (3 : Int) = 0 then _ else (0, [], 3)
                  rw [if_neg (by decide)]; exact hru
            · skip
              have h92 := h16
              refine RL.skip rfl rfl rfl ?_
              refine RL.skip rfl rfl rfl ?_
              refine RL.skip rfl rfl rfl ?_
              refine RL.skip rfl rfl rfl ?_
              refine RL.skip rfl rfl rfl ?_
              refine RL.pickF rfl rfl rfl rfl ?_
              refine RL.nil ?_
              refine NX.seq ?_
              refine TR.condF rfl ?_
              refine TR.skip ?_
              refine NX.off ?_
              refine NX.seq ?_
              refine TR.region ?_
              refine RL.move rfl rfl rfl ?_
              refine RL.bin rfl rfl rfl (BinV.add _ rfl (by omega) (by omega)) rfl ?_
              refine RL.assign rfl rfl rfl ?_
              refine RL.nil ?_
              refine NX.roundP ⟨x.i + 1, (x.n ||| (0 % 128 * 2 ^ (7 * x.i) % 18446744073709551616)), [], x.oa, x.c, 3⟩ ⟨Nat.zero_le _, ?_, fun h => absurd (show (3 : Int) = 0 from h) (by decide)⟩ (by simp) ⟨rfl, rfl, rfl, trivial⟩ (fun w hw => hw)
              · show rdU l e = if (3 : Int) = 0 then _ else (0, [], 3)
                rw [if_neg (by decide)]; exact hru
          · skip
            have h28 := of_decide_eq_false h15
            refine TR.skip ?_
            refine NX.seq ?_
            refine TR.seq ?_
            refine TR.region ?_
            refine RL.move rfl rfl rfl ?_
            refine RL.move rfl rfl rfl ?_
            refine RL.bin rfl rfl rfl (BinV.clear7 (a := 0) (by omega)) rfl ?_
            refine RL.conv rfl rfl (ConvV.bu wc_ti5 wc_ti64 (by omega)) rfl ?_
            refine RL.move rfl rfl rfl ?_
            refine RL.bin rfl rfl rfl (BinV.mul ((7 * x.i : Nat) : Int) (by omega) (by omega) (by omega)) rfl ?_
            refine RL.bin rfl rfl rfl (BinV.shlU (s := 7 * x.i) (by omega)) rfl ?_
            refine RL.bin rfl rfl rfl (BinV.orU (Nat.lt_of_lt_of_le hin.2 (Nat.pow_le_pow_right (by omega) (show 7 * x.i ≤ 64 by omega))) (Nat.mod_lt _ (by omega))) rfl ?_
            refine RL.assign rfl rfl rfl ?_
            refine RL.nil ?_
            refine NX.seq ?_
            refine TR.seq ?_
            refine TR.region ?_
            refine RL.move rfl rfl rfl ?_
            refine RL.bin rfl rfl rfl BinV.lss rfl ?_
            refine RL.move rfl rfl rfl ?_
            refine RL.part (fun h18 => ?_) (fun h18 => ?_)
            · skip
              have h92 := h18
              refine RL.move rfl rfl rfl ?_
              refine RL.nilCheck rfl rfl rfl ?_
              refine RL.fieldAddr rfl wc_tf78_1 rfl rfl ?_
              refine RL.load1 0 rfl wc_ts24 rfl rfl rfl rfl ?_
              refine RL.bin rfl rfl rfl BinV.eql rfl ?_
              refine RL.pickT rfl rfl rfl rfl ?_
              refine RL.nil ?_
              refine NX.seq ?_
              refine TR.cond rfl (fun h19 => ?_) (fun h19 => ?_)
              · skip
                exact absurd (of_decide_eq_true h19) (by decide)
              · skip
                refine TR.skip ?_
                refine NX.off ?_
                refine NX.seq ?_
                refine TR.region ?_
                refine RL.move rfl rfl rfl ?_
                refine RL.bin rfl rfl rfl (BinV.add _ rfl (by omega) (by omega)) rfl ?_
                refine RL.assign rfl rfl rfl ?_
                refine RL.nil ?_
                refine NX.roundP ⟨x.i + 1, (x.n ||| (0 % 128 * 2 ^ (7 * x.i) % 18446744073709551616)), [], x.oa, x.c, 3⟩ ⟨Nat.zero_le _, ?_, fun h => absurd (show (3 : Int) = 0 from h) (by decide)⟩ (by simp) ⟨rfl, rfl, rfl, trivial⟩ (fun w hw => hw)
                · show rdU l e = if (3 : Int) = 0 then _ else (0, [], 3)
                  rw [if_neg (by decide)]; exact hru
            · skip
              have h92 := h18
              refine RL.skip rfl rfl rfl ?_
              refine RL.skip rfl rfl rfl ?_
              refine RL.skip rfl rfl rfl ?_
              refine RL.skip rfl rfl rfl ?_
              refine RL.skip rfl rfl rfl ?_
              refine RL.pickF rfl rfl rfl rfl ?_
              refine RL.nil ?_
              refine NX.seq ?_
              refine TR.condF rfl ?_
              refine TR.skip ?_
              refine NX.off ?_
              refine NX.seq ?_
              refine TR.region ?_
              refine RL.move rfl rfl rfl ?_
              refine RL.bin rfl rfl rfl (BinV.add _ rfl (by omega) (by omega)) rfl ?_
              refine RL.assign rfl rfl rfl ?_
              refine RL.nil ?_
              refine NX.roundP ⟨x.i + 1, (x.n ||| (0 % 128 * 2 ^ (7 * x.i) % 18446744073709551616)), [], x.oa, x.c, 3⟩ ⟨Nat.zero_le _, ?_, fun h => absurd (show (3 : Int) = 0 from h) (by decide)⟩ (by simp) ⟨rfl, rfl, rfl, trivial⟩ (fun w hw => hw)
              · show rdU l e = if (3 : Int) = 0 then _ else (0, [], 3)
                rw [if_neg (by decide)]; exact hru
        · skip
          have h69 := of_decide_eq_false h14
          refine RL.skip rfl rfl rfl ?_
          refine RL.skip rfl rfl rfl ?_
          refine RL.pickF rfl rfl rfl rfl ?_
          refine RL.pickF rfl rfl rfl rfl ?_
          refine RL.nil ?_
          refine NX.seq ?_
          refine TR.condF rfl ?_
          refine TR.skip ?_
          refine NX.seq ?_
          refine TR.seq ?_
          refine TR.region ?_
          refine RL.move rfl rfl rfl ?_
          refine RL.move rfl rfl rfl ?_
          refine RL.bin rfl rfl rfl (BinV.clear7 (a := 0) (by omega)) rfl ?_
          refine RL.conv rfl rfl (ConvV.bu wc_ti5 wc_ti64 (by omega)) rfl ?_
          refine RL.move rfl rfl rfl ?_
          refine RL.bin rfl rfl rfl (BinV.mul ((7 * x.i : Nat) : Int) (by omega) (by omega) (by omega)) rfl ?_
          refine RL.bin rfl rfl rfl (BinV.shlU (s := 7 * x.i) (by omega)) rfl ?_
          refine RL.bin rfl rfl rfl (BinV.orU (Nat.lt_of_lt_of_le hin.2 (Nat.pow_le_pow_right (by omega) (show 7 * x.i ≤ 64 by omega))) (Nat.mod_lt _ (by omega))) rfl ?_
          refine RL.assign rfl rfl rfl ?_
          refine RL.nil ?_
          refine NX.seq ?_
          refine TR.seq ?_
          refine TR.region ?_
          refine RL.move rfl rfl rfl ?_
          refine RL.bin rfl rfl rfl BinV.lss rfl ?_
          refine RL.move rfl rfl rfl ?_
          refine RL.part (fun h20 => ?_) (fun h20 => ?_)
          · skip
            have h92 := h20
            refine RL.move rfl rfl rfl ?_
            refine RL.nilCheck rfl rfl rfl ?_
            refine RL.fieldAddr rfl wc_tf78_1 rfl rfl ?_
            refine RL.load1 0 rfl wc_ts24 rfl rfl rfl rfl ?_
            refine RL.bin rfl rfl rfl BinV.eql rfl ?_
            refine RL.pickT rfl rfl rfl rfl ?_
            refine RL.nil ?_
            refine NX.seq ?_
            refine TR.cond rfl (fun h21 => ?_) (fun h21 => ?_)
            · skip
              exact absurd (of_decide_eq_true h21) (by decide)
            · skip
              refine TR.skip ?_
              refine NX.off ?_
              refine NX.seq ?_
              refine TR.region ?_
              refine RL.move rfl rfl rfl ?_
              refine RL.bin rfl rfl rfl (BinV.add _ rfl (by omega) (by omega)) rfl ?_
              refine RL.assign rfl rfl rfl ?_
              refine RL.nil ?_
              refine NX.roundP ⟨x.i + 1, (x.n ||| (0 % 128 * 2 ^ (7 * x.i) % 18446744073709551616)), [], x.oa, x.c, 3⟩ ⟨Nat.zero_le _, ?_, fun h => absurd (show (3 : Int) = 0 from h) (by decide)⟩ (by simp) ⟨rfl, rfl, rfl, trivial⟩ (fun w hw => hw)
              · show rdU l e = if (3 : Int) = 0 then _ else (0, [], 3)
                rw [if_neg (by decide)]; exact hru
          · skip
            have h92 := h20
            refine RL.skip rfl rfl rfl ?_
            refine RL.skip rfl rfl rfl ?_
            refine RL.skip rfl rfl rfl ?_
            refine RL.skip rfl rfl rfl ?_
            refine RL.skip rfl rfl rfl ?_
            refine RL.pickF rfl rfl rfl rfl ?_
            refine RL.nil ?_
            refine NX.seq ?_
            refine TR.condF rfl ?_
            refine TR.skip ?_
            refine NX.off ?_
            refine NX.seq ?_
            refine TR.region ?_
            refine RL.move rfl rfl rfl ?_
            refine RL.bin rfl rfl rfl (BinV.add _ rfl (by omega) (by omega)) rfl ?_
            refine RL.assign rfl rfl rfl ?_
            refine RL.nil ?_
            refine NX.roundP ⟨x.i + 1, (x.n ||| (0 % 128 * 2 ^ (7 * x.i) % 18446744073709551616)), [], x.oa, x.c, 3⟩ ⟨Nat.zero_le _, ?_, fun h => absurd (show (3 : Int) = 0 from h) (by decide)⟩ (by simp) ⟨rfl, rfl, rfl, trivial⟩ (fun w hw => hw)
            · show rdU l e = if (3 : Int) = 0 then _ else (0, [], 3)
              rw [if_neg (by decide)]; exact hru
    · skip
      refine RL.move rfl rfl rfl ?_
      rw [hxl] at hru hx1
      rw [hxe]
      have hcl : (cc :: l2).length ≤ x.c := hx1
      have hcb := cc.toNat_lt
      refine RL.call rfl rfl Tryz.call55 rfl (nextC_spec (x := cc) (l := l2) (.head _) hcl) (fun y => ?_)
      refine RL.assign rfl rfl rfl ?_
      refine RL.nil ?_
      refine NX.seq ?_
      refine TR.seq ?_
      refine TR.seq ?_
      refine TR.region ?_
      refine RL.move rfl rfl rfl ?_
      refine RL.bin rfl rfl rfl BinV.eql rfl ?_
      refine RL.move rfl rfl rfl ?_
      refine RL.part (fun h22 => ?_) (fun h22 => ?_)
      · skip
        have h62 : (x.i : Int) = 9 := of_decide_eq_true h22
        refine RL.move rfl rfl rfl ?_
        refine RL.bin rfl rfl rfl BinV.gtr rfl ?_
        refine RL.pickT rfl rfl rfl rfl ?_
        refine RL.move rfl rfl rfl ?_
        refine RL.part (fun h23 => ?_) (fun h23 => ?_)
        · skip
          have h66 := of_decide_eq_true h23
          refine RL.skip rfl rfl rfl ?_
          refine RL.skip rfl rfl rfl ?_
          refine RL.skip rfl rfl rfl ?_
          refine RL.skip rfl rfl rfl ?_
          refine RL.skip rfl rfl rfl ?_
          refine RL.skip rfl rfl rfl ?_
          refine RL.pickT rfl rfl rfl rfl ?_
          refine RL.nil ?_
          refine NX.seq ?_
          refine TR.condT rfl ?_
          refine TR.region ?_
          refine RL.move rfl rfl rfl ?_
          refine RL.call rfl rfl Tryz.call56 rfl (fail_spec) (fun _ => ?_)
          refine RL.nil ?_
          refine NX.seq ?_
          refine TR.seq ?_
          refine TR.region ?_
          refine RL.move rfl rfl rfl ?_
          refine RL.move rfl rfl rfl ?_
          refine RL.bin rfl rfl rfl (BinV.clear7 (a := cc.toNat) (by have := cc.toNat_lt; omega)) rfl ?_
          refine RL.conv rfl rfl (ConvV.bu wc_ti5 wc_ti64 (by omega)) rfl ?_
          refine RL.move rfl rfl rfl ?_
          refine RL.bin rfl rfl rfl (BinV.mul ((7 * x.i : Nat) : Int) (by omega) (by omega) (by omega)) rfl ?_
          refine RL.bin rfl rfl rfl (BinV.shlU (s := 7 * x.i) (by omega)) rfl ?_
          refine RL.bin rfl rfl rfl (BinV.orU (Nat.lt_of_lt_of_le hin.2 (Nat.pow_le_pow_right (by omega) (show 7 * x.i ≤ 64 by omega))) (Nat.mod_lt _ (by omega))) rfl ?_
          refine RL.assign rfl rfl rfl ?_
          refine RL.nil ?_
          refine NX.seq ?_
          refine TR.seq ?_
          refine TR.region ?_
          refine RL.move rfl rfl rfl ?_
          refine RL.bin rfl rfl rfl BinV.lss rfl ?_
          refine RL.move rfl rfl rfl ?_
          refine RL.part (fun h24 => ?_) (fun h24 => ?_)
          · skip
            have h92 := h24
            refine RL.move rfl rfl rfl ?_
            refine RL.nilCheck rfl rfl rfl ?_
            refine RL.fieldAddr rfl wc_tf78_1 rfl rfl ?_
            refine RL.load1 0 rfl wc_ts24 rfl rfl rfl rfl ?_
            refine RL.bin rfl rfl rfl BinV.eql rfl ?_
            refine RL.pickT rfl rfl rfl rfl ?_
            refine RL.nil ?_
            refine NX.seq ?_
            refine TR.cond rfl (fun h25 => ?_) (fun h25 => ?_)
            · skip
              exact absurd (of_decide_eq_true h25) (by decide)
            · skip
              refine TR.skip ?_
              refine NX.off ?_
              refine NX.seq ?_
              refine TR.region ?_
              refine RL.move rfl rfl rfl ?_
              refine RL.bin rfl rfl rfl (BinV.add _ rfl (by omega) (by omega)) rfl ?_
              refine RL.assign rfl rfl rfl ?_
              refine RL.nil ?_
              have hb : badU x.i cc := by unfold badU; omega
              refine NX.roundP ⟨x.i + 1, (x.n ||| (cc.toNat % 128 * 2 ^ (7 * x.i) % 18446744073709551616)), l2, y.1.oa, y.1.c, 2⟩ ⟨y.2, ?_, fun h => absurd (show (2 : Int) = 0 from h) (by decide)⟩ (by simp) ⟨rfl, rfl, rfl, trivial⟩ (fun w hw => hw.facts (fun φ h => by
                rcases List.mem_cons.1 h with e | h
                · subst e; exact .head _
                · exact .tail _ (.tail _ h)))
              · show rdU l e = if (2 : Int) = 0 then _ else (0, l2, 2)
                rw [if_neg (by decide), hru, decU_bad hb]
          · skip
            have h92 := h24
            refine RL.skip rfl rfl rfl ?_
            refine RL.skip rfl rfl rfl ?_
            refine RL.skip rfl rfl rfl ?_
            refine RL.skip rfl rfl rfl ?_
            refine RL.skip rfl rfl rfl ?_
            refine RL.pickF rfl rfl rfl rfl ?_
            refine RL.nil ?_
            refine NX.seq ?_
            refine TR.condF rfl ?_
            refine TR.skip ?_
            refine NX.off ?_
            refine NX.seq ?_
            refine TR.region ?_
            refine RL.move rfl rfl rfl ?_
            refine RL.bin rfl rfl rfl (BinV.add _ rfl (by omega) (by omega)) rfl ?_
            refine RL.assign rfl rfl rfl ?_
            refine RL.nil ?_
            have hb : badU x.i cc := by unfold badU; omega
            refine NX.roundP ⟨x.i + 1, (x.n ||| (cc.toNat % 128 * 2 ^ (7 * x.i) % 18446744073709551616)), l2, y.1.oa, y.1.c, 2⟩ ⟨y.2, ?_, fun h => absurd (show (2 : Int) = 0 from h) (by decide)⟩ (by simp) ⟨rfl, rfl, rfl, trivial⟩ (fun w hw => hw.facts (fun φ h => by
              rcases List.mem_cons.1 h with e | h
              · subst e; exact .head _
              · exact .tail _ (.tail _ h)))
            · show rdU l e = if (2 : Int) = 0 then _ else (0, l2, 2)
              rw [if_neg (by decide), hru, decU_bad hb]
        · skip
          have h66 := of_decide_eq_false h23
          refine RL.move rfl rfl rfl ?_
          refine RL.bin rfl rfl rfl BinV.gtr rfl ?_
          refine RL.move rfl rfl rfl ?_
          refine RL.part (fun h26 => ?_) (fun h26 => ?_)
          · skip
            have h69 := of_decide_eq_true h26
            refine RL.move rfl rfl rfl ?_
            refine RL.bin rfl rfl rfl BinV.eql rfl ?_
            refine RL.pickT rfl rfl rfl rfl ?_
            refine RL.pickF rfl rfl rfl rfl ?_
            refine RL.nil ?_
            refine NX.seq ?_
            refine TR.cond rfl (fun h27 => ?_) (fun h27 => ?_)
            · skip
              have h28 := of_decide_eq_true h27
              refine TR.region ?_
              refine RL.move rfl rfl rfl ?_
              refine RL.call rfl rfl Tryz.call56 rfl (fail_spec) (fun _ => ?_)
              refine RL.nil ?_
              refine NX.seq ?_
              refine TR.seq ?_
              refine TR.region ?_
              refine RL.move rfl rfl rfl ?_
              refine RL.move rfl rfl rfl ?_
              refine RL.bin rfl rfl rfl (BinV.clear7 (a := cc.toNat) (by have := cc.toNat_lt; omega)) rfl ?_
              refine RL.conv rfl rfl (ConvV.bu wc_ti5 wc_ti64 (by omega)) rfl ?_
              refine RL.move rfl rfl rfl ?_
              refine RL.bin rfl rfl rfl (BinV.mul ((7 * x.i : Nat) : Int) (by omega) (by omega) (by omega)) rfl ?_
              refine RL.bin rfl rfl rfl (BinV.shlU (s := 7 * x.i) (by omega)) rfl ?_
              refine RL.bin rfl rfl rfl (BinV.orU (Nat.lt_of_lt_of_le hin.2 (Nat.pow_le_pow_right (by omega) (show 7 * x.i ≤ 64 by omega))) (Nat.mod_lt _ (by omega))) rfl ?_
              refine RL.assign rfl rfl rfl ?_
              refine RL.nil ?_
              refine NX.seq ?_
              refine TR.seq ?_
              refine TR.region ?_
              refine RL.move rfl rfl rfl ?_
              refine RL.bin rfl rfl rfl BinV.lss rfl ?_
              refine RL.move rfl rfl rfl ?_
              refine RL.part (fun h28 => ?_) (fun h28 => ?_)
              · skip
                have h92 := h28
                refine RL.move rfl rfl rfl ?_
                refine RL.nilCheck rfl rfl rfl ?_
                refine RL.fieldAddr rfl wc_tf78_1 rfl rfl ?_
                refine RL.load1 0 rfl wc_ts24 rfl rfl rfl rfl ?_
                refine RL.bin rfl rfl rfl BinV.eql rfl ?_
                refine RL.pickT rfl rfl rfl rfl ?_
                refine RL.nil ?_
                refine NX.seq ?_
                refine TR.cond rfl (fun h29 => ?_) (fun h29 => ?_)
                · skip
                  exact absurd (of_decide_eq_true h29) (by decide)
                · skip
                  refine TR.skip ?_
                  refine NX.off ?_
                  refine NX.seq ?_
                  refine TR.region ?_
                  refine RL.move rfl rfl rfl ?_
                  refine RL.bin rfl rfl rfl (BinV.add _ rfl (by omega) (by omega)) rfl ?_
                  refine RL.assign rfl rfl rfl ?_
                  refine RL.nil ?_
                  have hb : badU x.i cc := by unfold badU; omega
                  refine NX.roundP ⟨x.i + 1, (x.n ||| (cc.toNat % 128 * 2 ^ (7 * x.i) % 18446744073709551616)), l2, y.1.oa, y.1.c, 2⟩ ⟨y.2, ?_, fun h => absurd (show (2 : Int) = 0 from h) (by decide)⟩ (by simp) ⟨rfl, rfl, rfl, trivial⟩ (fun w hw => hw.facts (fun φ h => by
                    rcases List.mem_cons.1 h with e | h
                    · subst e; exact .head _
                    · exact .tail _ (.tail _ h)))
                  · show rdU l e = if (2 : Int) = 0 then _ else (0, l2, 2)
                    rw [if_neg (by decide), hru, decU_bad hb]
              · skip
                have h92 := h28
                refine RL.skip rfl rfl rfl ?_
                refine RL.skip rfl rfl rfl ?_
                refine RL.skip rfl rfl rfl ?_
                refine RL.skip rfl rfl rfl ?_
                refine RL.skip rfl rfl rfl ?_
                refine RL.pickF rfl rfl rfl rfl ?_
                refine RL.nil ?_
                refine NX.seq ?_
                refine TR.condF rfl ?_
                refine TR.skip ?_
                refine NX.off ?_
                refine NX.seq ?_
                refine TR.region ?_
                refine RL.move rfl rfl rfl ?_
                refine RL.bin rfl rfl rfl (BinV.add _ rfl (by omega) (by omega)) rfl ?_
                refine RL.assign rfl rfl rfl ?_
                refine RL.nil ?_
                have hb : badU x.i cc := by unfold badU; omega
                refine NX.roundP ⟨x.i + 1, (x.n ||| (cc.toNat % 128 * 2 ^ (7 * x.i) % 18446744073709551616)), l2, y.1.oa, y.1.c, 2⟩ ⟨y.2, ?_, fun h => absurd (show (2 : Int) = 0 from h) (by decide)⟩ (by simp) ⟨rfl, rfl, rfl, trivial⟩ (fun w hw => hw.facts (fun φ h => by
                  rcases List.mem_cons.1 h with e | h
                  · subst e; exact .head _
                  · exact .tail _ (.tail _ h)))
                · show rdU l e = if (2 : Int) = 0 then _ else (0, l2, 2)
                  rw [if_neg (by decide), hru, decU_bad hb]
            · skip
              have h28 := of_decide_eq_false h27
              refine TR.skip ?_
              refine NX.seq ?_
              refine TR.seq ?_
              refine TR.region ?_
              refine RL.move rfl rfl rfl ?_
              refine RL.move rfl rfl rfl ?_
              refine RL.bin rfl rfl rfl (BinV.clear7 (a := cc.toNat) (by have := cc.toNat_lt; omega)) rfl ?_
              refine RL.conv rfl rfl (ConvV.bu wc_ti5 wc_ti64 (by omega)) rfl ?_
              refine RL.move rfl rfl rfl ?_
              refine RL.bin rfl rfl rfl (BinV.mul ((7 * x.i : Nat) : Int) (by omega) (by omega) (by omega)) rfl ?_
              refine RL.bin rfl rfl rfl (BinV.shlU (s := 7 * x.i) (by omega)) rfl ?_
              refine RL.bin rfl rfl rfl (BinV.orU (Nat.lt_of_lt_of_le hin.2 (Nat.pow_le_pow_right (by omega) (show 7 * x.i ≤ 64 by omega))) (Nat.mod_lt _ (by omega))) rfl ?_
              refine RL.assign rfl rfl rfl ?_
              refine RL.nil ?_
              refine NX.seq ?_
              refine TR.seq ?_
              refine TR.region ?_
              refine RL.move rfl rfl rfl ?_
              refine RL.bin rfl rfl rfl BinV.lss rfl ?_
              refine RL.move rfl rfl rfl ?_
              refine RL.part (fun h30 => ?_) (fun h30 => ?_)
              · skip
                have h92 := h30
                refine RL.move rfl rfl rfl ?_
                refine RL.nilCheck rfl rfl rfl ?_
                refine RL.fieldAddr rfl wc_tf78_1 rfl rfl ?_
                refine RL.load1 0 rfl wc_ts24 rfl rfl rfl rfl ?_
                refine RL.bin rfl rfl rfl BinV.eql rfl ?_
                refine RL.pickT rfl rfl rfl rfl ?_
                refine RL.nil ?_
                refine NX.seq ?_
                refine TR.cond rfl (fun h31 => ?_) (fun h31 => ?_)
                · skip
                  refine TR.seq ?_
                  refine TR.region ?_
                  refine RL.move rfl rfl rfl ?_
                  refine RL.assign rfl rfl rfl ?_
                  refine RL.nil ?_
                  refine NX.seq ?_
                  refine TR.ret ?_
                  refine NX.retBlock ?_
                  refine NX.retThen ?_
                  refine NX.retThen ?_
                  refine NX.retBlock ?_
                  refine NX.retThen ?_
                  have hb : ¬ badU x.i cc := by unfold badU; omega
                  have hc128 : cc.toNat < 128 := by have := of_decide_eq_true h92; omega
                  have hfit := byte_fits hb hin.1 hin.2
                  have hor : (x.n ||| (cc.toNat % 128 * 2 ^ (7 * x.i) % 18446744073709551616)) = x.n + cc.toNat % 128 * 2 ^ (7 * x.i) := or_add hin.2 (by omega)
                  have hrr : rdU l e = (x.n + cc.toNat % 128 * 2 ^ (7 * x.i), l2, 0) := by rw [hru, decU_last hb hc128]
                  rw [hor]
                  refine NX.ret1x rfl rfl (fun w hw => ?_)
                  refine ⟨⟨⟨y.1.oa, y.1.c⟩, by rw [hrr]; exact y.2⟩, by rw [hrr] <;> rfl, ?_⟩
                  show St w (Box b 78 [.slice y.1.oa (rdU l e).2.1.length y.1.c, I (rdU l e).2.2] :: M) (ArrF y.1.oa (bytesV (rdU l e).2.1) :: F)
                  rw [hrr]
                  exact hw.facts (fun φ h => by
                    rcases List.mem_cons.1 h with e | h
                    · subst e; exact .head _
                    · exact .tail _ (.tail _ h))
                · skip
                  exact absurd rfl (of_decide_eq_false h31)
              · skip
                have h92 := h30
                refine RL.skip rfl rfl rfl ?_
                refine RL.skip rfl rfl rfl ?_
                refine RL.skip rfl rfl rfl ?_
                refine RL.skip rfl rfl rfl ?_
                refine RL.skip rfl rfl rfl ?_
                refine RL.pickF rfl rfl rfl rfl ?_
                refine RL.nil ?_
                refine NX.seq ?_
                refine TR.condF rfl ?_
                refine TR.skip ?_
                refine NX.off ?_
                refine NX.seq ?_
                refine TR.region ?_
                refine RL.move rfl rfl rfl ?_
                refine RL.bin rfl rfl rfl (BinV.add _ rfl (by omega) (by omega)) rfl ?_
                refine RL.assign rfl rfl rfl ?_
                refine RL.nil ?_
                have hb : ¬ badU x.i cc := by unfold badU; omega
                have hc128 : ¬ cc.toNat < 128 := by have := of_decide_eq_false h92; omega
                have hi8 : x.i ≤ 8 := by unfold badU at hb; omega
                have hfit := byte_fits hb hin.1 hin.2
                have hor : (x.n ||| (cc.toNat % 128 * 2 ^ (7 * x.i) % 18446744073709551616)) = x.n + cc.toNat % 128 * 2 ^ (7 * x.i) := or_add hin.2 (by omega)
                refine NX.roundP ⟨x.i + 1, x.n + cc.toNat % 128 * 2 ^ (7 * x.i), l2, y.1.oa, y.1.c, 0⟩ ⟨y.2, ?_, fun _ => ⟨by show x.i + 1 ≤ 9; omega, hfit.2 hi8⟩⟩ (by simp) ⟨rfl, congrArg (fun z => some (U z)) hor, rfl, trivial⟩ (fun w hw => hw.facts (fun φ h => by
                  rcases List.mem_cons.1 h with e | h
                  · subst e; exact .head _
                  · exact .tail _ (.tail _ h)))
                · show rdU l e = if (0 : Int) = 0 then decU (x.i + 1) (x.n + cc.toNat % 128 * 2 ^ (7 * x.i)) l2 else _
                  rw [if_pos rfl, hru, decU_more hb hc128]
          · skip
            have h69 := of_decide_eq_false h26
            refine RL.skip rfl rfl rfl ?_
            refine RL.skip rfl rfl rfl ?_
            refine RL.pickF rfl rfl rfl rfl ?_
            refine RL.pickF rfl rfl rfl rfl ?_
            refine RL.nil ?_
            refine NX.seq ?_
            refine TR.condF rfl ?_
            refine TR.skip ?_
            refine NX.seq ?_
            refine TR.seq ?_
            refine TR.region ?_
            refine RL.move rfl rfl rfl ?_
            refine RL.move rfl rfl rfl ?_
            refine RL.bin rfl rfl rfl (BinV.clear7 (a := cc.toNat) (by have := cc.toNat_lt; omega)) rfl ?_
            refine RL.conv rfl rfl (ConvV.bu wc_ti5 wc_ti64 (by omega)) rfl ?_
            refine RL.move rfl rfl rfl ?_
            refine RL.bin rfl rfl rfl (BinV.mul ((7 * x.i : Nat) : Int) (by omega) (by omega) (by omega)) rfl ?_
            refine RL.bin rfl rfl rfl (BinV.shlU (s := 7 * x.i) (by omega)) rfl ?_
            refine RL.bin rfl rfl rfl (BinV.orU (Nat.lt_of_lt_of_le hin.2 (Nat.pow_le_pow_right (by omega) (show 7 * x.i ≤ 64 by omega))) (Nat.mod_lt _ (by omega))) rfl ?_
            refine RL.assign rfl rfl rfl ?_
            refine RL.nil ?_
            refine NX.seq ?_
            refine TR.seq ?_
            refine TR.region ?_
            refine RL.move rfl rfl rfl ?_
            refine RL.bin rfl rfl rfl BinV.lss rfl ?_
            refine RL.move rfl rfl rfl ?_
            refine RL.part (fun h32 => ?_) (fun h32 => ?_)
            · skip
              have h92 := h32
              refine RL.move rfl rfl rfl ?_
              refine RL.nilCheck rfl rfl rfl ?_
              refine RL.fieldAddr rfl wc_tf78_1 rfl rfl ?_
              refine RL.load1 0 rfl wc_ts24 rfl rfl rfl rfl ?_
              refine RL.bin rfl rfl rfl BinV.eql rfl ?_
              refine RL.pickT rfl rfl rfl rfl ?_
              refine RL.nil ?_
              refine NX.seq ?_
              refine TR.cond rfl (fun h33 => ?_) (fun h33 => ?_)
              · skip
                refine TR.seq ?_
                refine TR.region ?_
                refine RL.move rfl rfl rfl ?_
                refine RL.assign rfl rfl rfl ?_
                refine RL.nil ?_
                refine NX.seq ?_
                refine TR.ret ?_
                refine NX.retBlock ?_
                refine NX.retThen ?_
                refine NX.retThen ?_
                refine NX.retBlock ?_
                refine NX.retThen ?_
                have hb : ¬ badU x.i cc := by unfold badU; omega
                have hc128 : cc.toNat < 128 := by have := of_decide_eq_true h92; omega
                have hfit := byte_fits hb hin.1 hin.2
                have hor : (x.n ||| (cc.toNat % 128 * 2 ^ (7 * x.i) % 18446744073709551616)) = x.n + cc.toNat % 128 * 2 ^ (7 * x.i) := or_add hin.2 (by omega)
                have hrr : rdU l e = (x.n + cc.toNat % 128 * 2 ^ (7 * x.i), l2, 0) := by rw [hru, decU_last hb hc128]
                rw [hor]
                refine NX.ret1x rfl rfl (fun w hw => ?_)
                refine ⟨⟨⟨y.1.oa, y.1.c⟩, by rw [hrr]; exact y.2⟩, by rw [hrr] <;> rfl, ?_⟩
                show St w (Box b 78 [.slice y.1.oa (rdU l e).2.1.length y.1.c, I (rdU l e).2.2] :: M) (ArrF y.1.oa (bytesV (rdU l e).2.1) :: F)
                rw [hrr]
                exact hw.facts (fun φ h => by
                  rcases List.mem_cons.1 h with e | h
                  · subst e; exact .head _
                  · exact .tail _ (.tail _ h))
              · skip
                exact absurd rfl (of_decide_eq_false h33)
            · skip
              have h92 := h32
              refine RL.skip rfl rfl rfl ?_
              refine RL.skip rfl rfl rfl ?_
              refine RL.skip rfl rfl rfl ?_
              refine RL.skip rfl rfl rfl ?_
              refine RL.skip rfl rfl rfl ?_
              refine RL.pickF rfl rfl rfl rfl ?_
              refine RL.nil ?_
              refine NX.seq ?_
              refine TR.condF rfl ?_
              refine TR.skip ?_
              refine NX.off ?_
              refine NX.seq ?_
              refine TR.region ?_
              refine RL.move rfl rfl rfl ?_
              refine RL.bin rfl rfl rfl (BinV.add _ rfl (by omega) (by omega)) rfl ?_
              refine RL.assign rfl rfl rfl ?_
              refine RL.nil ?_
              have hb : ¬ badU x.i cc := by unfold badU; omega
              have hc128 : ¬ cc.toNat < 128 := by have := of_decide_eq_false h92; omega
              have hi8 : x.i ≤ 8 := by unfold badU at hb; omega
              have hfit := byte_fits hb hin.1 hin.2
              have hor : (x.n ||| (cc.toNat % 128 * 2 ^ (7 * x.i) % 18446744073709551616)) = x.n + cc.toNat % 128 * 2 ^ (7 * x.i) := or_add hin.2 (by omega)
              refine NX.roundP ⟨x.i + 1, x.n + cc.toNat % 128 * 2 ^ (7 * x.i), l2, y.1.oa, y.1.c, 0⟩ ⟨y.2, ?_, fun _ => ⟨by show x.i + 1 ≤ 9; omega, hfit.2 hi8⟩⟩ (by simp) ⟨rfl, congrArg (fun z => some (U z)) hor, rfl, trivial⟩ (fun w hw => hw.facts (fun φ h => by
                rcases List.mem_cons.1 h with e | h
                · subst e; exact .head _
                · exact .tail _ (.tail _ h)))
              · show rdU l e = if (0 : Int) = 0 then decU (x.i + 1) (x.n + cc.toNat % 128 * 2 ^ (7 * x.i)) l2 else _
                rw [if_pos rfl, hru, decU_more hb hc128]
      · skip
        have h62 : ¬ (x.i : Int) = 9 := of_decide_eq_false h22
        refine RL.skip rfl rfl rfl ?_
        refine RL.skip rfl rfl rfl ?_
        refine RL.pickF rfl rfl rfl rfl ?_
        refine RL.move rfl rfl rfl ?_
        refine RL.move rfl rfl rfl ?_
        refine RL.bin rfl rfl rfl BinV.gtr rfl ?_
        refine RL.move rfl rfl rfl ?_
        refine RL.part (fun h34 => ?_) (fun h34 => ?_)
        · skip
          have h69 := of_decide_eq_true h34
          refine RL.move rfl rfl rfl ?_
          refine RL.bin rfl rfl rfl BinV.eql rfl ?_
          refine RL.pickT rfl rfl rfl rfl ?_
          refine RL.pickF rfl rfl rfl rfl ?_
          refine RL.nil ?_
          refine NX.seq ?_
          refine TR.cond rfl (fun h35 => ?_) (fun h35 => ?_)
          · skip
            have h28 := of_decide_eq_true h35
            refine TR.region ?_
            refine RL.move rfl rfl rfl ?_
            refine RL.call rfl rfl Tryz.call56 rfl (fail_spec) (fun _ => ?_)
            refine RL.nil ?_
            refine NX.seq ?_
            refine TR.seq ?_
            refine TR.region ?_
            refine RL.move rfl rfl rfl ?_
            refine RL.move rfl rfl rfl ?_
            refine RL.bin rfl rfl rfl (BinV.clear7 (a := cc.toNat) (by have := cc.toNat_lt; omega)) rfl ?_
            refine RL.conv rfl rfl (ConvV.bu wc_ti5 wc_ti64 (by omega)) rfl ?_
            refine RL.move rfl rfl rfl ?_
            refine RL.bin rfl rfl rfl (BinV.mul ((7 * x.i : Nat) : Int) (by omega) (by omega) (by omega)) rfl ?_
            refine RL.bin rfl rfl rfl (BinV.shlU (s := 7 * x.i) (by omega)) rfl ?_
            refine RL.bin rfl rfl rfl (BinV.orU (Nat.lt_of_lt_of_le hin.2 (Nat.pow_le_pow_right (by omega) (show 7 * x.i ≤ 64 by omega))) (Nat.mod_lt _ (by omega))) rfl ?_
            refine RL.assign rfl rfl rfl ?_
            refine RL.nil ?_
            refine NX.seq ?_
            refine TR.seq ?_
            refine TR.region ?_
            refine RL.move rfl rfl rfl ?_
            refine RL.bin rfl rfl rfl BinV.lss rfl ?_
            refine RL.move rfl rfl rfl ?_
            refine RL.part (fun h36 => ?_) (fun h36 => ?_)
            · skip
              have h92 := h36
              refine RL.move rfl rfl rfl ?_
              refine RL.nilCheck rfl rfl rfl ?_
              refine RL.fieldAddr rfl wc_tf78_1 rfl rfl ?_
              refine RL.load1 0 rfl wc_ts24 rfl rfl rfl rfl ?_
              refine RL.bin rfl rfl rfl BinV.eql rfl ?_
              refine RL.pickT rfl rfl rfl rfl ?_
              refine RL.nil ?_
              refine NX.seq ?_
              refine TR.cond rfl (fun h37 => ?_) (fun h37 => ?_)
              · skip
                exact absurd (of_decide_eq_true h37) (by decide)
              · skip
                refine TR.skip ?_
                refine NX.off ?_
                refine NX.seq ?_
                refine TR.region ?_
                refine RL.move rfl rfl rfl ?_
                refine RL.bin rfl rfl rfl (BinV.add _ rfl (by omega) (by omega)) rfl ?_
                refine RL.assign rfl rfl rfl ?_
                refine RL.nil ?_
                have hb : badU x.i cc := by unfold badU; omega
                refine NX.roundP ⟨x.i + 1, (x.n ||| (cc.toNat % 128 * 2 ^ (7 * x.i) % 18446744073709551616)), l2, y.1.oa, y.1.c, 2⟩ ⟨y.2, ?_, fun h => absurd (show (2 : Int) = 0 from h) (by decide)⟩ (by simp) ⟨rfl, rfl, rfl, trivial⟩ (fun w hw => hw.facts (fun φ h => by
                  rcases List.mem_cons.1 h with e | h
                  · subst e; exact .head _
                  · exact .tail _ (.tail _ h)))
                · show rdU l e = if (2 : Int) = 0 then _ else (0, l2, 2)
                  rw [if_neg (by decide), hru, decU_bad hb]
            · skip
              have h92 := h36
              refine RL.skip rfl rfl rfl ?_
              refine RL.skip rfl rfl rfl ?_
              refine RL.skip rfl rfl rfl ?_
              refine RL.skip rfl rfl rfl ?_
              refine RL.skip rfl rfl rfl ?_
              refine RL.pickF rfl rfl rfl rfl ?_
              refine RL.nil ?_
              refine NX.seq ?_
              refine TR.condF rfl ?_
              refine TR.skip ?_
              refine NX.off ?_
              refine NX.seq ?_
              refine TR.region ?_
              refine RL.move rfl rfl rfl ?_
              refine RL.bin rfl rfl rfl (BinV.add _ rfl (by omega) (by omega)) rfl ?_
              refine RL.assign rfl rfl rfl ?_
              refine RL.nil ?_
              have hb : badU x.i cc := by unfold badU; omega
              refine NX.roundP ⟨x.i + 1, (x.n ||| (cc.toNat % 128 * 2 ^ (7 * x.i) % 18446744073709551616)), l2, y.1.oa, y.1.c, 2⟩ ⟨y.2, ?_, fun h => absurd (show (2 : Int) = 0 from h) (by decide)⟩ (by simp) ⟨rfl, rfl, rfl, trivial⟩ (fun w hw => hw.facts (fun φ h => by
                rcases List.mem_cons.1 h with e | h
                · subst e; exact .head _
                · exact .tail _ (.tail _ h)))
              · show rdU l e = if (2 : Int) = 0 then _ else (0, l2, 2)
                rw [if_neg (by decide), hru, decU_bad hb]
          · skip
            have h28 := of_decide_eq_false h35
            refine TR.skip ?_
            refine NX.seq ?_
            refine TR.seq ?_
            refine TR.region ?_
            refine RL.move rfl rfl rfl ?_
            refine RL.move rfl rfl rfl ?_
            refine RL.bin rfl rfl rfl (BinV.clear7 (a := cc.toNat) (by have := cc.toNat_lt; omega)) rfl ?_
            refine RL.conv rfl rfl (ConvV.bu wc_ti5 wc_ti64 (by omega)) rfl ?_
            refine RL.move rfl rfl rfl ?_
            refine RL.bin rfl rfl rfl (BinV.mul ((7 * x.i : Nat) : Int) (by omega) (by omega) (by omega)) rfl ?_
            refine RL.bin rfl rfl rfl (BinV.shlU (s := 7 * x.i) (by omega)) rfl ?_
            refine RL.bin rfl rfl rfl (BinV.orU (Nat.lt_of_lt_of_le hin.2 (Nat.pow_le_pow_right (by omega) (show 7 * x.i ≤ 64 by omega))) (Nat.mod_lt _ (by omega))) rfl ?_
            refine RL.assign rfl rfl rfl ?_
            refine RL.nil ?_
            refine NX.seq ?_
            refine TR.seq ?_
            refine TR.region ?_
            refine RL.move rfl rfl rfl ?_
            refine RL.bin rfl rfl rfl BinV.lss rfl ?_
            refine RL.move rfl rfl rfl ?_
            refine RL.part (fun h38 => ?_) (fun h38 => ?_)
            · skip
              have h92 := h38
              refine RL.move rfl rfl rfl ?_
              refine RL.nilCheck rfl rfl rfl ?_
              refine RL.fieldAddr rfl wc_tf78_1 rfl rfl ?_
              refine RL.load1 0 rfl wc_ts24 rfl rfl rfl rfl ?_
              refine RL.bin rfl rfl rfl BinV.eql rfl ?_
              refine RL.pickT rfl rfl rfl rfl ?_
              refine RL.nil ?_
              refine NX.seq ?_
              refine TR.cond rfl (fun h39 => ?_) (fun h39 => ?_)
              · skip
                refine TR.seq ?_
                refine TR.region ?_
                refine RL.move rfl rfl rfl ?_
                refine RL.assign rfl rfl rfl ?_
                refine RL.nil ?_
                refine NX.seq ?_
                refine TR.ret ?_
                refine NX.retBlock ?_
                refine NX.retThen ?_
                refine NX.retThen ?_
                refine NX.retBlock ?_
                refine NX.retThen ?_
                have hb : ¬ badU x.i cc := by unfold badU; omega
                have hc128 : cc.toNat < 128 := by have := of_decide_eq_true h92; omega
                have hfit := byte_fits hb hin.1 hin.2
                have hor : (x.n ||| (cc.toNat % 128 * 2 ^ (7 * x.i) % 18446744073709551616)) = x.n + cc.toNat % 128 * 2 ^ (7 * x.i) := or_add hin.2 (by omega)
                have hrr : rdU l e = (x.n + cc.toNat % 128 * 2 ^ (7 * x.i), l2, 0) := by rw [hru, decU_last hb hc128]
                rw [hor]
                refine NX.ret1x rfl rfl (fun w hw => ?_)
                refine ⟨⟨⟨y.1.oa, y.1.c⟩, by rw [hrr]; exact y.2⟩, by rw [hrr] <;> rfl, ?_⟩
                show St w (Box b 78 [.slice y.1.oa (rdU l e).2.1.length y.1.c, I (rdU l e).2.2] :: M) (ArrF y.1.oa (bytesV (rdU l e).2.1) :: F)
                rw [hrr]
                exact hw.facts (fun φ h => by
                  rcases List.mem_cons.1 h with e | h
                  · subst e; exact .head _
                  · exact .tail _ (.tail _ h))
              · skip
                exact absurd rfl (of_decide_eq_false h39)
            · skip
              have h92 := h38
              refine RL.skip rfl rfl rfl ?_
              refine RL.skip rfl rfl rfl ?_
              refine RL.skip rfl rfl rfl ?_
              refine RL.skip rfl rfl rfl ?_
              refine RL.skip rfl rfl rfl ?_
              refine RL.pickF rfl rfl rfl rfl ?_
              refine RL.nil ?_
              refine NX.seq ?_
              refine TR.condF rfl ?_
              refine TR.skip ?_
              refine NX.off ?_
              refine NX.seq ?_
              refine TR.region ?_
              refine RL.move rfl rfl rfl ?_
              refine RL.bin rfl rfl rfl (BinV.add _ rfl (by omega) (by omega)) rfl ?_
              refine RL.assign rfl rfl rfl ?_
              refine RL.nil ?_
              have hb : ¬ badU x.i cc := by unfold badU; omega
              have hc128 : ¬ cc.toNat < 128 := by have := of_decide_eq_false h92; omega
              have hi8 : x.i ≤ 8 := by unfold badU at hb; omega
              have hfit := byte_fits hb hin.1 hin.2
              have hor : (x.n ||| (cc.toNat % 128 * 2 ^ (7 * x.i) % 18446744073709551616)) = x.n + cc.toNat % 128 * 2 ^ (7 * x.i) := or_add hin.2 (by omega)
              refine NX.roundP ⟨x.i + 1, x.n + cc.toNat % 128 * 2 ^ (7 * x.i), l2, y.1.oa, y.1.c, 0⟩ ⟨y.2, ?_, fun _ => ⟨by show x.i + 1 ≤ 9; omega, hfit.2 hi8⟩⟩ (by simp) ⟨rfl, congrArg (fun z => some (U z)) hor, rfl, trivial⟩ (fun w hw => hw.facts (fun φ h => by
                rcases List.mem_cons.1 h with e | h
                · subst e; exact .head _
                · exact .tail _ (.tail _ h)))
              · show rdU l e = if (0 : Int) = 0 then decU (x.i + 1) (x.n + cc.toNat % 128 * 2 ^ (7 * x.i)) l2 else _
                rw [if_pos rfl, hru, decU_more hb hc128]
        · skip
          have h69 := of_decide_eq_false h34
          refine RL.skip rfl rfl rfl ?_
          refine RL.skip rfl rfl rfl ?_
          refine RL.pickF rfl rfl rfl rfl ?_
          refine RL.pickF rfl rfl rfl rfl ?_
          refine RL.nil ?_
          refine NX.seq ?_
          refine TR.condF rfl ?_
          refine TR.skip ?_
          refine NX.seq ?_
          refine TR.seq ?_
          refine TR.region ?_
          refine RL.move rfl rfl rfl ?_
          refine RL.move rfl rfl rfl ?_
          refine RL.bin rfl rfl rfl (BinV.clear7 (a := cc.toNat) (by have := cc.toNat_lt; omega)) rfl ?_
          refine RL.conv rfl rfl (ConvV.bu wc_ti5 wc_ti64 (by omega)) rfl ?_
          refine RL.move rfl rfl rfl ?_
          refine RL.bin rfl rfl rfl (BinV.mul ((7 * x.i : Nat) : Int) (by omega) (by omega) (by omega)) rfl ?_
          refine RL.bin rfl rfl rfl (BinV.shlU (s := 7 * x.i) (by omega)) rfl ?_
          refine RL.bin rfl rfl rfl (BinV.orU (Nat.lt_of_lt_of_le hin.2 (Nat.pow_le_pow_right (by omega) (show 7 * x.i ≤ 64 by omega))) (Nat.mod_lt _ (by omega))) rfl ?_
          refine RL.assign rfl rfl rfl ?_
          refine RL.nil ?_
          refine NX.seq ?_
          refine TR.seq ?_
          refine TR.region ?_
          refine RL.move rfl rfl rfl ?_
          refine RL.bin rfl rfl rfl BinV.lss rfl ?_
          refine RL.move rfl rfl rfl ?_
          refine RL.part (fun h40 => ?_) (fun h40 => ?_)
          · skip
            have h92 := h40
            refine RL.move rfl rfl rfl ?_
            refine RL.nilCheck rfl rfl rfl ?_
            refine RL.fieldAddr rfl wc_tf78_1 rfl rfl ?_
            refine RL.load1 0 rfl wc_ts24 rfl rfl rfl rfl ?_
            refine RL.bin rfl rfl rfl BinV.eql rfl ?_
            refine RL.pickT rfl rfl rfl rfl ?_
            refine RL.nil ?_
            refine NX.seq ?_
            refine TR.cond rfl (fun h41 => ?_) (fun h41 => ?_)
            · skip
              refine TR.seq ?_
              refine TR.region ?_
              refine RL.move rfl rfl rfl ?_
              refine RL.assign rfl rfl rfl ?_
              refine RL.nil ?_
              refine NX.seq ?_
              refine TR.ret ?_
              refine NX.retBlock ?_
              refine NX.retThen ?_
              refine NX.retThen ?_
              refine NX.retBlock ?_
              refine NX.retThen ?_
              have hb : ¬ badU x.i cc := by unfold badU; omega
              have hc128 : cc.toNat < 128 := by have := of_decide_eq_true h92; omega
              have hfit := byte_fits hb hin.1 hin.2
              have hor : (x.n ||| (cc.toNat % 128 * 2 ^ (7 * x.i) % 18446744073709551616)) = x.n + cc.toNat % 128 * 2 ^ (7 * x.i) := or_add hin.2 (by omega)
              have hrr : rdU l e = (x.n + cc.toNat % 128 * 2 ^ (7 * x.i), l2, 0) := by rw [hru, decU_last hb hc128]
              rw [hor]
              refine NX.ret1x rfl rfl (fun w hw => ?_)
              refine ⟨⟨⟨y.1.oa, y.1.c⟩, by rw [hrr]; exact y.2⟩, by rw [hrr] <;> rfl, ?_⟩
              show St w (Box b 78 [.slice y.1.oa (rdU l e).2.1.length y.1.c, I (rdU l e).2.2] :: M) (ArrF y.1.oa (bytesV (rdU l e).2.1) :: F)
              rw [hrr]
              exact hw.facts (fun φ h => by
                rcases List.mem_cons.1 h with e | h
                · subst e; exact .head _
                · exact .tail _ (.tail _ h))
            · skip
              exact absurd rfl (of_decide_eq_false h41)
          · skip
            have h92 := h40
            refine RL.skip rfl rfl rfl ?_
            refine RL.skip rfl rfl rfl ?_
            refine RL.skip rfl rfl rfl ?_
            refine RL.skip rfl rfl rfl ?_
            refine RL.skip rfl rfl rfl ?_
            refine RL.pickF rfl rfl rfl rfl ?_
            refine RL.nil ?_
            refine NX.seq ?_
            refine TR.condF rfl ?_
            refine TR.skip ?_
            refine NX.off ?_
            refine NX.seq ?_
            refine TR.region ?_
            refine RL.move rfl rfl rfl ?_
            refine RL.bin rfl rfl rfl (BinV.add _ rfl (by omega) (by omega)) rfl ?_
            refine RL.assign rfl rfl rfl ?_
            refine RL.nil ?_
            have hb : ¬ badU x.i cc := by unfold badU; omega
            have hc128 : ¬ cc.toNat < 128 := by have := of_decide_eq_false h92; omega
            have hi8 : x.i ≤ 8 := by unfold badU at hb; omega
            have hfit := byte_fits hb hin.1 hin.2
            have hor : (x.n ||| (cc.toNat % 128 * 2 ^ (7 * x.i) % 18446744073709551616)) = x.n + cc.toNat % 128 * 2 ^ (7 * x.i) := or_add hin.2 (by omega)
            refine NX.roundP ⟨x.i + 1, x.n + cc.toNat % 128 * 2 ^ (7 * x.i), l2, y.1.oa, y.1.c, 0⟩ ⟨y.2, ?_, fun _ => ⟨by show x.i + 1 ≤ 9; omega, hfit.2 hi8⟩⟩ (by simp) ⟨rfl, congrArg (fun z => some (U z)) hor, rfl, trivial⟩ (fun w hw => hw.facts (fun φ h => by
              rcases List.mem_cons.1 h with e | h
              · subst e; exact .head _
              · exact .tail _ (.tail _ h)))
            · show rdU l e = if (0 : Int) = 0 then decU (x.i + 1) (x.n + cc.toNat % 128 * 2 ^ (7 * x.i)) l2 else _
              rw [if_pos rfl, hru, decU_more hb hc128]
  · skip
    have hxe : ¬ x.e = 0 := of_decide_eq_false h1
    have hru := hx.2.1
    rw [if_neg hxe] at hru
    refine TR.exit ?_
    refine NX.exitThen ?_
    refine NX.exitThen ?_
    refine NX.exitHere ?_
    refine NX.seq ?_
    refine TR.seq ?_
    refine TR.region ?_
    refine RL.assign rfl rfl rfl ?_
    refine RL.nil ?_
    refine NX.seq ?_
    refine TR.ret ?_
    have hrr : rdU l e = (0, x.l, x.e) := hru
    refine NX.ret1x rfl rfl (fun w hw => ?_)
    refine ⟨⟨⟨x.oa, x.c⟩, by rw [hrr]; exact hx.1⟩, by rw [hrr] <;> rfl, ?_⟩
    show St w (Box b 78 [.slice x.oa (rdU l e).2.1.length x.c, I (rdU l e).2.2] :: M) (ArrF x.oa (bytesV (rdU l e).2.1) :: F)
    rw [hrr]
    exact hw
theorem unzigzag_spec {z : Nat} {M : List HP} {F : List Fact} (hz : z < 18446744073709551616) : Ctr Tryz.prog 38 [U z] M F Unit (fun _ => I (uz z)) (fun _ => M) (fun _ => F) := by
  refine Ctr.body Tryz.func38 rfl rfl ?_
  refine TR.seq ?_
  refine TR.region ?_
  refine RL.assign rfl rfl rfl ?_
  refine RL.nil ?_
  refine NX.seq ?_
  refine TR.seq ?_
  refine TR.region ?_
  refine RL.move rfl rfl rfl ?_
  refine RL.bin rfl rfl rfl (BinV.shrU (s := 1) (by omega)) rfl ?_
  refine RL.conv rfl rfl (ConvV.ui64 wc_ti64 wc_ti3) rfl ?_
  refine RL.move rfl rfl rfl ?_
  refine RL.bin rfl rfl rfl (BinV.andU (b := 1) hz (by omega)) rfl ?_
  refine RL.conv rfl rfl (ConvV.ui64 wc_ti64 wc_ti3) rfl ?_
  have hr1 := i64of_range (z &&& 1)
  have hr2 : i64of (z &&& 1) = ((z % 2 : Nat) : Int) := by rw [nat_mask1]; exact i64of_small (by omega)
  refine RL.neg rfl rfl (by omega) (by omega) rfl ?_
  refine RL.bin rfl rfl rfl (BinV.bitsK (by simp)) rfl ?_
  refine RL.assign rfl rfl rfl ?_
  refine RL.nil ?_
  refine NX.seq ?_
  refine TR.ret ?_
  exact NX.ret1 () rfl rfl (by rw [uz_bits hz]) (fun w hw => hw)
theorem rInt_spec {b : Nat} {l : List UInt8} {oa : Option Addr} {c : Nat} {e : Int} {M : List HP} {F : List Fact} (ha : ArrF oa (bytesV l) ∈ F) (hc : l.length ≤ c) : Ctr Tryz.prog 20 [.pointer (some ⟨b, 0, none⟩)] (Box b 78 [.slice oa l.length c, I e] :: M) F {z : RdX // (rdU l e).2.1.length ≤ z.c} (fun _ => I (uz (rdU l e).1)) (fun z => Box b 78 [.slice z.1.oa (rdU l e).2.1.length z.1.c, I (rdU l e).2.2] :: M) (fun z => ArrF z.1.oa (bytesV (rdU l e).2.1) :: F) := by
  refine Ctr.body Tryz.func20 rfl rfl ?_
  refine TR.seq ?_
  refine TR.region ?_
  refine RL.assign rfl rfl rfl ?_
  refine RL.nil ?_
  refine NX.seq ?_
  refine TR.seq ?_
  refine TR.region ?_
  refine RL.move rfl rfl rfl ?_
  refine RL.call rfl rfl Tryz.call39 rfl (rUint_spec ha hc) (fun y => ?_)
  refine RL.call rfl rfl Tryz.call38 rfl (unzigzag_spec rdU_lt) (fun _ => ?_)
  refine RL.assign rfl rfl rfl ?_
  refine RL.nil ?_
  refine NX.seq ?_
  refine TR.ret ?_
  exact NX.ret1 y rfl rfl rfl (fun w hw => hw)
theorem rEnd_spec {b n c : Nat} {oa : Option Addr} {e : Int} {M : List HP} {F : List Fact} : Ctr Tryz.prog 21 [.pointer (some ⟨b, 0, none⟩)] (Box b 78 [.slice oa n c, I e] :: M) F Unit (fun _ => I (if e = 0 ∧ 0 < n then 2 else e)) (fun _ => Box b 78 [.slice oa n c, I e] :: M) (fun _ => F) := by
  refine Ctr.body Tryz.func21 rfl rfl ?_
  refine TR.seq ?_
  refine TR.region ?_
  refine RL.assign rfl rfl rfl ?_
  refine RL.nil ?_
  refine NX.seq ?_
  refine TR.seq ?_
  refine TR.seq ?_
  refine TR.region ?_
  refine RL.move rfl rfl rfl ?_
  refine RL.nilCheck rfl rfl rfl ?_
  refine RL.fieldAddr rfl wc_tf78_1 rfl rfl ?_
  refine RL.load1 0 rfl wc_ts24 rfl rfl rfl rfl ?_
  refine RL.bin rfl rfl rfl BinV.eql rfl ?_
  refine RL.move rfl rfl rfl ?_
  refine RL.part (fun h1 => ?_) (fun h1 => ?_)
  · skip
    have h5 : e = 0 := of_decide_eq_true h1
    refine RL.move rfl rfl rfl ?_
    refine RL.nilCheck rfl rfl rfl ?_
    refine RL.fieldAddr rfl wc_tf78_0 rfl rfl ?_
    refine RL.load1 0 rfl wc_ts32 rfl rfl rfl rfl ?_
    refine RL.lenSlice rfl wc_tl32 rfl rfl ?_
    refine RL.bin rfl rfl rfl BinV.gtr rfl ?_
    refine RL.pickT rfl rfl rfl rfl ?_
    refine RL.nil ?_
    refine NX.seq ?_
    refine TR.cond rfl (fun h2 => ?_) (fun h2 => ?_)
    · skip
      have h15 := of_decide_eq_true h2
      refine TR.seq ?_
      refine TR.region ?_
      refine RL.assign rfl rfl rfl ?_
      refine RL.nil ?_
      refine NX.seq ?_
      refine TR.ret ?_
      refine NX.retThen ?_
      refine NX.ret1 () rfl rfl ?_ (fun w hw => hw)
      congr 1
      rw [if_pos ⟨h5, by omega⟩]
    · skip
      have h15 := of_decide_eq_false h2
      refine TR.skip ?_
      refine NX.seq ?_
      refine TR.seq ?_
      refine TR.region ?_
      refine RL.move rfl rfl rfl ?_
      refine RL.nilCheck rfl rfl rfl ?_
      refine RL.fieldAddr rfl wc_tf78_1 rfl rfl ?_
      refine RL.load1 0 rfl wc_ts24 rfl rfl rfl rfl ?_
      refine RL.assign rfl rfl rfl ?_
      refine RL.nil ?_
      refine NX.seq ?_
      refine TR.ret ?_
      refine NX.ret1 () rfl rfl ?_ (fun w hw => hw)
      congr 1
      rw [if_neg (by omega)]
  · skip
    have h5 : ¬ e = 0 := of_decide_eq_false h1
    refine RL.skip rfl rfl rfl ?_
    refine RL.skip rfl rfl rfl ?_
    refine RL.skip rfl rfl rfl ?_
    refine RL.skip rfl rfl rfl ?_
    refine RL.skip rfl rfl rfl ?_
    refine RL.skip rfl rfl rfl ?_
    refine RL.pickF rfl rfl rfl rfl ?_
    refine RL.nil ?_
    refine NX.seq ?_
    refine TR.condF rfl ?_
    refine TR.skip ?_
    refine NX.seq ?_
    refine TR.seq ?_
    refine TR.region ?_
    refine RL.move rfl rfl rfl ?_
    refine RL.nilCheck rfl rfl rfl ?_
    refine RL.fieldAddr rfl wc_tf78_1 rfl rfl ?_
    refine RL.load1 0 rfl wc_ts24 rfl rfl rfl rfl ?_
    refine RL.assign rfl rfl rfl ?_
    refine RL.nil ?_
    refine NX.seq ?_
    refine TR.ret ?_
    refine NX.ret1 () rfl rfl ?_ (fun w hw => hw)
    congr 1
    rw [if_neg (by omega)]
structure RlX where
  i : Nat
  oo : Option Addr
  oc : Nat
  oa : Option Addr
  c : Nat
  e : Int
structure RwX where
  ro : Option Addr
  rc : Nat
  oa : Option Addr
  c : Nat
set_option maxHeartbeats 1000000 in
theorem rList_spec {b : Nat} {l : List UInt8} {oa : Option Addr} {c : Nat} {e : Int} {M : List HP} {F : List Fact} (ha : ArrF oa (bytesV l) ∈ F) (hc : l.length ≤ c) (hl : l.length ≤ 70368744177664) : Ctr Tryz.prog 54 [.pointer (some ⟨b, 0, none⟩), (.func (.func 55) #[.pointer (some ⟨b, 0, none⟩)] #[])] (Box b 78 [.slice oa l.length c, I e] :: M) F {z : RwX // (rdRaw l e).2.1.length ≤ z.c} (fun z => .slice z.1.ro (rdRaw l e).1.length z.1.rc) (fun z => OwnSl 5 1 z.1.ro (rdRaw l e).1.length z.1.rc (bytesV (rdRaw l e).1) :: Box b 78 [.slice z.1.oa (rdRaw l e).2.1.length z.1.c, I (rdRaw l e).2.2] :: M) (fun z => ArrF z.1.oa (bytesV (rdRaw l e).2.1) :: F) := by
  refine Ctr.body Tryz.func54 rfl rfl ?_
  refine TR.seq ?_
  refine TR.region ?_
  refine RL.assign rfl rfl rfl ?_
  refine RL.nil ?_
  refine NX.seq ?_
  refine TR.seq ?_
  refine TR.region ?_
  refine RL.move rfl rfl rfl ?_
  refine RL.call rfl rfl Tryz.call39 rfl (rUint_spec ha hc) (fun y => ?_)
  refine RL.assign rfl rfl rfl ?_
  refine RL.nil ?_
  refine NX.seq ?_
  refine TR.seq ?_
  refine TR.seq ?_
  refine TR.region ?_
  have hy := y.2
  obtain ⟨pp, hpp⟩ := rdU_suf (l := l) (e := e)
  have hpl := congrArg List.length hpp
  rw [List.length_append] at hpl
  have hN := rdU_lt (l := l) (e := e)
  refine RL.move rfl rfl rfl ?_
  refine RL.move rfl rfl rfl ?_
  refine RL.nilCheck rfl rfl rfl ?_
  refine RL.fieldAddr rfl wc_tf78_0 rfl rfl ?_
  refine RL.load1 0 rfl wc_ts32 rfl rfl rfl rfl ?_
  refine RL.lenSlice rfl wc_tl32 rfl rfl ?_
  refine RL.conv rfl rfl (ConvV.iu wc_ti3 wc_ti64 (by omega)) rfl ?_
  refine RL.bin rfl rfl rfl BinV.gtr rfl ?_
  refine RL.nil ?_
  refine NX.seq ?_
  refine TR.cond rfl (fun h1 => ?_) (fun h1 => ?_)
  · skip
    have hfar : (rdU l e).2.1.length < (rdU l e).1 := by have := of_decide_eq_true h1; omega
    have he0 : (rdU l e).2.2 = 0 := by
      rcases Int.decEq (rdU l e).2.2 0 with h | h
      · rw [rdU_err h] at hfar; omega
      · exact h
    refine TR.region ?_
    refine RL.move rfl rfl rfl ?_
    refine RL.call rfl rfl Tryz.call56 rfl (fail_spec) (fun _ => ?_)
    refine RL.nil ?_
    refine NX.seq ?_
    refine TR.seq ?_
    refine TR.region ?_
    refine RL.assign rfl rfl rfl ?_
    refine RL.nil ?_
    refine NX.seq ?_
    refine TR.seq ?_
    refine TR.seq ?_
    refine TR.region ?_
    refine RL.assign rfl rfl rfl ?_
    refine RL.nil ?_
    refine NX.seq ?_
    refine TR.block ?_
    refine TR.loopP (ι := RlX) (fun x => (x.e = 0 ∧ x.i ≤ (rdU l e).1 ∧ (rdU l e).1 ≤ (rdU l e).2.1.length ∧ (rdU l e).2.2 = 0 ∧ ((rdU l e).2.1.drop x.i).length ≤ x.c) ∨ (x.e ≠ 0 ∧ x.i = 0 ∧ rdRaw l e = ([], (rdU l e).2.1, x.e) ∧ (rdU l e).2.1.length ≤ x.c)) (fun x => [(0, .pointer (some ⟨b, 0, none⟩)), (1, (.func (.func 55) #[.pointer (some ⟨b, 0, none⟩)] #[])), (5, U (rdU l e).1), (6, .slice x.oo x.i x.oc), (7, U x.i)]) (fun x => OwnSl 5 1 x.oo x.i x.oc (bytesV ((rdU l e).2.1.take x.i)) :: Box b 78 [.slice x.oa ((rdU l e).2.1.drop x.i).length x.c, I x.e] :: M) (fun x => ArrF x.oa (bytesV ((rdU l e).2.1.drop x.i)) :: F) (fun x => (rdU l e).1 - x.i) ⟨0, none, 0, y.1.oa, y.1.c, (if (rdU l e).2.2 = 0 then 3 else (rdU l e).2.2)⟩ (.inr ⟨by show (if (rdU l e).2.2 = 0 then (3 : Int) else (rdU l e).2.2) ≠ 0; rw [if_pos he0]; decide, rfl, by show rdRaw l e = ([], _, (if (rdU l e).2.2 = 0 then (3 : Int) else (rdU l e).2.2)); rw [if_pos he0]; exact rdRaw_far he0 hfar, hy⟩) ⟨rfl, rfl, rfl, rfl, rfl, trivial⟩ (fun w hw => OwnSl.nil_new 5 1 hw) (fun x hx => ?_)
    refine TR.seq ?_
    refine TR.seq ?_
    refine TR.region ?_
    refine RL.move rfl rfl rfl ?_
    refine RL.move rfl rfl rfl ?_
    refine RL.bin rfl rfl rfl BinV.lss rfl ?_
    refine RL.move rfl rfl rfl ?_
    refine RL.part (fun h2 => ?_) (fun h2 => ?_)
    · skip
      have hlt : x.i < (rdU l e).1 := by have := of_decide_eq_true h2; omega
      refine RL.move rfl rfl rfl ?_
      refine RL.nilCheck rfl rfl rfl ?_
      refine RL.fieldAddr rfl wc_tf78_1 rfl rfl ?_
      refine RL.load1 1 rfl wc_ts24 rfl rfl rfl rfl ?_
      refine RL.bin rfl rfl rfl BinV.eql rfl ?_
      refine RL.pickT rfl rfl rfl rfl ?_
      refine RL.nil ?_
      refine NX.seq ?_
      refine TR.cond rfl (fun h3 => ?_) (fun h3 => ?_)
      · skip
        have hxe : x.e = 0 := of_decide_eq_true h3
        have hx5 : (rdU l e).1 ≤ (rdU l e).2.1.length ∧ ((rdU l e).2.1.drop x.i).length ≤ x.c := by
          rcases hx with h | h
          · exact ⟨h.2.2.1, h.2.2.2.2⟩
          · exact absurd hxe h.1
        have hxl : x.i < (rdU l e).2.1.length := by omega
        have hdk := List.drop_eq_getElem_cons hxl
        have hcx : ((rdU l e).2.1[x.i] :: (rdU l e).2.1.drop (x.i + 1)).length ≤ x.c := by rw [← hdk]; exact hx5.2
        rw [hdk, hxe]
        have hFx : ArrF x.oa (bytesV ((rdU l e).2.1[x.i] :: (rdU l e).2.1.drop (x.i + 1))) ∈ ArrF x.oa (bytesV ((rdU l e).2.1[x.i] :: (rdU l e).2.1.drop (x.i + 1))) :: F := .head _
        refine TR.skip ?_
        refine NX.seq ?_
        refine TR.seq ?_
        refine TR.block ?_
        refine TR.region ?_
        refine RL.move rfl rfl rfl ?_
        refine RL.move rfl rfl rfl ?_
        refine RL.callV (fst := [.pointer (some ⟨b, 0, none⟩)]) (cap := []) rfl rfl rfl Tryz.call55 rfl (Ctr.frame1 [_] (nextC_spec (x := (rdU l e).2.1[x.i]) (l := (rdU l e).2.1.drop (x.i + 1)) hFx hcx)) (fun z => ?_)
        refine RL.buildSlice rfl rfl (wc_bs32_1_0 _) rfl (fun b4 => ?_)
        refine RL.ofGV rfl rfl (GV.append (j := 1) wc_tl32 wc_ni32 wc_te5 rfl rfl rfl (src_box (i := 0) rfl rfl rfl) (by omega) (by omega)) (fun v => ?_)
        refine RL.assign rfl rfl rfl ?_
        refine RL.nil ?_
        refine NX.off ?_
        refine NX.seq ?_
        refine TR.region ?_
        refine RL.move rfl rfl rfl ?_
        refine RL.bin rfl rfl rfl (BinV.addU (b := 1) (by omega)) rfl ?_
        refine RL.assign rfl rfl rfl ?_
        refine RL.nil ?_
        have ht : (rdU l e).2.1.take (x.i + 1) = (rdU l e).2.1.take x.i ++ [(rdU l e).2.1[x.i]] := List.take_succ_eq_append_getElem hxl
        refine NX.roundP ⟨x.i + 1, v.1, v.2, z.1.oa, z.1.c, 0⟩ (.inl ⟨rfl, hlt, hx5.1, ?_, z.2⟩) (by show _ - (x.i + 1) < _ - x.i; omega) ⟨rfl, rfl, rfl, rfl, rfl, trivial⟩ (fun w hw => ?_)
        · rcases hx with h | h
          · exact h.2.2.2.1
          · exact absurd hxe h.1
        · have h9 := (hw.drop 0 rfl).facts (F' := ArrF z.1.oa (bytesV ((rdU l e).2.1.drop (x.i + 1))) :: F) (fun φ h => by
            rcases List.mem_cons.1 h with e | h
            · subst e; exact .head _
            · exact .tail _ (.tail _ h))
          show St w (OwnSl 5 1 v.1 (x.i + 1) v.2 (bytesV ((rdU l e).2.1.take (x.i + 1))) :: _) _
          rw [ht, bytesV_snoc]
          exact h9
      · skip
        have hex : x.i < (rdU l e).1 → ¬ x.e = 0 := fun _ => of_decide_eq_false h3
        refine TR.exit ?_
        refine NX.exitThen ?_
        refine NX.exitThen ?_
        refine NX.exitHere ?_
        refine NX.seq ?_
        refine TR.seq ?_
        refine TR.seq ?_
        refine TR.region ?_
        refine RL.move rfl rfl rfl ?_
        refine RL.nilCheck rfl rfl rfl ?_
        refine RL.fieldAddr rfl wc_tf78_1 rfl rfl ?_
        refine RL.load1 1 rfl wc_ts24 rfl rfl rfl rfl ?_
        refine RL.bin rfl rfl rfl BinV.neq rfl ?_
        refine RL.nil ?_
        refine NX.seq ?_
        refine TR.cond rfl (fun h6 => ?_) (fun h6 => ?_)
        · skip
          have h41 := h6
          refine TR.seq ?_
          refine TR.region ?_
          refine RL.assign rfl rfl rfl ?_
          refine RL.nil ?_
          refine NX.seq ?_
          refine TR.ret ?_
          refine NX.retThen ?_
          have hE : x.e ≠ 0 := of_decide_eq_true h41
          have hR : rdRaw l e = ([], (rdU l e).2.1, x.e) ∧ (rdU l e).2.1.length ≤ x.c ∧ x.i = 0 := by
            rcases hx with h | h
            · exact absurd h.1 hE
            · exact ⟨h.2.2.1, h.2.2.2, h.2.1⟩
          refine NX.ret1x rfl rfl (fun w hw => ⟨⟨⟨none, 0, x.oa, x.c⟩, by rw [hR.1]; exact hR.2.1⟩, by show Value.slice none 0 0 = Value.slice none (rdRaw l e).1.length 0; rw [hR.1]; rfl, ?_⟩)
          show St w (OwnSl 5 1 none (rdRaw l e).1.length 0 (bytesV (rdRaw l e).1) :: Box b 78 [.slice x.oa (rdRaw l e).2.1.length x.c, I (rdRaw l e).2.2] :: M) (ArrF x.oa (bytesV (rdRaw l e).2.1) :: F)
          rw [hR.1]
          have h9 := hw.drop 0 rfl
          rw [hR.2.2] at h9
          exact OwnSl.nil_new 5 1 h9
        · skip
          have h41 := h6
          refine TR.skip ?_
          refine NX.seq ?_
          refine TR.seq ?_
          refine TR.region ?_
          refine RL.move rfl rfl rfl ?_
          refine RL.assign rfl rfl rfl ?_
          refine RL.nil ?_
          refine NX.seq ?_
          refine TR.ret ?_
          have hE : x.e = 0 := by have := of_decide_eq_false h41; omega
          have hR : x.i = (rdU l e).1 ∧ rdRaw l e = ((rdU l e).2.1.take (rdU l e).1, (rdU l e).2.1.drop (rdU l e).1, 0) ∧ ((rdU l e).2.1.drop (rdU l e).1).length ≤ x.c ∧ ((rdU l e).2.1.take (rdU l e).1).length = (rdU l e).1 := by
            rcases hx with h | h
            · have hi : x.i = (rdU l e).1 := by
                have h8 := h.2.1
                rcases Nat.lt_or_ge x.i (rdU l e).1 with h7 | h7
                · exact absurd hE (hex h7)
                · omega
              refine ⟨hi, rdRaw_ok h.2.2.2.1 h.2.2.1, by rw [← hi]; exact h.2.2.2.2, by rw [List.length_take]; omega⟩
            · exact absurd hE h.1
          obtain ⟨hi, hR1, hR2, hR3⟩ := hR
          refine NX.ret1x rfl rfl (fun w hw => ⟨⟨⟨x.oo, x.oc, x.oa, x.c⟩, ?_⟩, ?_, ?_⟩)
          · rw [hR1]; exact hR2
          · show Value.slice x.oo x.i x.oc = Value.slice x.oo (rdRaw l e).1.length x.oc; rw [hR1]; show Value.slice x.oo x.i x.oc = Value.slice x.oo ((rdU l e).2.1.take (rdU l e).1).length x.oc; rw [hR3, hi]
          · show St w (OwnSl 5 1 x.oo (rdRaw l e).1.length x.oc (bytesV (rdRaw l e).1) :: Box b 78 [.slice x.oa (rdRaw l e).2.1.length x.c, I (rdRaw l e).2.2] :: M) (ArrF x.oa (bytesV (rdRaw l e).2.1) :: F)
            rw [hR1]
            show St w (OwnSl 5 1 x.oo ((rdU l e).2.1.take (rdU l e).1).length x.oc _ :: _) _
            rw [hR3]
            have h9 := hw
            rw [hi, hE] at h9
            exact h9
    · skip
      have hge : ¬ x.i < (rdU l e).1 := by have := of_decide_eq_false h2; omega
      have hex : x.i < (rdU l e).1 → ¬ x.e = 0 := fun h => absurd h hge
      refine RL.skip rfl rfl rfl ?_
      refine RL.skip rfl rfl rfl ?_
      refine RL.skip rfl rfl rfl ?_
      refine RL.skip rfl rfl rfl ?_
      refine RL.skip rfl rfl rfl ?_
      refine RL.pickF rfl rfl rfl rfl ?_
      refine RL.nil ?_
      refine NX.seq ?_
      refine TR.condF rfl ?_
      refine TR.exit ?_
      refine NX.exitThen ?_
      refine NX.exitThen ?_
      refine NX.exitHere ?_
      refine NX.seq ?_
      refine TR.seq ?_
      refine TR.seq ?_
      refine TR.region ?_
      refine RL.move rfl rfl rfl ?_
      refine RL.nilCheck rfl rfl rfl ?_
      refine RL.fieldAddr rfl wc_tf78_1 rfl rfl ?_
      refine RL.load1 1 rfl wc_ts24 rfl rfl rfl rfl ?_
      refine RL.bin rfl rfl rfl BinV.neq rfl ?_
      refine RL.nil ?_
      refine NX.seq ?_
      refine TR.cond rfl (fun h7 => ?_) (fun h7 => ?_)
      · skip
        have h41 := h7
        refine TR.seq ?_
        refine TR.region ?_
        refine RL.assign rfl rfl rfl ?_
        refine RL.nil ?_
        refine NX.seq ?_
        refine TR.ret ?_
        refine NX.retThen ?_
        have hE : x.e ≠ 0 := of_decide_eq_true h41
        have hR : rdRaw l e = ([], (rdU l e).2.1, x.e) ∧ (rdU l e).2.1.length ≤ x.c ∧ x.i = 0 := by
          rcases hx with h | h
          · exact absurd h.1 hE
          · exact ⟨h.2.2.1, h.2.2.2, h.2.1⟩
        refine NX.ret1x rfl rfl (fun w hw => ⟨⟨⟨none, 0, x.oa, x.c⟩, by rw [hR.1]; exact hR.2.1⟩, by show Value.slice none 0 0 = Value.slice none (rdRaw l e).1.length 0; rw [hR.1]; rfl, ?_⟩)
        show St w (OwnSl 5 1 none (rdRaw l e).1.length 0 (bytesV (rdRaw l e).1) :: Box b 78 [.slice x.oa (rdRaw l e).2.1.length x.c, I (rdRaw l e).2.2] :: M) (ArrF x.oa (bytesV (rdRaw l e).2.1) :: F)
        rw [hR.1]
        have h9 := hw.drop 0 rfl
        rw [hR.2.2] at h9
        exact OwnSl.nil_new 5 1 h9
      · skip
        have h41 := h7
        refine TR.skip ?_
        refine NX.seq ?_
        refine TR.seq ?_
        refine TR.region ?_
        refine RL.move rfl rfl rfl ?_
        refine RL.assign rfl rfl rfl ?_
        refine RL.nil ?_
        refine NX.seq ?_
        refine TR.ret ?_
        have hE : x.e = 0 := by have := of_decide_eq_false h41; omega
        have hR : x.i = (rdU l e).1 ∧ rdRaw l e = ((rdU l e).2.1.take (rdU l e).1, (rdU l e).2.1.drop (rdU l e).1, 0) ∧ ((rdU l e).2.1.drop (rdU l e).1).length ≤ x.c ∧ ((rdU l e).2.1.take (rdU l e).1).length = (rdU l e).1 := by
          rcases hx with h | h
          · have hi : x.i = (rdU l e).1 := by
              have h8 := h.2.1
              rcases Nat.lt_or_ge x.i (rdU l e).1 with h7 | h7
              · exact absurd hE (hex h7)
              · omega
            refine ⟨hi, rdRaw_ok h.2.2.2.1 h.2.2.1, by rw [← hi]; exact h.2.2.2.2, by rw [List.length_take]; omega⟩
          · exact absurd hE h.1
        obtain ⟨hi, hR1, hR2, hR3⟩ := hR
        refine NX.ret1x rfl rfl (fun w hw => ⟨⟨⟨x.oo, x.oc, x.oa, x.c⟩, ?_⟩, ?_, ?_⟩)
        · rw [hR1]; exact hR2
        · show Value.slice x.oo x.i x.oc = Value.slice x.oo (rdRaw l e).1.length x.oc; rw [hR1]; show Value.slice x.oo x.i x.oc = Value.slice x.oo ((rdU l e).2.1.take (rdU l e).1).length x.oc; rw [hR3, hi]
        · show St w (OwnSl 5 1 x.oo (rdRaw l e).1.length x.oc (bytesV (rdRaw l e).1) :: Box b 78 [.slice x.oa (rdRaw l e).2.1.length x.c, I (rdRaw l e).2.2] :: M) (ArrF x.oa (bytesV (rdRaw l e).2.1) :: F)
          rw [hR1]
          show St w (OwnSl 5 1 x.oo ((rdU l e).2.1.take (rdU l e).1).length x.oc _ :: _) _
          rw [hR3]
          have h9 := hw
          rw [hi, hE] at h9
          exact h9
  · skip
    have hnear : (rdU l e).1 ≤ (rdU l e).2.1.length := by have := of_decide_eq_false h1; omega
    refine TR.skip ?_
    refine NX.seq ?_
    refine TR.seq ?_
    refine TR.region ?_
    refine RL.assign rfl rfl rfl ?_
    refine RL.nil ?_
    refine NX.seq ?_
    refine TR.seq ?_
    refine TR.seq ?_
    refine TR.region ?_
    refine RL.assign rfl rfl rfl ?_
    refine RL.nil ?_
    refine NX.seq ?_
    refine TR.block ?_
    refine TR.loopP (ι := RlX) (fun x => (x.e = 0 ∧ x.i ≤ (rdU l e).1 ∧ (rdU l e).1 ≤ (rdU l e).2.1.length ∧ (rdU l e).2.2 = 0 ∧ ((rdU l e).2.1.drop x.i).length ≤ x.c) ∨ (x.e ≠ 0 ∧ x.i = 0 ∧ rdRaw l e = ([], (rdU l e).2.1, x.e) ∧ (rdU l e).2.1.length ≤ x.c)) (fun x => [(0, .pointer (some ⟨b, 0, none⟩)), (1, (.func (.func 55) #[.pointer (some ⟨b, 0, none⟩)] #[])), (5, U (rdU l e).1), (6, .slice x.oo x.i x.oc), (7, U x.i)]) (fun x => OwnSl 5 1 x.oo x.i x.oc (bytesV ((rdU l e).2.1.take x.i)) :: Box b 78 [.slice x.oa ((rdU l e).2.1.drop x.i).length x.c, I x.e] :: M) (fun x => ArrF x.oa (bytesV ((rdU l e).2.1.drop x.i)) :: F) (fun x => (rdU l e).1 - x.i) ⟨0, none, 0, y.1.oa, y.1.c, (rdU l e).2.2⟩ (by
      rcases Int.decEq (rdU l e).2.2 0 with h | h
      · exact .inr ⟨h, rfl, rdRaw_err h, hy⟩
      · exact .inl ⟨h, Nat.zero_le _, hnear, h, hy⟩) ⟨rfl, rfl, rfl, rfl, rfl, trivial⟩ (fun w hw => OwnSl.nil_new 5 1 hw) (fun x hx => ?_)
    refine TR.seq ?_
    refine TR.seq ?_
    refine TR.region ?_
    refine RL.move rfl rfl rfl ?_
    refine RL.move rfl rfl rfl ?_
    refine RL.bin rfl rfl rfl BinV.lss rfl ?_
    refine RL.move rfl rfl rfl ?_
    refine RL.part (fun h8 => ?_) (fun h8 => ?_)
    · skip
      have hlt : x.i < (rdU l e).1 := by have := of_decide_eq_true h8; omega
      refine RL.move rfl rfl rfl ?_
      refine RL.nilCheck rfl rfl rfl ?_
      refine RL.fieldAddr rfl wc_tf78_1 rfl rfl ?_
      refine RL.load1 1 rfl wc_ts24 rfl rfl rfl rfl ?_
      refine RL.bin rfl rfl rfl BinV.eql rfl ?_
      refine RL.pickT rfl rfl rfl rfl ?_
      refine RL.nil ?_
      refine NX.seq ?_
      refine TR.cond rfl (fun h9 => ?_) (fun h9 => ?_)
      · skip
        have hxe : x.e = 0 := of_decide_eq_true h9
        have hx5 : (rdU l e).1 ≤ (rdU l e).2.1.length ∧ ((rdU l e).2.1.drop x.i).length ≤ x.c := by
          rcases hx with h | h
          · exact ⟨h.2.2.1, h.2.2.2.2⟩
          · exact absurd hxe h.1
        have hxl : x.i < (rdU l e).2.1.length := by omega
        have hdk := List.drop_eq_getElem_cons hxl
        have hcx : ((rdU l e).2.1[x.i] :: (rdU l e).2.1.drop (x.i + 1)).length ≤ x.c := by rw [← hdk]; exact hx5.2
        rw [hdk, hxe]
        have hFx : ArrF x.oa (bytesV ((rdU l e).2.1[x.i] :: (rdU l e).2.1.drop (x.i + 1))) ∈ ArrF x.oa (bytesV ((rdU l e).2.1[x.i] :: (rdU l e).2.1.drop (x.i + 1))) :: F := .head _
        refine TR.skip ?_
        refine NX.seq ?_
        refine TR.seq ?_
        refine TR.block ?_
        refine TR.region ?_
        refine RL.move rfl rfl rfl ?_
        refine RL.move rfl rfl rfl ?_
        refine RL.callV (fst := [.pointer (some ⟨b, 0, none⟩)]) (cap := []) rfl rfl rfl Tryz.call55 rfl (Ctr.frame1 [_] (nextC_spec (x := (rdU l e).2.1[x.i]) (l := (rdU l e).2.1.drop (x.i + 1)) hFx hcx)) (fun z => ?_)
        refine RL.buildSlice rfl rfl (wc_bs32_1_0 _) rfl (fun b10 => ?_)
        refine RL.ofGV rfl rfl (GV.append (j := 1) wc_tl32 wc_ni32 wc_te5 rfl rfl rfl (src_box (i := 0) rfl rfl rfl) (by omega) (by omega)) (fun v => ?_)
        refine RL.assign rfl rfl rfl ?_
        refine RL.nil ?_
        refine NX.off ?_
        refine NX.seq ?_
        refine TR.region ?_
        refine RL.move rfl rfl rfl ?_
        refine RL.bin rfl rfl rfl (BinV.addU (b := 1) (by omega)) rfl ?_
        refine RL.assign rfl rfl rfl ?_
        refine RL.nil ?_
        have ht : (rdU l e).2.1.take (x.i + 1) = (rdU l e).2.1.take x.i ++ [(rdU l e).2.1[x.i]] := List.take_succ_eq_append_getElem hxl
        refine NX.roundP ⟨x.i + 1, v.1, v.2, z.1.oa, z.1.c, 0⟩ (.inl ⟨rfl, hlt, hx5.1, ?_, z.2⟩) (by show _ - (x.i + 1) < _ - x.i; omega) ⟨rfl, rfl, rfl, rfl, rfl, trivial⟩ (fun w hw => ?_)
        · rcases hx with h | h
          · exact h.2.2.2.1
          · exact absurd hxe h.1
        · have h9 := (hw.drop 0 rfl).facts (F' := ArrF z.1.oa (bytesV ((rdU l e).2.1.drop (x.i + 1))) :: F) (fun φ h => by
            rcases List.mem_cons.1 h with e | h
            · subst e; exact .head _
            · exact .tail _ (.tail _ h))
          show St w (OwnSl 5 1 v.1 (x.i + 1) v.2 (bytesV ((rdU l e).2.1.take (x.i + 1))) :: _) _
          rw [ht, bytesV_snoc]
          exact h9
      · skip
        have hex : x.i < (rdU l e).1 → ¬ x.e = 0 := fun _ => of_decide_eq_false h9
        refine TR.exit ?_
        refine NX.exitThen ?_
        refine NX.exitThen ?_
        refine NX.exitHere ?_
        refine NX.seq ?_
        refine TR.seq ?_
        refine TR.seq ?_
        refine TR.region ?_
        refine RL.move rfl rfl rfl ?_
        refine RL.nilCheck rfl rfl rfl ?_
        refine RL.fieldAddr rfl wc_tf78_1 rfl rfl ?_
        refine RL.load1 1 rfl wc_ts24 rfl rfl rfl rfl ?_
        refine RL.bin rfl rfl rfl BinV.neq rfl ?_
        refine RL.nil ?_
        refine NX.seq ?_
        refine TR.cond rfl (fun h12 => ?_) (fun h12 => ?_)
        · skip
          have h41 := h12
          refine TR.seq ?_
          refine TR.region ?_
          refine RL.assign rfl rfl rfl ?_
          refine RL.nil ?_
          refine NX.seq ?_
          refine TR.ret ?_
          refine NX.retThen ?_
          have hE : x.e ≠ 0 := of_decide_eq_true h41
          have hR : rdRaw l e = ([], (rdU l e).2.1, x.e) ∧ (rdU l e).2.1.length ≤ x.c ∧ x.i = 0 := by
            rcases hx with h | h
            · exact absurd h.1 hE
            · exact ⟨h.2.2.1, h.2.2.2, h.2.1⟩
          refine NX.ret1x rfl rfl (fun w hw => ⟨⟨⟨none, 0, x.oa, x.c⟩, by rw [hR.1]; exact hR.2.1⟩, by show Value.slice none 0 0 = Value.slice none (rdRaw l e).1.length 0; rw [hR.1]; rfl, ?_⟩)
          show St w (OwnSl 5 1 none (rdRaw l e).1.length 0 (bytesV (rdRaw l e).1) :: Box b 78 [.slice x.oa (rdRaw l e).2.1.length x.c, I (rdRaw l e).2.2] :: M) (ArrF x.oa (bytesV (rdRaw l e).2.1) :: F)
          rw [hR.1]
          have h9 := hw.drop 0 rfl
          rw [hR.2.2] at h9
          exact OwnSl.nil_new 5 1 h9
        · skip
          have h41 := h12
          refine TR.skip ?_
          refine NX.seq ?_
          refine TR.seq ?_
          refine TR.region ?_
          refine RL.move rfl rfl rfl ?_
          refine RL.assign rfl rfl rfl ?_
          refine RL.nil ?_
          refine NX.seq ?_
          refine TR.ret ?_
          have hE : x.e = 0 := by have := of_decide_eq_false h41; omega
          have hR : x.i = (rdU l e).1 ∧ rdRaw l e = ((rdU l e).2.1.take (rdU l e).1, (rdU l e).2.1.drop (rdU l e).1, 0) ∧ ((rdU l e).2.1.drop (rdU l e).1).length ≤ x.c ∧ ((rdU l e).2.1.take (rdU l e).1).length = (rdU l e).1 := by
            rcases hx with h | h
            · have hi : x.i = (rdU l e).1 := by
                have h8 := h.2.1
                rcases Nat.lt_or_ge x.i (rdU l e).1 with h7 | h7
                · exact absurd hE (hex h7)
                · omega
              refine ⟨hi, rdRaw_ok h.2.2.2.1 h.2.2.1, by rw [← hi]; exact h.2.2.2.2, by rw [List.length_take]; omega⟩
            · exact absurd hE h.1
          obtain ⟨hi, hR1, hR2, hR3⟩ := hR
          refine NX.ret1x rfl rfl (fun w hw => ⟨⟨⟨x.oo, x.oc, x.oa, x.c⟩, ?_⟩, ?_, ?_⟩)
          · rw [hR1]; exact hR2
          · show Value.slice x.oo x.i x.oc = Value.slice x.oo (rdRaw l e).1.length x.oc; rw [hR1]; show Value.slice x.oo x.i x.oc = Value.slice x.oo ((rdU l e).2.1.take (rdU l e).1).length x.oc; rw [hR3, hi]
          · show St w (OwnSl 5 1 x.oo (rdRaw l e).1.length x.oc (bytesV (rdRaw l e).1) :: Box b 78 [.slice x.oa (rdRaw l e).2.1.length x.c, I (rdRaw l e).2.2] :: M) (ArrF x.oa (bytesV (rdRaw l e).2.1) :: F)
            rw [hR1]
            show St w (OwnSl 5 1 x.oo ((rdU l e).2.1.take (rdU l e).1).length x.oc _ :: _) _
            rw [hR3]
            have h9 := hw
            rw [hi, hE] at h9
            exact h9
    · skip
      have hge : ¬ x.i < (rdU l e).1 := by have := of_decide_eq_false h8; omega
      have hex : x.i < (rdU l e).1 → ¬ x.e = 0 := fun h => absurd h hge
      refine RL.skip rfl rfl rfl ?_
      refine RL.skip rfl rfl rfl ?_
      refine RL.skip rfl rfl rfl ?_
      refine RL.skip rfl rfl rfl ?_
      refine RL.skip rfl rfl rfl ?_
      refine RL.pickF rfl rfl rfl rfl ?_
      refine RL.nil ?_
      refine NX.seq ?_
      refine TR.condF rfl ?_
      refine TR.exit ?_
      refine NX.exitThen ?_
      refine NX.exitThen ?_
      refine NX.exitHere ?_
      refine NX.seq ?_
      refine TR.seq ?_
      refine TR.seq ?_
      refine TR.region ?_
      refine RL.move rfl rfl rfl ?_
      refine RL.nilCheck rfl rfl rfl ?_
      refine RL.fieldAddr rfl wc_tf78_1 rfl rfl ?_
      refine RL.load1 1 rfl wc_ts24 rfl rfl rfl rfl ?_
      refine RL.bin rfl rfl rfl BinV.neq rfl ?_
      refine RL.nil ?_
      refine NX.seq ?_
      refine TR.cond rfl (fun h13 => ?_) (fun h13 => ?_)
      · skip
        have h41 := h13
        refine TR.seq ?_
        refine TR.region ?_
        refine RL.assign rfl rfl rfl ?_
        refine RL.nil ?_
        refine NX.seq ?_
        refine TR.ret ?_
        refine NX.retThen ?_
        have hE : x.e ≠ 0 := of_decide_eq_true h41
        have hR : rdRaw l e = ([], (rdU l e).2.1, x.e) ∧ (rdU l e).2.1.length ≤ x.c ∧ x.i = 0 := by
          rcases hx with h | h
          · exact absurd h.1 hE
          · exact ⟨h.2.2.1, h.2.2.2, h.2.1⟩
        refine NX.ret1x rfl rfl (fun w hw => ⟨⟨⟨none, 0, x.oa, x.c⟩, by rw [hR.1]; exact hR.2.1⟩, by show Value.slice none 0 0 = Value.slice none (rdRaw l e).1.length 0; rw [hR.1]; rfl, ?_⟩)
        show St w (OwnSl 5 1 none (rdRaw l e).1.length 0 (bytesV (rdRaw l e).1) :: Box b 78 [.slice x.oa (rdRaw l e).2.1.length x.c, I (rdRaw l e).2.2] :: M) (ArrF x.oa (bytesV (rdRaw l e).2.1) :: F)
        rw [hR.1]
        have h9 := hw.drop 0 rfl
        rw [hR.2.2] at h9
        exact OwnSl.nil_new 5 1 h9
      · skip
        have h41 := h13
        refine TR.skip ?_
        refine NX.seq ?_
        refine TR.seq ?_
        refine TR.region ?_
        refine RL.move rfl rfl rfl ?_
        refine RL.assign rfl rfl rfl ?_
        refine RL.nil ?_
        refine NX.seq ?_
        refine TR.ret ?_
        have hE : x.e = 0 := by have := of_decide_eq_false h41; omega
        have hR : x.i = (rdU l e).1 ∧ rdRaw l e = ((rdU l e).2.1.take (rdU l e).1, (rdU l e).2.1.drop (rdU l e).1, 0) ∧ ((rdU l e).2.1.drop (rdU l e).1).length ≤ x.c ∧ ((rdU l e).2.1.take (rdU l e).1).length = (rdU l e).1 := by
          rcases hx with h | h
          · have hi : x.i = (rdU l e).1 := by
              have h8 := h.2.1
              rcases Nat.lt_or_ge x.i (rdU l e).1 with h7 | h7
              · exact absurd hE (hex h7)
              · omega
            refine ⟨hi, rdRaw_ok h.2.2.2.1 h.2.2.1, by rw [← hi]; exact h.2.2.2.2, by rw [List.length_take]; omega⟩
          · exact absurd hE h.1
        obtain ⟨hi, hR1, hR2, hR3⟩ := hR
        refine NX.ret1x rfl rfl (fun w hw => ⟨⟨⟨x.oo, x.oc, x.oa, x.c⟩, ?_⟩, ?_, ?_⟩)
        · rw [hR1]; exact hR2
        · show Value.slice x.oo x.i x.oc = Value.slice x.oo (rdRaw l e).1.length x.oc; rw [hR1]; show Value.slice x.oo x.i x.oc = Value.slice x.oo ((rdU l e).2.1.take (rdU l e).1).length x.oc; rw [hR3, hi]
        · show St w (OwnSl 5 1 x.oo (rdRaw l e).1.length x.oc (bytesV (rdRaw l e).1) :: Box b 78 [.slice x.oa (rdRaw l e).2.1.length x.c, I (rdRaw l e).2.2] :: M) (ArrF x.oa (bytesV (rdRaw l e).2.1) :: F)
          rw [hR1]
          show St w (OwnSl 5 1 x.oo ((rdU l e).2.1.take (rdU l e).1).length x.oc _ :: _) _
          rw [hR3]
          have h9 := hw
          rw [hi, hE] at h9
          exact h9
theorem rRaw_spec {b : Nat} {l : List UInt8} {oa : Option Addr} {c : Nat} {e : Int} {M : List HP} {F : List Fact} (ha : ArrF oa (bytesV l) ∈ F) (hc : l.length ≤ c) (hl : l.length ≤ 70368744177664) : Ctr Tryz.prog 37 [.pointer (some ⟨b, 0, none⟩)] (Box b 78 [.slice oa l.length c, I e] :: M) F {z : RwX // (rdRaw l e).2.1.length ≤ z.c} (fun z => .slice z.1.ro (rdRaw l e).1.length z.1.rc) (fun z => OwnSl 5 1 z.1.ro (rdRaw l e).1.length z.1.rc (bytesV (rdRaw l e).1) :: Box b 78 [.slice z.1.oa (rdRaw l e).2.1.length z.1.c, I (rdRaw l e).2.2] :: M) (fun z => ArrF z.1.oa (bytesV (rdRaw l e).2.1) :: F) := by
  refine Ctr.body Tryz.func37 rfl rfl ?_
  refine TR.seq ?_
  refine TR.region ?_
  refine RL.assign rfl rfl rfl ?_
  refine RL.nil ?_
  refine NX.seq ?_
  refine TR.seq ?_
  refine TR.region ?_
  refine RL.move rfl rfl rfl ?_
  refine RL.move rfl rfl rfl ?_
  refine RL.makeFunc rfl rfl rfl rfl ?_
  refine RL.call rfl rfl Tryz.call54 rfl (rList_spec ha hc hl) (fun z => ?_)
  refine RL.assign rfl rfl rfl ?_
  refine RL.nil ?_
  refine NX.seq ?_
  refine TR.ret ?_
  exact NX.ret1 z rfl rfl rfl (fun w hw => hw)
end Go.Proofs.YtdnjoffkanjjhaaGreatDoor

namespace Go.GL
set_option linter.unusedVariables false
section
variable {P : Program} {r : Option Nat} {N : Nat} {ops : Array Oper} {rest : List Oper} {Q : Exit → Act → World → Prop} {E : Env} {ds : List Deferred} {M : List HP} {F : List Fact}
end
end Go.GL

namespace Go.GL
set_option linter.unusedVariables false
theorem frameJ_pos (i : Int) (x : List UInt8) : 0 < (frameJ i x).length := by
  have := encU_pos (hashN jl (coreJ i x))
  unfold frameJ
  rw [List.length_append]; omega
def framesJ : Nat → List (List UInt8) → List UInt8
  | _, [] => []
  | i, x :: xs => frameJ (i : Int) x ++ framesJ (i + 1) xs
theorem framesJ_append : ∀ (xs ys : List (List UInt8)) (i : Nat), framesJ i (xs ++ ys) = framesJ i xs ++ framesJ (i + xs.length) ys
  | [], ys, i => by simp [framesJ]
  | x :: xs, ys, i => by
    rw [List.cons_append, framesJ, framesJ, framesJ_append xs ys, List.length_cons, List.append_assoc, show i + 1 + xs.length = i + (xs.length + 1) from by omega]
theorem framesJ_snoc (xs : List (List UInt8)) (x : List UInt8) (i : Nat) : framesJ i (xs ++ [x]) = framesJ i xs ++ frameJ ((i + xs.length : Nat) : Int) x := by
  rw [framesJ_append, framesJ, framesJ, List.append_nil]
theorem tk_step {α : Type} {xs ys : List α} {k : Nat} (h : xs.take k = ys.take k) (h1 : k < xs.length) (h2 : k < ys.length) (e : xs[k] = ys[k]) : xs.take (k + 1) = ys.take (k + 1) := by
  rw [List.take_succ_eq_append_getElem h1, List.take_succ_eq_append_getElem h2, h, e]
theorem tk_ne {α : Type} {xs ys : List α} {k : Nat} (h1 : k < xs.length) (h2 : k < ys.length) (h : xs[k] ≠ ys[k]) : xs ≠ ys := fun e => by subst e; exact h rfl
theorem tk_all {α : Type} {xs ys : List α} {k : Nat} (h : xs.take k = ys.take k) (hk : ¬ k < xs.length) (hl : xs.length = ys.length) : xs = ys := by
  rw [List.take_of_length_le (by omega), List.take_of_length_le (by omega)] at h; exact h
theorem byte_ne {u v : UInt8} (h : (u.toNat : Int) ≠ (v.toNat : Int)) : u ≠ v := fun e => h (by rw [e])
theorem byte_inj {u v : UInt8} (h : (u.toNat : Int) = (v.toNat : Int)) : u = v := UInt8.toNat_inj.1 (by omega)
def okJ (i : Nat) (b : List UInt8) : Prop := frameJ (i : Int) (recOf b) <+: b
instance (i : Nat) (b : List UInt8) : Decidable (okJ i b) := by unfold okJ; infer_instance
section
variable {P : Program} {r : Option Nat} {N : Nat} {ops : Array Oper} {rest : List Oper} {Q : Exit → Act → World → Prop} {E : Env} {ds : List Deferred} {M : List HP} {F : List Fact}
variable {d : Nat} {ty : TypeId} {pos : String} {aft : Array Edge} {gd : Option (Nat × Bool)}
theorem RL.sliceToU {T e : TypeId} {x : Operand} {o : Operand} {oa : Option Addr} {n cap size h : Nat} {ik : IntKind} (hg : wantedG ops E gd = some true) (ht : tySlice P T e = true) (hz : tySize P e size = true) (hx : evalO E x = some (.slice oa n cap))
    (ho : evalO E o = some (.int ik (h : Int))) (h2 : h ≤ cap) (hN : Nat.ble (d + 1) N = true) (k : RL P r N ops rest Q ((d, .slice (cutA oa 0 cap size) h cap) :: E) ds M F) : RL P r N ops (⟨some d, .slice T x none (some o) none, ty, pos, aft, gd⟩ :: rest) Q E ds M F :=
  RL.val rfl hg hN (fun ρ hρ w _ => by
    simp [execOp, hρ _ _ hx, hρ _ _ ho, Instr.sliceAt, Instr.slice, Instr.sliceBounds, Instr.sliceBound, asIntOf, run_underlying (run_tySlice ht), run_sizeOf' hz, h2, cutA]) k
theorem RL.sliceFromB {T e : TypeId} {x o : Operand} {oa : Option Addr} {cap k : Nat} {ik : IntKind} {l : List UInt8} (hg : wantedG ops E gd = some true) (ht : tySlice P T e = true) (hz : tySize P e 1 = true) (hx : evalO E x = some (.slice oa l.length cap))
    (ho : evalO E o = some (.int ik (k : Int))) (hk : k ≤ l.length) (hc : l.length ≤ cap) (hF : ArrF oa (bytesV l) ∈ F) (hN : Nat.ble (d + 1) N = true) (kk : RL P r N ops rest Q ((d, .slice (cutA oa k cap 1) (l.drop k).length (cap - k)) :: E) ds M (ArrF (cutA oa k cap 1) (bytesV (l.drop k)) :: F)) : RL P r N ops (⟨some d, .slice T x (some o) none none, ty, pos, aft, gd⟩ :: rest) Q E ds M F := by
  refine RL.weak (fun w hw => hw.cutB k hk hc hF) ?_
  refine RL.val rfl hg hN (fun ρ hρ w _ => ?_) kk
  have h4 : ¬ l.length < k := by omega
  rw [List.length_drop]
  simp [execOp, hρ _ _ hx, hρ _ _ ho, Instr.sliceAt, Instr.slice, Instr.sliceBounds, Instr.sliceBound, asIntOf, run_underlying (run_tySlice ht), run_sizeOf' hz, hk, cutA]
theorem RL.sliceToB {T e : TypeId} {x o : Operand} {oa : Option Addr} {cap k : Nat} {v : Int} {ik : IntKind} {l : List UInt8} (hg : wantedG ops E gd = some true) (ht : tySlice P T e = true) (hz : tySize P e 1 = true) (hx : evalO E x = some (.slice oa l.length cap))
    (ho : evalO E o = some (.int ik v)) (hv : v = ((l.take k).length : Int)) (hc : l.length ≤ cap) (hF : ArrF oa (bytesV l) ∈ F) (hN : Nat.ble (d + 1) N = true) (kk : RL P r N ops rest Q ((d, .slice (cutA oa 0 cap 1) (l.take k).length cap) :: E) ds M (ArrF (cutA oa 0 cap 1) (bytesV (l.take k)) :: F)) : RL P r N ops (⟨some d, .slice T x none (some o) none, ty, pos, aft, gd⟩ :: rest) Q E ds M F := by
  subst hv
  refine RL.weak (fun w hw => hw.cutT k hc hF) ?_
  exact RL.sliceToU hg ht hz hx ho (by rw [List.length_take]; omega) hN kk
end
end Go.GL

namespace Go.Proofs.YtdnjoffkanjjhaaGreatDoor
open Go.GL
set_option linter.unusedVariables false
theorem wf_tl32 : tySlice Tryz.prog 32 5 = true := by kernel_rfl
theorem wf_ts5 : tyScalar Tryz.prog 5 = true := by kernel_rfl
theorem wf_tz5 : tySize Tryz.prog 5 1 = true := by kernel_rfl
def IntsOk (xs : List Int) : Prop := xs.length ≤ 9223372036854775807 ∧ ∀ x, x ∈ xs → -9223372036854775808 ≤ x ∧ x ≤ 9223372036854775807
theorem sameB_spec {xs ys : List UInt8} {oa ob : Option Addr} {ca cb : Nat} {M : List HP} {F : List Fact} (ha : ArrF oa (bytesV xs) ∈ F) (hb : ArrF ob (bytesV ys) ∈ F) (hxl : xs.length ≤ 4611686018427387904) : Ctr Tryz.prog 42 [.slice oa xs.length ca, .slice ob ys.length cb] M F Unit (fun _ => .bool (decide (xs = ys))) (fun _ => M) (fun _ => F) := by
  refine Ctr.body Tryz.func42 rfl rfl ?_
  refine TR.seq ?_
  refine TR.region ?_
  refine RL.assign rfl rfl rfl ?_
  refine RL.nil ?_
  refine NX.seq ?_
  refine TR.seq ?_
  refine TR.seq ?_
  refine TR.region ?_
  refine RL.move rfl rfl rfl ?_
  refine RL.lenSlice rfl wf_tl32 rfl rfl ?_
  refine RL.move rfl rfl rfl ?_
  refine RL.lenSlice rfl wf_tl32 rfl rfl ?_
  refine RL.bin rfl rfl rfl BinV.neq rfl ?_
  refine RL.nil ?_
  refine NX.seq ?_
  refine TR.cond rfl (fun h1 => ?_) (fun h1 => ?_)
  · skip
    have hlen : ¬ xs.length = ys.length := by have := of_decide_eq_true h1; omega
    refine TR.seq ?_
    refine TR.region ?_
    refine RL.assign rfl rfl rfl ?_
    refine RL.nil ?_
    refine NX.seq ?_
    refine TR.ret ?_
    refine NX.retThen ?_
    refine NX.ret1 () rfl rfl (congrArg Value.bool (Eq.symm (decide_eq_false (fun e => hlen (congrArg _ e))))) (fun w hw => hw)
  · skip
    have hlen : xs.length = ys.length := by have := of_decide_eq_false h1; omega
    refine TR.skip ?_
    refine NX.seq ?_
    refine TR.seq ?_
    refine TR.seq ?_
    refine TR.region ?_
    refine RL.assign rfl rfl rfl ?_
    refine RL.nil ?_
    refine NX.seq ?_
    refine TR.block ?_
    refine TR.loopP (ι := Nat) (fun k => k ≤ xs.length ∧ xs.take k = ys.take k) (fun k => [(0, .slice oa xs.length ca), (1, .slice ob ys.length cb), (5, I k)]) (fun _ => M) (fun _ => F) (fun k => xs.length - k) 0 ⟨Nat.zero_le _, rfl⟩ ⟨rfl, rfl, rfl, trivial⟩ (fun w hw => hw) (fun k hk => ?_)
    refine TR.seq ?_
    refine TR.seq ?_
    refine TR.region ?_
    refine RL.move rfl rfl rfl ?_
    refine RL.move rfl rfl rfl ?_
    refine RL.lenSlice rfl wf_tl32 rfl rfl ?_
    refine RL.bin rfl rfl rfl BinV.lss rfl ?_
    refine RL.nil ?_
    refine NX.seq ?_
    refine TR.cond rfl (fun h2 => ?_) (fun h2 => ?_)
    · skip
      have hk1 : k < xs.length := by simpa using h2
      have hk2 : k < ys.length := by omega
      refine TR.openP (open_arr ha (bytesV_ne hk1)) (fun x hx => ?_)
      refine TR.openP (open_arr (.tail _ hb) (bytesV_ne hk2)) (fun y hy => ?_)
      subst hx hy
      refine TR.skip ?_
      refine NX.seq ?_
      refine TR.seq ?_
      refine TR.block ?_
      refine TR.seq ?_
      refine TR.sub (E' := [(0, _), (1, _), (5, _), (11, _), (12, _), (13, _), (14, _)]) ⟨rfl, rfl, rfl, rfl, rfl, rfl, rfl, trivial⟩ ?_
      refine TR.draw mixed ?_
      apply AR.more [(0, _), (1, _), (2, _), (3, _), (4, _), (5, _), (6, _), (7, _), (8, _)]
      refine AR.last [0, 1, 2, 3, 4, 5, 6, 7, 8] [0, 1, 2, 3, 4, 5, 6, 7, 8] ⟨QOne.yes rfl rfl rfl (PV.move rfl), QOne.yes rfl rfl rfl (PV.move rfl), QOne.yes rfl rfl rfl (PV.indexAddr wf_tl32 wf_tz5 rfl rfl (by omega) (by omega)), QOne.yes rfl rfl rfl (PV.loadF rfl (fun w K hF => run_loadCell1 (j := (k : Int).toNat * 1) (v := .int .u8 (xs[k].toNat : Int)) (hF _ (.tail _ (.head _))) wf_ts5 (bytesV_get hk1))), QOne.yes rfl rfl rfl (PV.move rfl), QOne.yes rfl rfl rfl (PV.move rfl), QOne.yes rfl rfl rfl (PV.indexAddr wf_tl32 wf_tz5 rfl rfl (by omega) (by omega)), QOne.yes rfl rfl rfl (PV.loadF rfl (fun w K hF => run_loadCell1 (j := (k : Int).toNat * 1) (v := .int .u8 (ys[k].toNat : Int)) (hF _ (.head _)) wf_ts5 (bytesV_get hk2))), QOne.yes rfl rfl rfl (PV.bin rfl rfl BinV.neq), trivial⟩ rfl rfl rfl ?_
      refine NX.sub (E' := [(0, _), (1, _), (5, _), (11, _), (12, _), (13, _), (14, _), (17, _), (18, _), (19, _), (20, _), (21, _), (22, _), (23, _), (24, _), (25, _)]) ⟨rfl, rfl, rfl, rfl, rfl, rfl, rfl, rfl, rfl, rfl, rfl, rfl, rfl, rfl, rfl, rfl, trivial⟩ ?_
      refine NX.seq ?_
      refine TR.cond rfl (fun h3 => ?_) (fun h3 => ?_)
      · skip
        refine TR.seq ?_
        refine TR.region ?_
        refine RL.assign rfl rfl rfl ?_
        refine RL.nil ?_
        refine NX.seq ?_
        refine TR.ret ?_
        refine NX.retBlock ?_
        refine NX.retThen ?_
        refine NX.retThen ?_
        refine NX.retBlock ?_
        refine NX.retThen ?_
        refine NX.ret1 () rfl rfl (congrArg Value.bool (Eq.symm (decide_eq_false (tk_ne hk1 hk2 (byte_ne (by simpa using h3)))))) (fun w hw => ?_)
        exact hw.facts (fun φ h => .tail _ (.tail _ (h)))
      · skip
        refine TR.skip ?_
        refine NX.off ?_
        refine NX.seq ?_
        refine TR.region ?_
        refine RL.move rfl rfl rfl ?_
        refine RL.bin rfl rfl rfl (BinV.add _ rfl (by omega) (by omega)) rfl ?_
        refine RL.assign rfl rfl rfl ?_
        refine RL.nil ?_
        refine NX.roundP (k + 1) ⟨by omega, tk_step hk.2 hk1 hk2 (byte_inj (by simpa using h3))⟩ (by omega) ⟨rfl, rfl, rfl, trivial⟩ (fun w hw => ?_)
        exact hw.facts (fun φ h => .tail _ (.tail _ (h)))
    · skip
      refine TR.exit ?_
      refine NX.exitThen ?_
      refine NX.exitThen ?_
      refine NX.exitHere ?_
      refine NX.seq ?_
      refine TR.seq ?_
      refine TR.region ?_
      refine RL.assign rfl rfl rfl ?_
      refine RL.nil ?_
      refine NX.seq ?_
      refine TR.ret ?_
      refine NX.ret1 () rfl rfl (congrArg Value.bool (Eq.symm (decide_eq_true (tk_all hk.2 (by simpa using h2) hlen)))) (fun w hw => hw)
theorem around_spec {n m : Int} {M : List HP} {F : List Fact} (hm : 0 < m) (h0 : -9223372036854775808 ≤ n) (h1 : n ≤ 9223372036854775807) : Ctr Tryz.prog 11 [I n, I m] M F {r : Int // 0 ≤ r ∧ r < m} (fun r => I r.1) (fun _ => M) (fun _ => F) := by
  refine Ctr.body Tryz.func11 rfl rfl ?_
  refine TR.seq ?_
  refine TR.region ?_
  refine RL.assign rfl rfl rfl ?_
  refine RL.nil ?_
  refine NX.seq ?_
  refine TR.seq ?_
  refine TR.seq ?_
  refine TR.region ?_
  refine RL.move rfl rfl rfl ?_
  refine RL.bin rfl rfl rfl BinV.lss rfl ?_
  refine RL.nil ?_
  refine NX.seq ?_
  refine TR.cond rfl (fun h1 => ?_) (fun h1 => ?_)
  · skip
    have hn := of_decide_eq_true h1
    refine TR.region ?_
    refine RL.move rfl rfl rfl ?_
    refine RL.bin rfl rfl rfl (BinV.add _ rfl (by omega) (by omega)) rfl ?_
    refine RL.neg rfl rfl (by omega) (by omega) rfl ?_
    refine RL.assign rfl rfl rfl ?_
    refine RL.nil ?_
    refine NX.seq ?_
    refine TR.seq ?_
    refine TR.region ?_
    refine RL.move rfl rfl rfl ?_
    refine RL.move rfl rfl rfl ?_
    refine RL.bin rfl rfl rfl (BinV.rem (by omega)) rfl ?_
    refine RL.assign rfl rfl rfl ?_
    refine RL.nil ?_
    refine NX.seq ?_
    refine TR.ret ?_
    refine NX.ret1 ⟨_, ?_, ?_⟩ rfl rfl rfl (fun w hw => hw)
    · exact Int.tmod_nonneg _ (by omega)
    · exact Int.tmod_lt_of_pos _ (by omega)
  · skip
    have hn := of_decide_eq_false h1
    refine TR.skip ?_
    refine NX.seq ?_
    refine TR.seq ?_
    refine TR.region ?_
    refine RL.move rfl rfl rfl ?_
    refine RL.move rfl rfl rfl ?_
    refine RL.bin rfl rfl rfl (BinV.rem (by omega)) rfl ?_
    refine RL.assign rfl rfl rfl ?_
    refine RL.nil ?_
    refine NX.seq ?_
    refine TR.ret ?_
    refine NX.ret1 ⟨_, ?_, ?_⟩ rfl rfl rfl (fun w hw => hw)
    · exact Int.tmod_nonneg _ (by omega)
    · exact Int.tmod_lt_of_pos _ (by omega)
end Go.Proofs.YtdnjoffkanjjhaaGreatDoor

namespace Go.GL
set_option linter.unusedVariables false
open Go.ChangeShapes Go.WideShapes Go.ChangeAt Go.RowKit
theorem ArrAt.pre {w : World} {K : List Nat} {oa : Option Addr} {xs ys : List Value} (h : ArrAt w K oa (xs ++ ys)) : ArrAt w K oa xs := by
  rcases h with h | ⟨b, off, e, h1, h2, h3⟩
  · exact .inl (List.append_eq_nil_iff.1 h).1
  · exact .inr ⟨b, off, e, h1, h2, fun j v hv => h3 j v (by rw [List.getElem?_append_left (List.getElem?_eq_some_iff.1 hv).1]; exact hv)⟩
section
variable {P : Program} {r : Option Nat} {N : Nat} {ops : Array Oper} {rest : List Oper} {Q : Exit → Act → World → Prop} {E : Env} {ds : List Deferred} {M : List HP} {F : List Fact}
variable {d : Nat} {ty : TypeId} {pos : String} {aft : Array Edge} {gd : Option (Nat × Bool)}
end
section
variable {H : Type} {enc : TypeId × Value → H} {P : Program} {w : World}
end
end Go.GL

namespace Go.GL
set_option linter.unusedVariables false
theorem St.boxBytes {w : World} {M : List HP} {F : List Fact} {b t : Nat} {cs : List Value} (l : List UInt8) (e : cs = bytesV l) (h : St w (Box b t cs :: M) F) : St w M (ArrF (some ⟨b, 0, none⟩) (bytesV l) :: F) := by subst e; exact h.boxArr
theorem Ctr.boolT {P : Program} {f : FuncId} {args : List Value} {M : List HP} {F : List Fact} {ι : Type} {b : Bool} {M' : ι → List HP} {F' : ι → List Fact} (e : b = true) (h : Ctr P f args M F ι (fun _ => .bool b) M' F') : Ctr P f args M F ι (fun _ => .bool true) M' F' := by subst e; exact h
end Go.GL

namespace Go.GL
set_option linter.unusedVariables false
section
variable {P : Program} {r : Option Nat} {N : Nat} {ops : Array Oper} {rest : List Oper} {Q : Exit → Act → World → Prop} {E : Env} {ds : List Deferred} {M : List HP} {F : List Fact}
variable {d : Nat} {ty : TypeId} {pos : String} {aft : Array Edge} {gd : Option (Nat × Bool)}
end
end Go.GL

namespace Go.GL
set_option linter.unusedVariables false
end Go.GL

namespace Go.GL
open Go.ChangeMaps (setBlock)
open Go.Maps (Keyed)
set_option linter.unusedVariables false
abbrev KV := List (Int × Value)
def tyMap (P : Program) (t k e : TypeId) : Bool := match P.underlying t, P.underlying k with | some (.map k' e'), some (.int .i64) => decide (k' = k ∧ e' = e) | _, _ => false
theorem tyMap_is {P : Program} {t k e : TypeId} (h : tyMap P t k e = true) : P.underlying t = some (.map k e) ∧ P.underlying k = some (.int .i64) := by
  unfold tyMap at h
  split at h
  · rename_i k' e' h1 h2
    have := of_decide_eq_true h
    obtain ⟨rfl, rfl⟩ := this
    exact ⟨h1, h2⟩
  · cases h
theorem tyMap_keyed {P : Program} {t k e : TypeId} (h : tyMap P t k e = true) : Keyed P k := Maps.int_keyed (tyMap_is h).2
def I64 (n : Int) : Prop := -9223372036854775808 ≤ n ∧ n ≤ 9223372036854775807
theorem i64_wf {n : Int} (h : I64 n) : (Lit.int .i64 n).wf = true := by
  simp [Lit.wf, IntKind.min, IntKind.max, IntKind.signed, IntKind.bits]
  exact ⟨h.1, h.2⟩
def kvGet : KV → Int → Option Value
  | [], _ => none
  | p :: l, k => if p.1 = k then some p.2 else kvGet l k
def kvSet : KV → Int → Value → KV
  | [], k, v => [(k, v)]
  | p :: l, k, v => if p.1 = k then (k, v) :: l else p :: kvSet l k v
def kvDel : KV → Int → KV
  | [], _ => []
  | p :: l, k => if p.1 = k then l else p :: kvDel l k
theorem kvGet_none : ∀ {l : KV} {k : Int}, (∀ p, p ∈ l → p.1 ≠ k) → kvGet l k = none
  | [], _, _ => rfl
  | p :: l, k, h => by rw [kvGet, if_neg (h p (.head _))]; exact kvGet_none fun q hq => h q (.tail _ hq)
theorem kvSet_new : ∀ {l : KV} {k : Int} {v : Value}, (∀ p, p ∈ l → p.1 ≠ k) → kvSet l k v = l ++ [(k, v)]
  | [], _, _, _ => rfl
  | p :: l, k, v, h => by rw [kvSet, if_neg (h p (.head _)), kvSet_new fun q hq => h q (.tail _ hq)]; rfl
theorem kvDel_none : ∀ {l : KV} {k : Int}, (∀ p, p ∈ l → p.1 ≠ k) → kvDel l k = l
  | [], _, _ => rfl
  | p :: l, k, h => by rw [kvDel, if_neg (h p (.head _)), kvDel_none fun q hq => h q (.tail _ hq)]
theorem kv_at : ∀ {l : KV} {k : Int} {j : Nat} {v0 : Value}, (l.map Prod.fst).Nodup → l[j]? = some (k, v0) → kvGet l k = some v0 ∧ (∀ v, kvSet l k v = l.set j (k, v)) ∧ kvDel l k = l.eraseIdx j
  | [], _, _, _, _, h => by simp at h
  | p :: l, k, 0, v0, _, h => by
    simp at h; subst h
    exact ⟨by rw [kvGet, if_pos rfl], fun v => by rw [kvSet, if_pos rfl]; rfl, by rw [kvDel, if_pos rfl]; rfl⟩
  | p :: l, k, j + 1, v0, hn, h => by
    have h1 : l[j]? = some (k, v0) := by simpa using h
    rw [List.map_cons, List.nodup_cons] at hn
    have hne : p.1 ≠ k := fun e => hn.1 (e ▸ List.mem_map_of_mem (f := Prod.fst) (List.mem_of_getElem? h1))
    obtain ⟨a, b, c⟩ := kv_at hn.2 h1
    exact ⟨by rw [kvGet, if_neg hne, a], fun v => by rw [kvSet, if_neg hne, b]; rfl, by rw [kvDel, if_neg hne, c]; rfl⟩
structure MpOk (es : Array MapEntry) (clock : Nat) (kvs : KV) : Prop where
  kv : es.toList.map (fun e => (e.key, e.val)) = kvs.map fun p => (Value.int .i64 p.1, p.2)
  keys : (kvs.map Prod.fst).Nodup
  fits : ∀ p, p ∈ kvs → I64 p.1
  born : (es.toList.map (·.born)).Nodup
  past : ∀ e, e ∈ es.toList → e.born < clock
def MpB (b : Nat) (kvs : KV) : HP := Ex (ι := {z : Array MapEntry × Nat // MpOk z.1 z.2 kvs}) fun z => [Pts b (.map z.1.1 z.1.2)]
theorem MpOk.len {es : Array MapEntry} {clock : Nat} {kvs : KV} (h : MpOk es clock kvs) : es.size = kvs.length := by
  have := congrArg List.length h.kv
  simpa using this
theorem MpOk.at {es : Array MapEntry} {clock : Nat} {kvs : KV} (h : MpOk es clock kvs) {j : Nat} {e : MapEntry} (he : es.toList[j]? = some e) : ∃ n, e.key = .int .i64 n ∧ kvs[j]? = some (n, e.val) := by
  have h1 := congrArg (fun l : List (Value × Value) => l[j]?) h.kv
  simp only [List.getElem?_map, he, Option.map_some] at h1
  cases hk : kvs[j]? with
  | none => rw [hk] at h1; cases h1
  | some p =>
    rw [hk] at h1
    simp only [Option.map_some, Option.some.injEq, Prod.mk.injEq] at h1
    exact ⟨p.1, h1.1, by rw [h1.2]⟩
theorem MpOk.back {es : Array MapEntry} {clock : Nat} {kvs : KV} (h : MpOk es clock kvs) {p : Int × Value} (hp : p ∈ kvs) : ∃ e, e ∈ es.toList ∧ e.key = .int .i64 p.1 ∧ e.val = p.2 := by
  have h1 : (Value.int .i64 p.1, p.2) ∈ es.toList.map (fun e => (e.key, e.val)) := by rw [h.kv]; exact List.mem_map_of_mem (f := fun p : Int × Value => (Value.int .i64 p.1, p.2)) hp
  obtain ⟨e, he, h2⟩ := List.mem_map.1 h1
  simp only [Prod.mk.injEq] at h2
  exact ⟨e, he, h2.1, h2.2⟩
theorem MpOk.find {P : Program} {w : World} {t k e : TypeId} {es : Array MapEntry} {clock : Nat} {kvs : KV} (h : MpOk es clock kvs) (ht : tyMap P t k e = true) {n : Int} (hn : I64 n) :
    ((Instr.findKey k (.int .i64 n) es.toList).run P w = .ok none w ∧ ∀ p, p ∈ kvs → p.1 ≠ n) ∨ ∃ j e0, (Instr.findKey k (.int .i64 n) es.toList).run P w = .ok (some (j, e0.val)) w ∧ es.toList[j]? = some e0 ∧ e0.key = .int .i64 n ∧ kvs[j]? = some (n, e0.val) := by
  obtain ⟨hm, hk⟩ := tyMap_is ht
  have hx := Maps.keyOf_int_mk hk (i64_wf hn)
  have hes : ∀ e ∈ es.toList, ∃ l, keyOf P k e.key = some l := by
    intro e0 he
    obtain ⟨j, hj⟩ := List.mem_iff_getElem?.1 he
    obtain ⟨m, h1, h2⟩ := h.at hj
    exact ⟨_, by rw [h1]; exact Maps.keyOf_int_mk hk (i64_wf (h.fits _ (List.mem_of_getElem? h2)))⟩
  rcases (tyMap_keyed ht).find w hx es.toList hes with ⟨h1, h2⟩ | ⟨j, e0, h1, h2, h3⟩
  · refine .inl ⟨h1, fun p hp e => ?_⟩
    obtain ⟨e0, he, h3, _⟩ := h.back hp
    exact h2 e0 he (by rw [h3, e])
  · obtain ⟨m, h4, h5⟩ := h.at h2
    have : m = n := by rw [h3] at h4; cases h4; rfl
    subst this
    exact .inr ⟨j, e0, h1, h2, h3, h5⟩
theorem MpOk.nil : MpOk #[] 0 [] := ⟨rfl, List.nodup_nil, fun p hp => absurd hp (by simp), List.nodup_nil, fun e he => absurd he (by simp)⟩
theorem MpOk.push {es : Array MapEntry} {clock : Nat} {kvs : KV} (h : MpOk es clock kvs) {n : Int} {v : Value} (hn : I64 n) (hnew : ∀ p, p ∈ kvs → p.1 ≠ n) : MpOk (es.push ⟨.int .i64 n, v, clock⟩) (clock + 1) (kvSet kvs n v) := by
  rw [kvSet_new hnew]
  refine ⟨by rw [Array.toList_push, List.map_append, List.map_append, h.kv]; rfl, ?_, ?_, ?_, ?_⟩
  · rw [List.map_append, List.nodup_append]
    refine ⟨h.keys, by simp, fun a ha b hb => ?_⟩
    obtain ⟨p, hp, rfl⟩ := List.mem_map.1 ha
    simp at hb; subst hb
    exact hnew p hp
  · intro p hp
    rcases List.mem_append.1 hp with h1 | h1
    · exact h.fits p h1
    · simp at h1; subst h1; exact hn
  · rw [Array.toList_push, List.map_append, List.nodup_append]
    refine ⟨h.born, by simp, fun a ha b hb => ?_⟩
    obtain ⟨x, hx, rfl⟩ := List.mem_map.1 ha
    simp at hb; subst hb
    have := h.past x hx; omega
  · intro e he
    rw [Array.toList_push] at he
    rcases List.mem_append.1 he with h1 | h1
    · have := h.past e h1; omega
    · simp at h1; subst h1; show clock < clock + 1; omega
theorem map_set_fst {l : KV} {j : Nat} {n : Int} {v0 v : Value} (h : l[j]? = some (n, v0)) : (l.set j (n, v)).map Prod.fst = l.map Prod.fst := by
  rw [List.map_set]
  refine List.ext_getElem? fun i => ?_
  rw [List.getElem?_set]
  split
  · rename_i e; subst e
    split
    · rw [List.getElem?_map, h]; rfl
    · rename_i h2; rw [List.getElem?_eq_none (by omega)]
  · rfl
theorem MpOk.modify {es : Array MapEntry} {clock : Nat} {kvs : KV} (h : MpOk es clock kvs) {j : Nat} {e0 : MapEntry} {n : Int} {v : Value} (hj : es.toList[j]? = some e0) (hk : e0.key = .int .i64 n) (hkv : kvs[j]? = some (n, e0.val)) :
    (es.modify j fun e => { e with key := .int .i64 n, val := v }).toList = es.toList.set j ⟨.int .i64 n, v, e0.born⟩ ∧ MpOk (es.modify j fun e => { e with key := .int .i64 n, val := v }) clock (kvSet kvs n v) := by
  have hl : (es.modify j fun e => { e with key := .int .i64 n, val := v }).toList = es.toList.set j ⟨.int .i64 n, v, e0.born⟩ := by
    rw [Array.toList_modify]
    refine List.ext_getElem? fun i => ?_
    rw [List.getElem?_modify, List.getElem?_set]
    by_cases e : j = i
    · subst e
      rw [hj, if_pos rfl, if_pos (List.getElem?_eq_some_iff.1 hj).1]; simp
    · simp [e]
  have hs := (kv_at h.keys hkv).2.1 v
  refine ⟨hl, ⟨?_, ?_, ?_, ?_, ?_⟩⟩
  · rw [hl, hs, List.map_set, List.map_set, h.kv]
  · rw [hs, map_set_fst hkv]; exact h.keys
  · intro p hp
    rw [hs] at hp
    rcases List.mem_or_eq_of_mem_set hp with h1 | h1
    · exact h.fits p h1
    · subst h1; exact h.fits (n, e0.val) (List.mem_of_getElem? hkv)
  · rw [hl]
    have : (es.toList.set j ⟨.int .i64 n, v, e0.born⟩).map (·.born) = es.toList.map (·.born) := by
      rw [List.map_set]
      refine List.ext_getElem? fun i => ?_
      rw [List.getElem?_set]
      split
      · rename_i e; subst e
        split
        · rw [List.getElem?_map, hj]; rfl
        · rename_i h2; rw [List.getElem?_eq_none (by omega)]
      · rfl
    rw [this]; exact h.born
  · intro e he
    rw [hl] at he
    rcases List.mem_or_eq_of_mem_set he with h1 | h1
    · exact h.past e h1
    · subst h1; exact h.past e0 (List.mem_of_getElem? hj)
theorem MpOk.erase {es : Array MapEntry} {clock : Nat} {kvs : KV} (h : MpOk es clock kvs) {j : Nat} {e0 : MapEntry} {n : Int} (hj : es.toList[j]? = some e0) (hkv : kvs[j]? = some (n, e0.val)) : MpOk (es.eraseIdxIfInBounds j) clock (kvDel kvs n) := by
  have hl : (es.eraseIdxIfInBounds j).toList = es.toList.eraseIdx j := by
    have hlt := (List.getElem?_eq_some_iff.1 hj).1
    simp at hlt
    simp [Array.eraseIdxIfInBounds, hlt]
  have hs := (kv_at h.keys hkv).2.2
  rw [hs]
  refine ⟨?_, ?_, fun p hp => h.fits p (List.mem_of_mem_eraseIdx hp), ?_, ?_⟩
  · rw [hl, ChangeMaps.map_eraseIdx, ChangeMaps.map_eraseIdx, h.kv]
  · rw [ChangeMaps.map_eraseIdx]; exact h.keys.sublist (List.eraseIdx_sublist _ _)
  · rw [hl, ChangeMaps.map_eraseIdx]; exact h.born.sublist (List.eraseIdx_sublist _ _)
  · intro e he; rw [hl] at he; exact h.past e (List.mem_of_mem_eraseIdx he)
end Go.GL

namespace Go.GL
open Go.ChangeMaps (setBlock)
open Go.Maps (Keyed)
set_option linter.unusedVariables false
theorem mp_at {w : World} {M : List HP} {F : List Fact} {b i : Nat} {kvs : KV} (hw : St w M F) (hi : M[i]? = some (MpB b kvs)) : ∃ es clock, MpOk es clock kvs ∧ w.heap[b]? = some (.map es clock) := by
  obtain ⟨z, h⟩ := (hw.front hi).exOpen
  exact ⟨z.1.1, z.1.2, z.2, h.heap (i := 0) rfl⟩
theorem mp_turn {w : World} {M : List HP} {F : List Fact} {b i : Nat} {kvs kvs' : KV} {es' : Array MapEntry} {clock' : Nat} (hw : St w M F) (hi : M[i]? = some (MpB b kvs)) (h : MpOk es' clock' kvs') : St (setBlock w b (.map es' clock')) (M.set i (MpB b kvs')) F := by
  obtain ⟨z, h1⟩ := (hw.front hi).exOpen
  have hb : w.heap[b]? = some (.map z.1.1 z.1.2) := h1.heap (i := 0) rfl
  have hset := MapKept.heap_set (o' := .map es' clock') hb
  have h2 : St (setBlock w b (.map es' clock')) (Pts b (.map es' clock') :: M.eraseIdx i) F := St.putHeap (i := 0) (b := b) (o := .map z.1.1 z.1.2) h1 rfl rfl rfl rfl (by simp [setBlock]) hset.1 hset.2
  exact St.back hi (St.exClose (⟨(es', clock'), h⟩ : {z : Array MapEntry × Nat // MpOk z.1 z.2 kvs'}) h2)
theorem run_mapUpdate_ok {P : Program} {w : World} {t k e : TypeId} {es : Array MapEntry} {clock b : Nat} {kvs : KV} (h : MpOk es clock kvs) (hb : w.heap[b]? = some (.map es clock)) (ht : tyMap P t k e = true) {n : Int} (hn : I64 n) (v : Value) :
    ∃ es' clock', (Instr.mapUpdate t (.map (some b)) (.int .i64 n) v).run P w = .ok () (setBlock w b (.map es' clock')) ∧ MpOk es' clock' (kvSet kvs n v) ∧ ((∃ p, p ∈ kvs ∧ p.1 = n) → ∃ j e0, es.toList[j]? = some e0 ∧ e0.key = .int .i64 n ∧ es'.toList = es.toList.set j ⟨.int .i64 n, v, e0.born⟩ ∧ clock' = clock) := by
  obtain ⟨hm, hk⟩ := tyMap_is ht
  have hx := Maps.keyOf_int_mk hk (i64_wf hn)
  have K := tyMap_keyed ht
  rcases h.find (w := w) ht hn with ⟨h1, h2⟩ | ⟨j, e0, h1, h2, h3, h4⟩
  · refine ⟨es.push ⟨.int .i64 n, v, clock⟩, clock + 1, ?_, h.push hn h2, fun ⟨p, hp, e⟩ => absurd e (h2 p hp)⟩
    simp [Instr.mapUpdate, run_underlying hm, MapKept.run_getObj_map hb, K.check w false hx, h1, MapKept.run_setObj_map _ hb, Result.andThen, setBlock]
  · have hj : es[j]? = some e0 := by simpa using h2
    obtain ⟨hl, hok⟩ := h.modify (v := v) h2 h3 h4
    refine ⟨_, clock, ?_, hok, fun _ => ⟨j, e0, h2, h3, hl, rfl⟩⟩
    simp [Instr.mapUpdate, run_underlying hm, MapKept.run_getObj_map hb, K.check w false hx, h1, hj, h3, K.stays w hx, MapKept.run_setObj_map _ hb, Result.andThen, setBlock]
theorem run_delete_ok {P : Program} {w : World} {t k e : TypeId} {es : Array MapEntry} {clock b : Nat} {kvs : KV} (h : MpOk es clock kvs) (hb : w.heap[b]? = some (.map es clock)) (ht : tyMap P t k e = true) {n : Int} (hn : I64 n) (ts : Array TypeId) (hts : ts[0]? = some t) (ty : TypeId) :
    ∃ es', (Builtin.delete_ ts ty #[.map (some b), .int .i64 n]).run P w = .ok (.tuple #[]) (setBlock w b (.map es' clock)) ∧ MpOk es' clock (kvDel kvs n) := by
  obtain ⟨hm, hk⟩ := tyMap_is ht
  have hx := Maps.keyOf_int_mk hk (i64_wf hn)
  have K := tyMap_keyed ht
  rcases h.find (w := w) ht hn with ⟨h1, h2⟩ | ⟨j, e0, h1, h2, h3, h4⟩
  · refine ⟨es, ?_, by rw [kvDel_none h2]; exact h⟩
    simp [Builtin.delete_, hts, run_underlying hm, MapKept.run_getObj_map hb, K.check w _ hx, h1, MapKept.run_setObj_map _ hb, Result.andThen, setBlock]
  · refine ⟨_, ?_, h.erase h2 h4⟩
    simp [Builtin.delete_, hts, run_underlying hm, MapKept.run_getObj_map hb, K.check w _ hx, h1, MapKept.run_setObj_map _ hb, Result.andThen, setBlock]
theorem run_lookup_ok {P : Program} {w : World} {t k e : TypeId} {es : Array MapEntry} {clock b : Nat} {kvs : KV} (h : MpOk es clock kvs) (hb : w.heap[b]? = some (.map es clock)) (ht : tyMap P t k e = true) {n : Int} (hn : I64 n) {z : Value} (hz : (zeroValue e).run P w = .ok z w) :
    (Instr.lookup t (.map (some b)) (.int .i64 n) false).run P w = .ok ((kvGet kvs n).getD z) w := by
  obtain ⟨hm, hk⟩ := tyMap_is ht
  have hx := Maps.keyOf_int_mk hk (i64_wf hn)
  have K := tyMap_keyed ht
  rcases h.find (w := w) ht hn with ⟨h1, h2⟩ | ⟨j, e0, h1, h2, h3, h4⟩
  · rw [kvGet_none h2]
    simp [Instr.lookup, run_underlying hm, MapKept.run_getObj_map hb, K.check w _ hx, h1, hz, Result.andThen]
  · rw [(kv_at h.keys h4).1]
    simp [Instr.lookup, run_underlying hm, MapKept.run_getObj_map hb, K.check w _ hx, h1, Result.andThen]
structure RgOk (es : Array MapEntry) (clock since : Nat) (seen : Array Nat) (c0 : Nat) (kvs : KV) (left : List Int) (cur : Option Int) : Prop where
  ok : MpOk es clock kvs
  old : ∀ e, e ∈ es.toList → e.born < since
  sc : since ≤ c0
  sk : since ≤ clock
  rest : (leftOf es seen).toList.map (·.key) = left.map (Value.int .i64 ·)
  now : ∀ k, cur = some k → ∃ (e : MapEntry) (seen0 : Array Nat), e ∈ es.toList ∧ e.key = .int .i64 k ∧ seen = seen0.push e.born ∧ c0 = clock
structure RgX where
  es : Array MapEntry
  clock : Nat
  since : Nat
  seen : Array Nat
  c0 : Nat
def RgB (b r : Nat) (kvs : KV) (left : List Int) (cur : Option Int) : HP := Ex (ι := {z : RgX // RgOk z.es z.clock z.since z.seen z.c0 kvs left cur}) fun z => [Pts b (.map z.1.es z.1.clock), Pts r (.mapIter (some b) z.1.since z.1.seen z.1.c0)]
theorem rg_at {w : World} {M : List HP} {F : List Fact} {b r i : Nat} {kvs : KV} {left : List Int} {cur : Option Int} (hw : St w M F) (hi : M[i]? = some (RgB b r kvs left cur)) :
    ∃ z : RgX, RgOk z.es z.clock z.since z.seen z.c0 kvs left cur ∧ w.heap[b]? = some (.map z.es z.clock) ∧ w.heap[r]? = some (.mapIter (some b) z.since z.seen z.c0) ∧ St w (Pts b (.map z.es z.clock) :: Pts r (.mapIter (some b) z.since z.seen z.c0) :: M.eraseIdx i) F := by
  obtain ⟨z, h⟩ := (hw.front hi).exOpen
  exact ⟨z.1, z.2, h.heap (i := 0) rfl, h.heap (i := 1) rfl, h⟩
theorem rg_close {w : World} {M : List HP} {F : List Fact} {b r i : Nat} {p : HP} {kvs : KV} {left : List Int} {cur : Option Int} {z : RgX} (hi : M[i]? = some p) (hz : RgOk z.es z.clock z.since z.seen z.c0 kvs left cur) (h : St w (Pts b (.map z.es z.clock) :: Pts r (.mapIter (some b) z.since z.seen z.c0) :: M.eraseIdx i) F) : St w (M.set i (RgB b r kvs left cur)) F :=
  St.back hi (St.exClose (⟨z, hz⟩ : {z : RgX // RgOk z.es z.clock z.since z.seen z.c0 kvs left cur}) h)
theorem born_key {es : Array MapEntry} {clock : Nat} {kvs : KV} (h : MpOk es clock kvs) {x y : MapEntry} (hx : x ∈ es.toList) (hy : y ∈ es.toList) : x.born = y.born ↔ x.key = y.key := by
  obtain ⟨i, hi⟩ := List.mem_iff_getElem?.1 hx
  obtain ⟨j, hj⟩ := List.mem_iff_getElem?.1 hy
  constructor
  · intro e
    have h1 : (es.toList.map (·.born))[i]? = some x.born := by rw [List.getElem?_map, hi]; rfl
    have h2 : (es.toList.map (·.born))[j]? = some y.born := by rw [List.getElem?_map, hj]; rfl
    have := (List.getElem?_inj (List.getElem?_eq_some_iff.1 h1).1 h.born).1 (h1.trans ((congrArg some e).trans h2.symm))
    subst this
    rw [hi] at hj; cases hj; rfl
  · intro e
    obtain ⟨n, a1, a2⟩ := h.at hi
    obtain ⟨m, b1, b2⟩ := h.at hj
    have : n = m := by rw [a1, b1] at e; cases e; rfl
    subst this
    have h1 : (kvs.map Prod.fst)[i]? = some n := by rw [List.getElem?_map, a2]; rfl
    have h2 : (kvs.map Prod.fst)[j]? = some n := by rw [List.getElem?_map, b2]; rfl
    have := (List.getElem?_inj (List.getElem?_eq_some_iff.1 h1).1 h.keys).1 (h1.trans h2.symm)
    subst this
    rw [hi] at hj; cases hj; rfl
theorem mem_leftOf {es : Array MapEntry} {seen : Array Nat} {e : MapEntry} : e ∈ (leftOf es seen).toList ↔ e ∈ es.toList ∧ seen.contains e.born = false := by
  unfold leftOf
  rw [Array.toList_filter, List.mem_filter]
  simp
def keyIs (n : Int) : Value → Bool
  | .int .i64 m => decide (m = n)
  | _ => false
theorem keyIs_iff {n : Int} {v : Value} : keyIs n v = true ↔ v = .int .i64 n := by
  unfold keyIs
  split
  · simp
  · rename_i h
    simp only [Bool.false_eq_true, false_iff]
    exact fun e => h n e
theorem left_push {es : Array MapEntry} {clock : Nat} {kvs : KV} (h : MpOk es clock kvs) {seen : Array Nat} {e : MapEntry} {left : List Int} {n : Int} (he : e ∈ (leftOf es seen).toList) (hn : e.key = .int .i64 n) (hl : (leftOf es seen).toList.map (·.key) = left.map (Value.int .i64 ·)) :
    (leftOf es (seen.push e.born)).toList.map (·.key) = (left.filter fun x => !decide (x = n)).map (Value.int .i64 ·) := by
  have e1 : (leftOf es (seen.push e.born)).toList = (leftOf es seen).toList.filter fun x => !keyIs n x.key := by
    unfold leftOf
    rw [Array.toList_filter, Array.toList_filter, List.filter_filter]
    refine List.filter_congr fun x hx => ?_
    have hk := born_key h hx (mem_leftOf.1 he).1
    rw [hn, ← keyIs_iff] at hk
    have hc : (seen.push e.born).contains x.born = (seen.contains x.born || (x.born == e.born)) := by
      rw [Bool.eq_iff_iff]
      simp [Array.mem_push]
    rw [hc]
    have hb : (x.born == e.born) = keyIs n x.key := by
      rw [Bool.eq_iff_iff, ← hk]; simp
    rw [hb]
    cases seen.contains x.born <;> cases keyIs n x.key <;> rfl
  rw [e1]
  have e2 : ((leftOf es seen).toList.filter fun x => !keyIs n x.key).map (·.key) = ((leftOf es seen).toList.map (·.key)).filter fun v => !keyIs n v := by
    rw [List.filter_map]; rfl
  rw [e2, hl, List.filter_map]
  rfl
end Go.GL

namespace Go.GL
open Go.ChangeMaps (setBlock)
set_option linter.unusedVariables false
theorem rg_next {P : Program} {w : World} {M : List HP} {F : List Fact} {b r i : Nat} {kvs : KV} {left : List Int} {cur : Option Int} (ty : TypeId) (hw : St w M F) (hi : M[i]? = some (RgB b r kvs left cur)) :
    ∃ (o : {o : Option (Int × Value) // match o with | none => left = [] | some p => p.1 ∈ left ∧ p ∈ kvs}) (w' : World), (Instr.next (.pointer (some ⟨r, 0, none⟩)) false ty).run P w = .ok (match o.1 with | none => .tuple #[.bool false] | some p => .tuple #[.bool true, .int .i64 p.1, p.2]) w' ∧
      St w' (M.set i (match o.1 with | none => MpB b kvs | some p => RgB b r kvs (left.filter fun x => !decide (x = p.1)) (some p.1))) F := by
  obtain ⟨z, hz, hb, hr, hst⟩ := rg_at hw hi
  rcases run_next_at (P := P) w ty r b z.since z.c0 z.seen z.es z.clock hr hb hz.old hz.sc with ⟨h0, hrun⟩ | ⟨e, he, w1, hal, hrun⟩
  · have hl : left = [] := by
      have h1 := congrArg List.length hz.rest
      rw [List.length_map, List.length_map, Array.length_toList, h0] at h1
      exact List.eq_nil_of_length_eq_zero h1.symm
    refine ⟨⟨none, hl⟩, w, hrun, ?_⟩
    exact St.back hi (St.exClose (⟨(z.es, z.clock), hz.ok⟩ : {z : Array MapEntry × Nat // MpOk z.1 z.2 kvs}) (hst.drop 1 rfl))
  · have hem := (mem_leftOf.1 he).1
    obtain ⟨j, hj⟩ := List.mem_iff_getElem?.1 hem
    obtain ⟨n, hk, hkv⟩ := hz.ok.at hj
    have hnl : n ∈ left := by
      have h1 : e.key ∈ (leftOf z.es z.seen).toList.map (·.key) := List.mem_map_of_mem (f := fun x : MapEntry => x.key) he
      rw [hz.rest, hk] at h1
      obtain ⟨m, hm, e1⟩ := List.mem_map.1 h1
      simp only [Value.int.injEq, true_and] at e1
      exact e1 ▸ hm
    refine ⟨⟨some (n, e.val), hnl, List.mem_of_getElem? hkv⟩, _, by rw [hk] at hrun; exact hrun, ?_⟩
    have hst1 : St w1 (Pts b (.map z.es z.clock) :: Pts r (.mapIter (some b) z.since z.seen z.c0) :: M.eraseIdx i) F := by
      rcases hal with rfl | rfl
      · exact hst
      · exact hst.drew
    have hr1 : w1.heap[r]? = some (.mapIter (some b) z.since z.seen z.c0) := hst1.heap (i := 1) rfl
    have hset := MapKept.heap_set (o' := .mapIter (some b) z.since (z.seen.push e.born) z.clock) hr1
    have h2 : St (setBlock w1 r (.mapIter (some b) z.since (z.seen.push e.born) z.clock)) (Pts b (.map z.es z.clock) :: Pts r (.mapIter (some b) z.since (z.seen.push e.born) z.clock) :: M.eraseIdx i) F :=
      St.putHeap (i := 1) (b := r) (o := .mapIter (some b) z.since z.seen z.c0) hst1 rfl rfl rfl rfl (by simp [setBlock]) hset.1 hset.2
    exact rg_close (z := ⟨z.es, z.clock, z.since, z.seen.push e.born, z.clock⟩) hi ⟨hz.ok, hz.old, hz.sk, hz.sk, left_push hz.ok he hk hz.rest, fun k hk2 => by cases hk2; exact ⟨e, z.seen, hem, hk, rfl, rfl⟩⟩ h2
theorem rg_entry {P : Program} {w : World} {M : List HP} {F : List Fact} {b r i : Nat} {kvs : KV} {left : List Int} {n : Int} {v : Value} (hw : St w M F) (hi : M[i]? = some (RgB b r kvs left (some n))) (hv : (n, v) ∈ kvs) :
    (Instr.entry (.pointer (some ⟨r, 0, none⟩))).run P w = .ok (.tuple #[.int .i64 n, v]) w := by
  obtain ⟨z, hz, hb, hr, _⟩ := rg_at hw hi
  obtain ⟨e, seen0, he, hk, hs, hc⟩ := hz.now n rfl
  rw [hs, hc] at hr
  have h1 := run_entry_at (P := P) w r b z.since seen0 z.es z.clock e hr hb he hz.ok.born
  have hval : e.val = v := by
    obtain ⟨j, hj⟩ := List.mem_iff_getElem?.1 he
    obtain ⟨m, a1, a2⟩ := hz.ok.at hj
    have : m = n := by rw [hk] at a1; cases a1; rfl
    subst this
    obtain ⟨j2, hj2⟩ := List.mem_iff_getElem?.1 hv
    have e1 := (kv_at hz.ok.keys a2).1
    have e2 := (kv_at hz.ok.keys hj2).1
    rw [e1] at e2
    exact Option.some.inj e2
  rw [hk, hval] at h1
  exact h1
theorem rg_store {P : Program} {w : World} {M : List HP} {F : List Fact} {b r i : Nat} {t k e : TypeId} {kvs : KV} {left : List Int} {cur : Option Int} {n : Int} (ht : tyMap P t k e = true) (hn : I64 n) (hw : St w M F) (hi : M[i]? = some (RgB b r kvs left cur)) (hv : ∃ p, p ∈ kvs ∧ p.1 = n) (v : Value) :
    ∃ w', (Instr.mapUpdate t (.map (some b)) (.int .i64 n) v).run P w = .ok () w' ∧ St w' (M.set i (RgB b r (kvSet kvs n v) left none)) F := by
  obtain ⟨z, hz, hb, hr, hst⟩ := rg_at hw hi
  obtain ⟨es', clock', hrun, hok, hsame⟩ := run_mapUpdate_ok hz.ok hb ht hn v
  obtain ⟨j, e0, hj, hk0, hl, hc⟩ := hsame hv
  refine ⟨_, hrun, ?_⟩
  have hset := MapKept.heap_set (o' := .map es' clock') hb
  have h2 : St (setBlock w b (.map es' clock')) (Pts b (.map es' clock') :: Pts r (.mapIter (some b) z.since z.seen z.c0) :: M.eraseIdx i) F :=
    St.putHeap (i := 0) (b := b) (o := .map z.es z.clock) hst rfl rfl rfl rfl (by simp [setBlock]) hset.1 hset.2
  have hmem : ∀ x, x ∈ es'.toList → ∃ y, y ∈ z.es.toList ∧ y.born = x.born := by
    intro x hx
    rw [hl] at hx
    rcases List.mem_or_eq_of_mem_set hx with h | h
    · exact ⟨x, h, rfl⟩
    · subst h; exact ⟨e0, List.mem_of_getElem? hj, rfl⟩
  have hrest : (leftOf es' z.seen).toList.map (·.key) = (leftOf z.es z.seen).toList.map (·.key) := by
    unfold leftOf
    rw [Array.toList_filter, Array.toList_filter, hl]
    have aux : ∀ (l : List MapEntry) (j : Nat), l[j]? = some e0 → ((l.set j ⟨.int .i64 n, v, e0.born⟩).filter fun e => !z.seen.contains e.born).map (·.key) = (l.filter fun e => !z.seen.contains e.born).map (·.key) := by
      intro l
      induction l with
      | nil => intro j h; simp at h
      | cons x l ih =>
        intro j h
        cases j with
        | zero =>
          simp at h; subst h
          rw [List.set_cons_zero, List.filter_cons, List.filter_cons]
          show List.map _ (if (!z.seen.contains x.born) = true then _ else _) = _
          split
          · rw [List.map_cons, List.map_cons, hk0]
          · rfl
        | succ j =>
          rw [List.set_cons_succ, List.filter_cons, List.filter_cons]
          have := ih j (by simpa using h)
          split
          · rw [List.map_cons, List.map_cons, this]
          · exact this
    exact aux _ _ hj
  refine rg_close (z := ⟨es', clock', z.since, z.seen, z.c0⟩) hi ⟨hok, fun x hx => ?_, hz.sc, by show z.since ≤ clock'; rw [hc]; exact hz.sk, by rw [hrest]; exact hz.rest, fun k hk => by cases hk⟩ h2
  obtain ⟨y, hy, hb2⟩ := hmem x hx
  rw [← hb2]; exact hz.old y hy
section
variable {P : Program} {r : Option Nat} {N : Nat} {ops : Array Oper} {rest : List Oper} {Q : Exit → Act → World → Prop} {E : Env} {ds : List Deferred} {M : List HP} {F : List Fact}
variable {d : Nat} {ty : TypeId} {pos : String} {aft : Array Edge} {gd : Option (Nat × Bool)}
theorem GV.makeMap {t : TypeId} : GV P E M F ⟨some d, .makeMap t none, ty, pos, aft, gd⟩ Nat (fun b => .map (some b)) (fun b => MpB b [] :: M) (fun _ => F) := ⟨rfl, fun ρ hρ w hw => by
  have hrun : (Instr.makeMap t none).run P w = .ok (.map (some w.heap.size)) (w.alloc (.map #[] 0)) := rfl
  refine ⟨w.heap.size, w.alloc (.map #[] 0), by simp [execOp, hrun], ?_⟩
  exact St.exClose (⟨(#[], 0), MpOk.nil⟩ : {z : Array MapEntry × Nat // MpOk z.1 z.2 []}) (hw.alloc (.map #[] 0))⟩
theorem PV.lookup {t k e : TypeId} {x y : Operand} {b : Nat} {n : Int} {z : Value} {kvs : KV} (i : Nat) (ht : tyMap P t k e = true) (hx : evalO E x = some (.map (some b))) (hy : evalO E y = some (I n)) (hn : I64 n) (hi : M[i]? = some (MpB b kvs)) (hz : ∀ w, (zeroValue e).run P w = .ok z w) :
    PV P E M F ⟨some d, .lookup t x y false, ty, pos, aft, gd⟩ ((kvGet kvs n).getD z) := ⟨rfl, fun ρ hρ w hw => by
  obtain ⟨es, clock, h, hb⟩ := mp_at hw hi
  have h1 := run_lookup_ok h hb ht hn (hz w)
  simp [execOp, hρ _ _ hx, hρ _ _ hy, h1]⟩
theorem RL.lookup {t k e : TypeId} {x y : Operand} {b : Nat} {n : Int} {z : Value} {kvs : KV} (i : Nat) (hg : wantedG ops E gd = some true) (ht : tyMap P t k e = true) (hx : evalO E x = some (.map (some b))) (hy : evalO E y = some (I n)) (hn : I64 n) (hi : M[i]? = some (MpB b kvs)) (hz : ∀ w, (zeroValue e).run P w = .ok z w) (hN : Nat.ble (d + 1) N = true)
    (k : RL P r N ops rest Q ((d, (kvGet kvs n).getD z) :: E) ds M F) : RL P r N ops (⟨some d, .lookup t x y false, ty, pos, aft, gd⟩ :: rest) Q E ds M F :=
  RL.val rfl hg hN (PV.lookup i ht hx hy hn hi hz).2 k
theorem EV.mapUpdate {t k e : TypeId} {x y u : Operand} {b : Nat} {n : Int} {v : Value} {kvs : KV} (i : Nat) (ht : tyMap P t k e = true) (hx : evalO E x = some (.map (some b))) (hy : evalO E y = some (I n)) (hu : evalO E u = some v) (hn : I64 n) (hi : M[i]? = some (MpB b kvs)) :
    EV P r Q E M F ⟨none, .mapUpdate t x y u, ty, pos, aft, gd⟩ Unit (fun _ => undef) (fun _ => M.set i (MpB b (kvSet kvs n v))) (fun _ => F) :=
  EV.of_eff rfl fun ρ hρ w hw => by
    obtain ⟨es, clock, h, hb⟩ := mp_at hw hi
    obtain ⟨es', clock', hrun, hok, _⟩ := run_mapUpdate_ok h hb ht hn v
    exact ⟨_, by simp [execOp, hρ _ _ hx, hρ _ _ hy, hρ _ _ hu, hrun], mp_turn hw hi hok⟩
theorem EV.rangeUpdate {t k e : TypeId} {x y u : Operand} {b q : Nat} {n : Int} {v : Value} {kvs : KV} {left : List Int} {cur : Option Int} (i : Nat) (ht : tyMap P t k e = true) (hx : evalO E x = some (.map (some b))) (hy : evalO E y = some (I n)) (hu : evalO E u = some v) (hn : I64 n) (hi : M[i]? = some (RgB b q kvs left cur)) (hv : ∃ p, p ∈ kvs ∧ p.1 = n) :
    EV P r Q E M F ⟨none, .mapUpdate t x y u, ty, pos, aft, gd⟩ Unit (fun _ => undef) (fun _ => M.set i (RgB b q (kvSet kvs n v) left none)) (fun _ => F) :=
  EV.of_eff rfl fun ρ hρ w hw => by
    obtain ⟨w', hrun, hst⟩ := rg_store ht hn hw hi hv v
    exact ⟨_, by simp [execOp, hρ _ _ hx, hρ _ _ hy, hρ _ _ hu, hrun], hst⟩
theorem EV.delete {t k e : TypeId} {aty : Array TypeId} {x y : Operand} {b : Nat} {n : Int} {kvs : KV} (i : Nat) (ht : tyMap P t k e = true) (hx : evalO E x = some (.map (some b))) (hy : evalO E y = some (I n)) (hn : I64 n) (hi : M[i]? = some (MpB b kvs)) (hT : aty[0]? = some t := by rfl) :
    EV P r Q E M F ⟨none, .call ⟨.builtin .delete, #[x, y], aty⟩, ty, pos, aft, gd⟩ Unit (fun _ => .tuple #[]) (fun _ => M.set i (MpB b (kvDel kvs n))) (fun _ => F) :=
  EV.of_gen rfl fun ρ hρ w hw => by
    obtain ⟨es, clock, h, hb⟩ := mp_at hw hi
    obtain ⟨es', hrun, hok⟩ := run_delete_ok h hb ht hn aty hT ty
    exact ⟨(), _, by simp [execOp, resolve, hρ _ _ hx, hρ _ _ hy, invoke, builtin, hrun], mp_turn hw hi hok⟩
theorem GV.range {t k e : TypeId} {x : Operand} {b : Nat} {kvs : KV} (i : Nat) (ht : tyMap P t k e = true) (hx : evalO E x = some (.map (some b))) (hi : M[i]? = some (MpB b kvs)) :
    GV P E M F ⟨some d, .range t x, ty, pos, aft, gd⟩ Nat (fun q => .pointer (some ⟨q, 0, none⟩)) (fun q => M.set i (RgB b q kvs (kvs.map Prod.fst) none)) (fun _ => F) := ⟨rfl, fun ρ hρ w hw => by
  obtain ⟨z, h1⟩ := (hw.front hi).exOpen
  have hb : w.heap[b]? = some (.map z.1.1 z.1.2) := h1.heap (i := 0) rfl
  have hrun := run_range_map (P := P) w t k e b z.1.1 z.1.2 (tyMap_is ht).1 hb
  refine ⟨w.heap.size, w.alloc (.mapIter (some b) z.1.2 #[] z.1.2), by simp [execOp, hρ _ _ hx, hrun], ?_⟩
  have h2 := h1.alloc (.mapIter (some b) z.1.2 #[] z.1.2)
  have h3 : St _ (Pts b (.map z.1.1 z.1.2) :: Pts w.heap.size (.mapIter (some b) z.1.2 #[] z.1.2) :: M.eraseIdx i) F := h2.perm (.swap _ _ _)
  refine rg_close (z := ⟨z.1.1, z.1.2, z.1.2, #[], z.1.2⟩) hi ⟨z.2, z.2.past, Nat.le_refl _, Nat.le_refl _, ?_, fun k hk => by cases hk⟩ h3
  have e1 : (leftOf z.1.1 #[]).toList = z.1.1.toList := by unfold leftOf; simp
  have e2 := congrArg (List.map Prod.fst) z.2.kv
  rw [List.map_map, List.map_map] at e2
  rw [e1, List.map_map]
  exact e2⟩
theorem GV.next {x : Operand} {b q : Nat} {kvs : KV} {left : List Int} {cur : Option Int} (i : Nat) (hx : evalO E x = some (.pointer (some ⟨q, 0, none⟩))) (hi : M[i]? = some (RgB b q kvs left cur)) :
    GV P E M F ⟨some d, .next x false, ty, pos, aft, gd⟩ {o : Option (Int × Value) // match o with | none => left = [] | some p => p.1 ∈ left ∧ p ∈ kvs} (fun o => match o.1 with | none => .tuple #[.bool false] | some p => .tuple #[.bool true, .int .i64 p.1, p.2])
      (fun o => M.set i (match o.1 with | none => MpB b kvs | some p => RgB b q kvs (left.filter fun x => !decide (x = p.1)) (some p.1))) (fun _ => F) := ⟨rfl, fun ρ hρ w hw => by
  obtain ⟨o, w', hrun, hst⟩ := rg_next (P := P) ty hw hi
  exact ⟨o, w', by simp [execOp, hρ _ _ hx, hrun], hst⟩⟩
theorem RL.entry {x : Operand} {b q : Nat} {kvs : KV} {left : List Int} {n : Int} {v : Value} (i : Nat) (hg : wantedG ops E gd = some true) (hx : evalO E x = some (.pointer (some ⟨q, 0, none⟩))) (hi : M[i]? = some (RgB b q kvs left (some n))) (hv : (n, v) ∈ kvs) (hN : Nat.ble (d + 1) N = true)
    (k : RL P r N ops rest Q ((d, .tuple #[I n, v]) :: E) ds M F) : RL P r N ops (⟨some d, .entry x, ty, pos, aft, gd⟩ :: rest) Q E ds M F :=
  RL.val rfl hg hN (fun ρ hρ w hw => by
    have h1 := rg_entry (P := P) hw hi hv
    simp [execOp, hρ _ _ hx, h1]) k
end
end Go.GL

namespace Go.GL
set_option linter.unusedVariables false
def CtrD (P : Program) (f : FuncId) (args : List Value) (M : List HP) (F : List Fact) (ι : Type) (M' : ι → List HP) (F' : ι → List Fact) : Prop :=
  ∀ (u : FrameMode) (w : World), St w M F → CallsDIn (Wd none) 0 P f args.toArray u w fun e u' w' => u' = u ∧ Post (fun _ : ι => .tuple #[]) M' F' e w'
theorem CtrD.body {P : Program} {f : FuncId} {fn : Func} {c : Code} {args : List Value} {M : List HP} {F : List Fact} {ι : Type} {M' : ι → List HP} {F' : ι → List Fact} {N : Nat}
    (hf : P.funcs[f]? = some fn) (hb : fn.body = some c) (hN : fn.ntmps = N) (h : TR P none N c (bodyPost P fn (Post (fun _ : ι => .tuple #[]) M' F')) (envOf 0 args) [] M F) : CtrD P f args M F ι M' F' := fun u w hw => by
  refine callsDIn_of_wp hf hb trivial (h _ w ?_ hw)
  subst hN
  refine ⟨by simp; omega, rfl, fun k v hk => ?_⟩
  obtain ⟨_, h2⟩ := look_envOf args 0 k v hk
  have hlt : k < args.length := (List.getElem?_eq_some_iff.1 h2).1
  rw [Array.getElem?_append_left (by simpa using hlt)]
  simpa using h2
section
variable {P : Program} {r : Option Nat} {N : Nat} {ops : Array Oper} {rest : List Oper} {Q : Exit → Act → World → Prop} {E : Env} {ds : List Deferred} {M : List HP} {F : List Fact}
variable {ty : TypeId} {pos : String} {aft : Array Edge} {gd : Option (Nat × Bool)}
theorem RL.defer {cal : Operand} {asx : List Operand} {ats : Array TypeId} {vs fst cap : List Value} {f : FuncId} (hg : wantedG ops E gd = some true) (hc : evalO E cal = some (.func (.func f) fst.toArray cap.toArray)) (ha : evalArgs E asx = some vs)
    (k : RL P none N ops rest Q E ({ target := .fn (.func f) cap.toArray, args := (fst ++ vs).toArray } :: ds) M F) : RL P none N ops (⟨none, .defer ⟨.value cal, asx.toArray, ats⟩, ty, pos, aft, gd⟩ :: rest) Q E ds M F := fun a w hs hw => by
  unfold wpListIn
  rw [hs.wanted hg, if_pos rfl]
  refine ⟨fun _ _ => trivial, ?_⟩
  have e1 : (Oper.semAt (Wd none).round a.eval ⟨none, .defer ⟨.value cal, asx.toArray, ats⟩, ty, pos, aft, gd⟩).run P w = .ok (.defer { target := .fn (.func f) cap.toArray, args := (fst ++ vs).toArray }) w := by
    rw [show (Wd none).round = none from rfl, Oper.semAt_none]
    simp [execOp, resolve, hs.eval hc, hs.args ha, Deferred.ofValue]
  rw [e1]
  exact k _ w ⟨hs.size, by show _ :: a.defers = _; rw [hs.defers], hs.get⟩ hw
end
end Go.GL

namespace Go.GL
set_option linter.unusedVariables false
structure Fl where
  b : List UInt8
  dur : Nat
  oa : Option Addr
  c : Nat
abbrev Fs := List (Int × Fl)
def flC (f : Fl) : List Value := [.slice f.oa f.b.length f.c, I f.dur]
def flV (f : Fl) : Value := .agg (flC f).toArray
def fl0 : Fl := ⟨[], 0, none, 0⟩
def fsV (fs : Fs) : KV := fs.map fun p => (p.1, flV p.2)
def AllF (fs : Fs) : Fact := ⟨fun w K => ∀ p, p ∈ fs → ArrAt w K p.2.oa (bytesV p.2.b), fun h e p hp => (h p hp).mono e⟩
def fget : Fs → Int → Fl
  | [], _ => fl0
  | p :: l, k => if p.1 = k then p.2 else fget l k
def fset : Fs → Int → Fl → Fs
  | [], k, v => [(k, v)]
  | p :: l, k, v => if p.1 = k then (k, v) :: l else p :: fset l k v
def fdel : Fs → Int → Fs
  | [], _ => []
  | p :: l, k => if p.1 = k then l else p :: fdel l k
theorem fsV_get : ∀ (fs : Fs) (k : Int), (kvGet (fsV fs) k).getD (flV fl0) = flV (fget fs k)
  | [], _ => rfl
  | p :: l, k => by
    show (if p.1 = k then some (flV p.2) else kvGet (fsV l) k).getD _ = flV (if p.1 = k then p.2 else fget l k)
    split
    · rfl
    · exact fsV_get l k
theorem fsV_set : ∀ (fs : Fs) (k : Int) (f : Fl), kvSet (fsV fs) k (flV f) = fsV (fset fs k f)
  | [], _, _ => rfl
  | p :: l, k, f => by
    show (if p.1 = k then (k, flV f) :: fsV l else (p.1, flV p.2) :: kvSet (fsV l) k (flV f)) = fsV (if p.1 = k then (k, f) :: l else p :: fset l k f)
    split
    · rfl
    · rw [fsV_set l k f]; rfl
theorem fsV_del : ∀ (fs : Fs) (k : Int), kvDel (fsV fs) k = fsV (fdel fs k)
  | [], _ => rfl
  | p :: l, k => by
    show (if p.1 = k then fsV l else (p.1, flV p.2) :: kvDel (fsV l) k) = fsV (if p.1 = k then l else p :: fdel l k)
    split
    · rfl
    · rw [fsV_del l k]; rfl
theorem fsV_keys (fs : Fs) : (fsV fs).map Prod.fst = fs.map Prod.fst := by
  unfold fsV; rw [List.map_map]; rfl
theorem fsV_mem {fs : Fs} {p : Int × Value} (h : p ∈ fsV fs) : ∃ f, (p.1, f) ∈ fs ∧ p.2 = flV f := by
  obtain ⟨q, hq, rfl⟩ := List.mem_map.1 h
  exact ⟨q.2, hq, rfl⟩
theorem fget_mem : ∀ {fs : Fs} {k : Int} {f : Fl}, (fs.map Prod.fst).Nodup → (k, f) ∈ fs → fget fs k = f
  | [], _, _, _, h => absurd h (by simp)
  | p :: l, k, f, hn, h => by
    rw [List.map_cons, List.nodup_cons] at hn
    rcases List.mem_cons.1 h with e | h
    · subst e; rw [fget, if_pos rfl]
    · have hne : p.1 ≠ k := fun e => hn.1 (e ▸ List.mem_map_of_mem (f := Prod.fst) h)
      rw [fget, if_neg hne]; exact fget_mem hn.2 h
theorem fget_in {fs : Fs} {k : Int} : fget fs k = fl0 ∨ (k, fget fs k) ∈ fs := by
  induction fs with
  | nil => exact .inl rfl
  | cons p l ih =>
    rw [fget]
    split
    · rename_i e; subst e; exact .inr (.head _)
    · rcases ih with h | h
      · exact .inl h
      · exact .inr (.tail _ h)
theorem fset_mem {fs : Fs} {k : Int} {f : Fl} {p : Int × Fl} (h : p ∈ fset fs k f) : p = (k, f) ∨ p ∈ fs := by
  induction fs with
  | nil => simp [fset] at h; exact .inl h
  | cons q l ih =>
    rw [fset] at h
    split at h
    · rcases List.mem_cons.1 h with e | h
      · exact .inl e
      · exact .inr (.tail _ h)
    · rcases List.mem_cons.1 h with e | h
      · exact .inr (e ▸ .head _)
      · rcases ih h with h | h
        · exact .inl h
        · exact .inr (.tail _ h)
theorem fdel_mem {fs : Fs} {k : Int} {p : Int × Fl} (h : p ∈ fdel fs k) : p ∈ fs := by
  induction fs with
  | nil => exact h
  | cons q l ih =>
    rw [fdel] at h
    split at h
    · exact .tail _ h
    · rcases List.mem_cons.1 h with e | h
      · exact e ▸ .head _
      · exact .tail _ (ih h)
def used (fs : Fs) : Nat := (fs.map fun p => p.2.b.length).sum
def sumK (g : Int → Nat) (l : List Int) : Nat := (l.map g).sum
theorem sumK_take {g : Int → Nat} : ∀ {l : List Int} {k : Int}, l.Nodup → k ∈ l → sumK g (l.filter fun x => !decide (x = k)) + g k = sumK g l
  | [], _, _, h => absurd h (by simp)
  | x :: l, k, hn, h => by
    rw [List.nodup_cons] at hn
    by_cases e : x = k
    · subst e
      have h1 : (l.filter fun y => !decide (y = x)) = l := List.filter_eq_self.2 fun y hy => by
        have : y ≠ x := fun e => hn.1 (e ▸ hy)
        simp [this]
      have h2 : (List.filter (fun y => !decide (y = x)) (x :: l)) = l := by
        rw [List.filter_cons, if_neg (by simp), h1]
      rw [h2]; unfold sumK; rw [List.map_cons, List.sum_cons]; omega
    · have h1 : k ∈ l := (List.mem_cons.1 h).resolve_left fun e2 => e e2.symm
      have ih := sumK_take (g := g) hn.2 h1
      have h2 : (List.filter (fun y => !decide (y = k)) (x :: l)) = x :: l.filter fun y => !decide (y = k) := by
        rw [List.filter_cons, if_pos (by simp [e])]
      rw [h2]
      unfold sumK at ih ⊢
      rw [List.map_cons, List.sum_cons, List.map_cons, List.sum_cons]; omega
theorem used_sumK {fs : Fs} (hn : (fs.map Prod.fst).Nodup) : sumK (fun k => (fget fs k).b.length) (fs.map Prod.fst) = used fs := by
  unfold sumK used
  rw [List.map_map]
  congr 1
  refine List.map_congr_left fun p hp => ?_
  show (fget fs p.1).b.length = p.2.b.length
  rw [fget_mem hn (f := p.2) hp]
theorem left_lt {l : List Int} {k : Int} (h : k ∈ l) : (l.filter fun x => !decide (x = k)).length < l.length :=
  List.length_filter_lt_length_iff_exists.2 ⟨k, h, by simp⟩
theorem left_nodup {l : List Int} {k : Int} (h : l.Nodup) : (l.filter fun x => !decide (x = k)).Nodup := h.sublist List.filter_sublist
structure Ds where
  m : Nat
  fs : Fs
  room : Nat
  off : Bool
  armed : Bool
  left : Int
def dkC (s : Ds) : List Value := [.map (some s.m), I s.room, .bool s.off, .bool s.armed, I s.left]
structure OkF (fs : Fs) : Prop where
  keys : (fs.map Prod.fst).Nodup
  fits : ∀ p, p ∈ fs → 0 ≤ p.1 ∧ p.1 < 64
  each : ∀ p, p ∈ fs → p.2.b.length ≤ p.2.c ∧ p.2.dur ≤ p.2.b.length
  some : ∀ p, p ∈ fs → p.2.b ≠ []
def hardF (f : Fl) : Fl := { f with dur := f.b.length }
def hard (fs : Fs) : Fs := fs.map fun p => (p.1, hardF p.2)
def hardBut (fs : Fs) (left : List Int) : Fs := fs.map fun p => if p.1 ∈ left then p else (p.1, hardF p.2)
theorem hardBut_all (fs : Fs) : hardBut fs (fs.map Prod.fst) = fs := by
  unfold hardBut
  conv => rhs; rw [← List.map_id fs]
  refine List.map_congr_left fun p hp => ?_
  rw [if_pos (List.mem_map_of_mem (f := Prod.fst) hp)]; rfl
theorem hardBut_none (fs : Fs) : hardBut fs [] = hard fs := by
  unfold hardBut hard
  refine List.map_congr_left fun p hp => by rw [if_neg (by simp)]
theorem hardBut_keys (fs : Fs) (left : List Int) : (hardBut fs left).map Prod.fst = fs.map Prod.fst := by
  unfold hardBut
  rw [List.map_map]
  refine List.map_congr_left fun p _ => ?_
  show (if p.1 ∈ left then p else (p.1, hardF p.2)).1 = p.1
  split <;> rfl
theorem hardBut_step : ∀ {fs : Fs} {left : List Int} {k : Int} {f : Fl}, (fs.map Prod.fst).Nodup → (k, f) ∈ fs → fset (hardBut fs left) k (hardF f) = hardBut fs (left.filter fun x => !decide (x = k))
  | [], _, _, _, _, h => absurd h (by simp)
  | p :: l, left, k, f, hn, h => by
    rw [List.map_cons, List.nodup_cons] at hn
    have e0 : ∀ (q : Int × Fl) (l : Fs) (left : List Int), hardBut (q :: l) left = (if q.1 ∈ left then q else (q.1, hardF q.2)) :: hardBut l left := fun _ _ _ => rfl
    rw [e0, e0, fset]
    have e1 : (if p.1 ∈ left then p else (p.1, hardF p.2)).1 = p.1 := by split <;> rfl
    rw [e1]
    by_cases e : p.1 = k
    · rw [if_pos e]
      have hf : p = (k, f) := by
        rcases List.mem_cons.1 h with h | h
        · exact h.symm
        · exact absurd (e ▸ List.mem_map_of_mem (f := Prod.fst) h) hn.1
      subst hf
      rw [if_neg (by simp)]
      congr 1
      unfold hardBut
      refine List.map_congr_left fun q hq => ?_
      have hne : q.1 ≠ k := fun e2 => hn.1 (by show k ∈ _; rw [← e2]; exact List.mem_map_of_mem (f := Prod.fst) hq)
      have : (q.1 ∈ left.filter fun x => !decide (x = k)) ↔ q.1 ∈ left := by simp [hne]
      simp only [this]
    · rw [if_neg e]
      have h1 : (k, f) ∈ l := (List.mem_cons.1 h).resolve_left fun e2 => e (by rw [← e2])
      rw [hardBut_step hn.2 h1]
      have : (p.1 ∈ left.filter fun x => !decide (x = k)) ↔ p.1 ∈ left := by simp [e]
      simp only [this]
theorem hardBut_left {fs : Fs} {left : List Int} {k : Int} {f : Fl} (h : (k, f) ∈ hardBut fs left) (hk : k ∈ left) : (k, f) ∈ fs := by
  obtain ⟨q, hq, e⟩ := List.mem_map.1 h
  have e1 : q.1 = k := by
    have := congrArg Prod.fst e
    simp only at this
    split at this <;> exact this
  rw [if_pos (by rw [e1]; exact hk)] at e
  exact e ▸ hq
theorem hardBut_in {fs : Fs} {left : List Int} {k : Int} {f : Fl} (h : (k, f) ∈ fs) : ∃ p, p ∈ fsV (hardBut fs left) ∧ p.1 = k := by
  have h1 : k ∈ (hardBut fs left).map Prod.fst := by rw [hardBut_keys]; exact List.mem_map_of_mem (f := Prod.fst) h
  rw [← fsV_keys] at h1
  obtain ⟨p, hp, e⟩ := List.mem_map.1 h1
  exact ⟨p, hp, e⟩
def stepS (s : Ds) : Ds := if s.armed then (if s.left - 1 < 0 then { s with left := s.left - 1, off := true, armed := false } else { s with left := s.left - 1 }) else s
def stepB (s : Ds) : Bool := if s.armed then !(stepS s).off else true
def setF (fs : Fs) (n : Int) (f : Fl) : Fs := if f.b.length = 0 then fdel (fset fs n f) n else fset fs n f
theorem St.hardF {w : World} {M : List HP} {F : List Fact} {fs : Fs} (h : AllF fs ∈ F) (hw : St w M F) : St w M (AllF (hard fs) :: F) := hw.derive fun K hf p hp => by
  obtain ⟨q, hq, rfl⟩ := List.mem_map.1 hp
  exact hf _ h q hq
theorem St.allF_get {w : World} {M : List HP} {F : List Fact} {fs : Fs} {k : Int} (h : AllF fs ∈ F) (hw : St w M F) : St w M (ArrF (fget fs k).oa (bytesV (fget fs k).b) :: F) := hw.derive fun K hf => by
  rcases fget_in (fs := fs) (k := k) with e | e
  · rw [e]; exact .inl rfl
  · exact hf _ h _ e
section
variable {P : Program} {r : Option Nat} {N : Nat} {ops : Array Oper} {rest : List Oper} {Q : Exit → Act → World → Prop} {E : Env} {ds : List Deferred} {M : List HP} {F : List Fact}
variable {d : Nat} {ty : TypeId} {pos : String} {aft : Array Edge} {gd : Option (Nat × Bool)}
theorem PV.lookupF {t k e : TypeId} {x y : Operand} {b : Nat} {n : Int} {fs : Fs} (i : Nat) (ht : tyMap P t k e = true) (hx : evalO E x = some (.map (some b))) (hy : evalO E y = some (I n)) (hn : I64 n) (hi : M[i]? = some (MpB b (fsV fs))) (hz : ∀ w, (zeroValue e).run P w = .ok (flV fl0) w) :
    PV P E M F ⟨some d, .lookup t x y false, ty, pos, aft, gd⟩ (flV (fget fs n)) := PV.cast (fsV_get fs n) (PV.lookup i ht hx hy hn hi hz)
theorem RL.lookupF {t k e : TypeId} {x y : Operand} {b : Nat} {n : Int} {fs : Fs} (i : Nat) (hg : wantedG ops E gd = some true) (ht : tyMap P t k e = true) (hx : evalO E x = some (.map (some b))) (hy : evalO E y = some (I n)) (hn : I64 n) (hi : M[i]? = some (MpB b (fsV fs))) (hz : ∀ w, (zeroValue e).run P w = .ok (flV fl0) w) (hN : Nat.ble (d + 1) N = true)
    (k : RL P r N ops rest Q ((d, flV (fget fs n)) :: E) ds M F) : RL P r N ops (⟨some d, .lookup t x y false, ty, pos, aft, gd⟩ :: rest) Q E ds M F :=
  RL.val rfl hg hN (PV.lookupF i ht hx hy hn hi hz).2 k
end
def there (n : Int) : Prop := 0 ≤ n ∧ n < 64
instance (n : Int) : Decidable (there n) := by unfold there; infer_instance
def appF (s : Ds) (n : Int) (x : List UInt8) (z : RdX) : Fl := ⟨(fget s.fs n).b ++ x, (fget s.fs n).dur, z.oa, z.c⟩
def appE (s : Ds) (n : Int) (x : List UInt8) : Int := if ¬ there n then 1 else if s.off = true then 22 else if (s.room : Int) - used s.fs < x.length then 21 else if stepB s = true then 0 else 22
def appS (s : Ds) (n : Int) (x : List UInt8) (z : RdX) : Ds := if ¬ there n then s else if s.off = true then s else if (s.room : Int) - used s.fs < x.length then s else stepS { s with fs := setF s.fs n (appF s n x z) }
def syncE (s : Ds) : Int := if s.off = true ∨ stepB s = false then 22 else 0
def syncS (s : Ds) : Ds := if s.off = true then s else if stepB s = false then stepS s else { stepS s with fs := hard (stepS s).fs }
theorem stepB_fs (s : Ds) (fs : Fs) : stepB { s with fs := fs } = stepB s := by
  unfold stepB stepS
  by_cases h : s.armed = true
  · rw [if_pos h, if_pos h, if_pos h, if_pos h]
    by_cases h2 : s.left - 1 < 0
    · rw [if_pos h2, if_pos h2]
    · rw [if_neg h2, if_neg h2]
  · rw [if_neg h, if_neg h]
theorem stepS_fs (s : Ds) : (stepS s).fs = s.fs := by
  unfold stepS; split
  · split <;> rfl
  · rfl
theorem stepS_room (s : Ds) : (stepS s).room = s.room := by
  unfold stepS; split
  · split <;> rfl
  · rfl
theorem St.allF_setF {w : World} {M : List HP} {F : List Fact} {fs : Fs} {k : Int} {f : Fl} (h : AllF fs ∈ F) (hf : ArrF f.oa (bytesV f.b) ∈ F) (hw : St w M F) : St w M (AllF (setF fs k f) :: F) := hw.derive fun K ha p hp => by
  unfold setF at hp
  split at hp
  · rcases fset_mem (fdel_mem hp) with e | e
    · subst e; exact ha _ hf
    · exact ha _ h p e
  · rcases fset_mem hp with e | e
    · subst e; exact ha _ hf
    · exact ha _ h p e
theorem fget_each {fs : Fs} (h : OkF fs) (n : Int) : (fget fs n).b.length ≤ (fget fs n).c ∧ (fget fs n).dur ≤ (fget fs n).b.length := by
  rcases fget_in (fs := fs) (k := n) with e | e
  · rw [e]; exact ⟨Nat.le_refl _, Nat.le_refl _⟩
  · exact h.each _ e
theorem fget_used : ∀ (fs : Fs) (n : Int), (fget fs n).b.length ≤ used fs
  | [], _ => Nat.le_refl _
  | p :: l, n => by
    have ih := fget_used l n
    have e : used (p :: l) = p.2.b.length + used l := by unfold used; rw [List.map_cons, List.sum_cons]
    rw [fget, e]
    split <;> omega
theorem St.allF_keep {w : World} {M : List HP} {F : List Fact} {fs : Fs} (hw : St w M F) (h : AllF fs ∈ F) : St w M (AllF fs :: F) := hw.derive fun K hf => hf _ h
section
variable {P : Program} {r : Option Nat} {N : Nat} {ops : Array Oper} {rest : List Oper} {Q : Exit → Act → World → Prop} {E : Env} {ds : List Deferred} {M : List HP} {F : List Fact}
variable {d : Nat} {ty : TypeId} {pos : String} {aft : Array Edge} {gd : Option (Nat × Bool)}
theorem RL.fieldV {T f : Nat} {x : Operand} {v u : Value} (hg : wantedG ops E gd = some true) (hx : evalO E x = some v) (h : ∀ w, (Instr.field T v f).run P w = .ok u w) (hN : Nat.ble (d + 1) N = true) (k : RL P r N ops rest Q ((d, u) :: E) ds M F) : RL P r N ops (⟨some d, .field T x f, ty, pos, aft, gd⟩ :: rest) Q E ds M F :=
  RL.val rfl hg hN (fun ρ hρ w _ => by simp [execOp, hρ _ _ hx, h w]) k
end
def readE (s : Ds) (n : Int) : Int := if ¬ there n then 1 else if s.off = true then 22 else 0
def readB (s : Ds) (n : Int) : List UInt8 := if ¬ there n then [] else if s.off = true then [] else (fget s.fs n).b
def truncBad (s : Ds) (n k : Int) : Prop := ¬ there n ∨ k < 0 ∨ ((fget s.fs n).b.length : Int) < k
instance (s : Ds) (n k : Int) : Decidable (truncBad s n k) := by unfold truncBad; infer_instance
theorem fdel_keys : ∀ (fs : Fs) (n : Int), ((fdel fs n).map Prod.fst).Sublist (fs.map Prod.fst)
  | [], _ => .slnil
  | p :: l, n => by
    rw [fdel]
    split
    · exact List.sublist_cons_self _ _
    · exact (fdel_keys l n).cons_cons _
theorem fset_keys : ∀ {fs : Fs} {n : Int} {f : Fl}, (fs.map Prod.fst).Nodup → ((fset fs n f).map Prod.fst).Nodup
  | [], n, f, _ => by simp [fset]
  | p :: l, n, f, h => by
    rw [List.map_cons, List.nodup_cons] at h
    rw [fset]
    split
    · rename_i e; rw [List.map_cons, List.nodup_cons]; exact ⟨by rw [← e]; exact h.1, h.2⟩
    · rename_i e
      rw [List.map_cons, List.nodup_cons]
      refine ⟨fun hm => ?_, fset_keys h.2⟩
      obtain ⟨q, hq, e2⟩ := List.mem_map.1 hm
      rcases fset_mem hq with e3 | e3
      · subst e3; exact e e2.symm
      · exact h.1 (e2 ▸ List.mem_map_of_mem (f := Prod.fst) e3)
theorem OkF.setF {fs : Fs} {n : Int} {f : Fl} (h : OkF fs) (hn : there n) (hf : f.b.length ≤ f.c ∧ f.dur ≤ f.b.length) : OkF (setF fs n f) := by
  unfold Go.GL.setF
  split
  · rename_i h0
    have hm : ∀ p, p ∈ fdel (fset fs n f) n → p ∈ fs := by
      intro p hp
      have hk := fset_keys (f := f) (n := n) h.keys
      rcases fset_mem (fdel_mem hp) with e | e
      · exfalso
        have : ∀ (l : Fs), (l.map Prod.fst).Nodup → ∀ q, q ∈ fdel l n → q.1 ≠ n := by
          intro l
          induction l with
          | nil => intro _ q hq; simp [fdel] at hq
          | cons a l ih =>
            intro hn2 q hq
            rw [List.map_cons, List.nodup_cons] at hn2
            rw [fdel] at hq
            split at hq
            · rename_i e2
              intro e3; exact hn2.1 (by rw [e2, ← e3]; exact List.mem_map_of_mem (f := Prod.fst) hq)
            · rename_i e2
              rcases List.mem_cons.1 hq with e3 | e3
              · rw [e3]; exact e2
              · exact ih hn2.2 q e3
        exact this _ hk p hp (by rw [e])
      · exact e
    exact ⟨(fset_keys h.keys).sublist (fdel_keys _ _), fun p hp => h.fits p (hm p hp), fun p hp => h.each p (hm p hp), fun p hp => h.some p (hm p hp)⟩
  · rename_i h0
    refine ⟨fset_keys h.keys, fun p hp => ?_, fun p hp => ?_, fun p hp => ?_⟩
    · rcases fset_mem hp with e | e
      · rw [e]; exact hn
      · exact h.fits p e
    · rcases fset_mem hp with e | e
      · rw [e]; exact hf
      · exact h.each p e
    · rcases fset_mem hp with e | e
      · rw [e]; intro e2; exact h0 (by show f.b.length = 0; rw [show f.b = [] from e2]; rfl)
      · exact h.some p e
theorem OkF.hard {fs : Fs} (h : OkF fs) : OkF (hard fs) := by
  have hk : (Go.GL.hard fs).map Prod.fst = fs.map Prod.fst := by unfold Go.GL.hard; rw [List.map_map]; rfl
  refine ⟨by rw [hk]; exact h.keys, fun p hp => ?_, fun p hp => ?_, fun p hp => ?_⟩ <;> obtain ⟨q, hq, rfl⟩ := List.mem_map.1 hp
  · exact h.fits q hq
  · exact ⟨(h.each q hq).1, Nat.le_refl _⟩
  · exact h.some q hq
theorem OkF.nil : OkF [] := ⟨List.nodup_nil, fun _ h => absurd h (by simp), fun _ h => absurd h (by simp), fun _ h => absurd h (by simp)⟩
theorem fget_set : ∀ (fs : Fs) (n : Int) (f : Fl), fget (fset fs n f) n = f
  | [], n, f => by simp [fset, fget]
  | p :: l, n, f => by
    rw [fset]
    split
    · rw [fget, if_pos rfl]
    · rename_i e; rw [fget, if_neg e, fget_set l n f]
theorem fget_other : ∀ (fs : Fs) (n k : Int) (f : Fl), k ≠ n → fget (fset fs n f) k = fget fs k
  | [], n, k, f, h => by show (if n = k then f else fl0) = fl0; rw [if_neg (fun e => h e.symm)]
  | p :: l, n, k, f, h => by
    rw [fset]
    split
    · rename_i e; rw [fget, fget, if_neg (fun e2 => h e2.symm), if_neg (fun e2 => h (by rw [← e2, e]))]
    · rw [fget, fget]
      split
      · rfl
      · exact fget_other l n k f h
theorem fget_hard : ∀ (fs : Fs) (n : Int), fget (hard fs) n = hardF (fget fs n)
  | [], n => rfl
  | p :: l, n => by
    show (if p.1 = n then hardF p.2 else fget (hard l) n) = _
    rw [fget]
    split
    · rfl
    · exact fget_hard l n
theorem used_hard (fs : Fs) : used (hard fs) = used fs := by unfold used hard; rw [List.map_map]; rfl
theorem used_set : ∀ (fs : Fs) (n : Int) (f : Fl), used (fset fs n f) + (fget fs n).b.length = used fs + f.b.length
  | [], n, f => by simp [used, fset, fget, fl0]
  | p :: l, n, f => by
    have e : ∀ (q : Int × Fl) (l : Fs), used (q :: l) = q.2.b.length + used l := fun q l => by unfold used; rw [List.map_cons, List.sum_cons]
    rw [fset, fget]
    split
    · rw [e, e]; show f.b.length + used l + p.2.b.length = _; omega
    · rw [e, e]; have := used_set l n f; omega
structure Lg where
  f : Int
  n : Nat
  dn : Bool
def lgFr (g : Lg) (x : List UInt8) : List UInt8 := frameJ (g.n : Int) x
def lgE (s : Ds) (g : Lg) (x : List UInt8) (z : RdX) : Int := if (65536 : Int) < x.length then 4 else if g.dn = true then 22 else if appE s g.f (lgFr g x) ≠ 0 then appE s g.f (lgFr g x) else syncE (appS s g.f (lgFr g x) z)
def lgS (s : Ds) (g : Lg) (x : List UInt8) (z : RdX) : Ds := if (65536 : Int) < x.length then s else if g.dn = true then s else if appE s g.f (lgFr g x) ≠ 0 then appS s g.f (lgFr g x) z else syncS (appS s g.f (lgFr g x) z)
def lgN (g : Lg) (e : Int) : Lg := { g with n := if e = 0 then g.n + 1 else g.n, dn := decide (e = 22) }
def lgG (s : Ds) (g : Lg) (x : List UInt8) (z : RdX) : Lg := if (65536 : Int) < x.length then g else lgN g (lgE s g x z)
theorem appS_ok {s : Ds} {n : Int} {x : List UInt8} {z : RdX} (h : OkF s.fs) (hz : ((fget s.fs n).b ++ x).length ≤ z.c) : OkF (appS s n x z).fs := by
  unfold appS
  split
  · exact h
  · rename_i h1
    split
    · exact h
    · split
      · exact h
      · rw [stepS_fs]
        exact OkF.setF h (Decidable.not_not.1 h1) ⟨hz, by have := (fget_each h n).2; show (fget s.fs n).dur ≤ ((fget s.fs n).b ++ x).length; rw [List.length_append]; omega⟩
theorem syncS_fs (s : Ds) : (syncS s).fs = s.fs ∨ (syncS s).fs = hard s.fs := by
  unfold syncS
  split
  · exact .inl rfl
  · split
    · exact .inl (stepS_fs s)
    · exact .inr (by show hard (stepS s).fs = _; rw [stepS_fs])
theorem St.allF_sync {w : World} {M : List HP} {F : List Fact} {s : Ds} (h : AllF s.fs ∈ F) (hw : St w M F) : St w M (AllF (syncS s).fs :: F) := by
  rcases syncS_fs s with e | e
  · exact hw.derive (fun K hf => by rw [e]; exact hf _ h)
  · rw [e]; exact hw.hardF h
theorem lgE_app {s : Ds} {g : Lg} {x : List UInt8} {z : RdX} (h : ¬ (65536 : Int) < x.length) (hd : ¬ g.dn = true) (ha : appE s g.f (lgFr g x) ≠ 0) : lgE s g x z = appE s g.f (lgFr g x) ∧ lgS s g x z = appS s g.f (lgFr g x) z ∧ lgG s g x z = lgN g (appE s g.f (lgFr g x)) := by
  have h1 : lgE s g x z = appE s g.f (lgFr g x) := by unfold lgE; rw [if_neg h, if_neg hd, if_pos ha]
  refine ⟨h1, ?_, ?_⟩
  · unfold lgS; rw [if_neg h, if_neg hd, if_pos ha]
  · unfold lgG; rw [if_neg h, h1]
theorem lgE_sync {s : Ds} {g : Lg} {x : List UInt8} {z : RdX} (h : ¬ (65536 : Int) < x.length) (hd : ¬ g.dn = true) (ha : ¬ appE s g.f (lgFr g x) ≠ 0) : lgE s g x z = syncE (appS s g.f (lgFr g x) z) ∧ lgS s g x z = syncS (appS s g.f (lgFr g x) z) ∧ lgG s g x z = lgN g (syncE (appS s g.f (lgFr g x) z)) := by
  have h1 : lgE s g x z = syncE (appS s g.f (lgFr g x) z) := by unfold lgE; rw [if_neg h, if_neg hd, if_neg ha]
  refine ⟨h1, ?_, ?_⟩
  · unfold lgS; rw [if_neg h, if_neg hd, if_neg ha]
  · unfold lgG; rw [if_neg h, h1]
structure CalmD (s : Ds) : Prop where
  off : s.off = false
  armed : s.armed = false
theorem CalmD.step {s : Ds} (h : CalmD s) : stepS s = s ∧ stepB s = true := by
  constructor
  · unfold stepS; rw [if_neg (by rw [h.armed]; simp)]
  · unfold stepB; rw [if_neg (by rw [h.armed]; simp)]
theorem CalmD.sync {s : Ds} (h : CalmD s) : syncE s = 0 ∧ syncS s = { s with fs := hard s.fs } := by
  have h1 : ¬ s.off = true := by rw [h.off]; simp
  have h2 : ¬ stepB s = false := by rw [h.step.2]; simp
  constructor
  · unfold syncE; rw [if_neg (fun e => e.elim h1 h2)]
  · unfold syncS; rw [if_neg h1, if_neg h2, h.step.1]
theorem CalmD.read {s : Ds} {n : Int} (h : CalmD s) (hn : there n) : readE s n = 0 ∧ readB s n = (fget s.fs n).b := by
  have h1 : ¬ s.off = true := by rw [h.off]; simp
  constructor
  · unfold readE; rw [if_neg (show ¬ ¬ there n from fun e => e hn), if_neg h1]
  · unfold readB; rw [if_neg (show ¬ ¬ there n from fun e => e hn), if_neg h1]
end Go.GL

namespace Go.Proofs.YtdnjoffkanjjhaaGreatDoor
open Go.GL
set_option linter.unusedVariables false
theorem xa_bv69_0_1 (x0 : Option Addr) (x0n x0c : Nat) (x1 : Int) : BuildV Tryz.prog 69 [(0, .slice x0 x0n x0c), (1, .int .i64 x1)] (.agg #[.slice x0 x0n x0c, .int .i64 x1]) := fun w => by kernel_rfl
theorem xa_ta69 : tyAgg Tryz.prog 69 2 = true := by kernel_rfl
theorem xa_tf57_0 : fieldOff Tryz.prog 57 0 0 = true := by kernel_rfl
theorem xa_tf57_2 : fieldOff Tryz.prog 57 2 2 = true := by kernel_rfl
theorem xa_tf57_3 : fieldOff Tryz.prog 57 3 3 = true := by kernel_rfl
theorem xa_tf57_4 : fieldOff Tryz.prog 57 4 4 = true := by kernel_rfl
theorem xa_tf69_0 : fieldOff Tryz.prog 69 0 0 = true := by kernel_rfl
theorem xa_tl32 : tySlice Tryz.prog 32 5 = true := by kernel_rfl
theorem xa_tm55 : tyMap Tryz.prog 55 3 69 = true := by kernel_rfl
theorem xa_ts3 : tyScalar Tryz.prog 3 = true := by kernel_rfl
theorem xa_ts32 : tyScalar Tryz.prog 32 = true := by kernel_rfl
theorem xa_ts4 : tyScalar Tryz.prog 4 = true := by kernel_rfl
theorem xa_ts55 : tyScalar Tryz.prog 55 = true := by kernel_rfl
theorem xa_tz69 : tySize Tryz.prog 69 2 = true := by kernel_rfl
theorem exists_spec {n : Int} {M : List HP} {F : List Fact} : Ctr Tryz.prog 30 [I n] M F Unit (fun _ => .bool (decide (0 ≤ n ∧ n < 64))) (fun _ => M) (fun _ => F) := by
  refine Ctr.body Tryz.func30 rfl rfl ?_
  refine TR.seq ?_
  refine TR.region ?_
  refine RL.assign rfl rfl rfl ?_
  refine RL.nil ?_
  refine NX.seq ?_
  refine TR.seq ?_
  refine TR.region ?_
  refine RL.move rfl rfl rfl ?_
  refine RL.bin rfl rfl rfl BinV.geq rfl ?_
  refine RL.move rfl rfl rfl ?_
  refine RL.part (fun h1 => ?_) (fun h1 => ?_)
  · skip
    refine RL.move rfl rfl rfl ?_
    refine RL.bin rfl rfl rfl BinV.lss rfl ?_
    refine RL.pickT rfl rfl rfl rfl ?_
    refine RL.assign rfl rfl rfl ?_
    refine RL.nil ?_
    refine NX.seq ?_
    refine TR.ret ?_
    refine NX.ret1 () rfl rfl (congrArg Value.bool ?_) (fun w hw => hw)
    rw [decide_eq_decide]; have := of_decide_eq_true h1; omega
  · skip
    refine RL.skip rfl rfl rfl ?_
    refine RL.skip rfl rfl rfl ?_
    refine RL.pickF rfl rfl rfl rfl ?_
    refine RL.assign rfl rfl rfl ?_
    refine RL.nil ?_
    refine NX.seq ?_
    refine TR.ret ?_
    refine NX.ret1 () rfl rfl (congrArg Value.bool ?_) (fun w hw => hw)
    exact (decide_eq_false (by have := of_decide_eq_false h1; omega)).symm
theorem used_spec {b : Nat} {s : Ds} {M : List HP} {F : List Fact} (hok : OkF s.fs) (hu : used s.fs ≤ 4611686018427387904) : Ctr Tryz.prog 31 [.pointer (some ⟨b, 0, none⟩)] (Box b 57 (dkC s) :: MpB s.m (fsV s.fs) :: M) F Unit (fun _ => I (used s.fs)) (fun _ => Box b 57 (dkC (s)) :: MpB (s).m (fsV (s).fs) :: M) (fun _ => F) := by
  refine Ctr.body Tryz.func31 rfl rfl ?_
  refine TR.seq ?_
  refine TR.region ?_
  refine RL.assign rfl rfl rfl ?_
  refine RL.nil ?_
  refine NX.seq ?_
  refine TR.seq ?_
  refine TR.region ?_
  refine RL.assign rfl rfl rfl ?_
  refine RL.nil ?_
  refine NX.seq ?_
  refine TR.seq ?_
  refine TR.seq ?_
  refine TR.region ?_
  refine RL.move rfl rfl rfl ?_
  refine RL.nilCheck rfl rfl rfl ?_
  refine RL.fieldAddr rfl xa_tf57_0 rfl rfl ?_
  refine RL.load1 0 rfl xa_ts55 rfl rfl rfl rfl ?_
  refine RL.ofGV rfl rfl (GV.range 1 xa_tm55 rfl rfl) (fun q => ?_)
  refine RL.nil ?_
  refine NX.seq ?_
  refine TR.block ?_
  refine TR.loopP (ι := (List Int × Option Int)) (fun x => x.1.Nodup ∧ sumK (fun k => (fget s.fs k).b.length) x.1 ≤ used s.fs) (fun x => [(3, I ((used s.fs : Int) - (sumK (fun k => (fget s.fs k).b.length) x.1 : Nat))), (10, .pointer (some ⟨q, 0, none⟩))]) (fun x => Box b 57 (dkC s) :: RgB s.m q (fsV s.fs) x.1 x.2 :: M) (fun _ => F) (fun x => x.1.length) ⟨(fsV s.fs).map Prod.fst, none⟩ ⟨by rw [fsV_keys]; exact hok.keys, by rw [fsV_keys, used_sumK hok.keys]; exact Nat.le_refl _⟩ ⟨by show some (I 0) = some (I _); rw [fsV_keys, used_sumK hok.keys, Int.sub_self], rfl, trivial⟩ (fun w hw => hw) (fun x hx => ?_)
  refine TR.seq ?_
  refine TR.region ?_
  refine RL.ofGV rfl rfl (GV.next 1 rfl rfl) (fun nx => ?_)
  obtain ⟨_ | nx, hnx⟩ := nx
  · skip
    refine RL.extract rfl rfl rfl rfl ?_
    refine RL.nil ?_
    refine NX.seq ?_
    refine TR.seq ?_
    refine TR.condF rfl ?_
    refine TR.exit ?_
    refine NX.exitThen ?_
    refine NX.exitThen ?_
    refine NX.exitHere ?_
    refine NX.seq ?_
    refine TR.seq ?_
    refine TR.region ?_
    refine RL.move rfl rfl rfl ?_
    refine RL.assign rfl rfl rfl ?_
    refine RL.nil ?_
    refine NX.seq ?_
    refine TR.ret ?_
    have hl : x.1 = [] := hnx
    refine NX.ret1 () rfl rfl ?_ (fun w hw => hw)
    rw [hl]; show I ((used s.fs : Int) - (0 : Nat)) = _; rw [Int.natCast_zero, Int.sub_zero]
  · skip
    refine RL.extract rfl rfl rfl rfl ?_
    refine RL.nil ?_
    refine NX.seq ?_
    refine TR.seq ?_
    refine TR.condT rfl ?_
    refine TR.skip ?_
    refine NX.seq ?_
    refine TR.block ?_
    refine TR.seq ?_
    refine TR.region ?_
    obtain ⟨nk, nv⟩ := nx
    obtain ⟨f, hf, hfv⟩ := fsV_mem hnx.2
    have hfv2 : nv = flV f := hfv
    subst hfv2
    have hsum := sumK_take (g := (fun k => (fget s.fs k).b.length)) (k := nk) hx.1 hnx.1
    have hfl : (fget s.fs nk).b.length = f.b.length := by rw [fget_mem hok.keys hf]
    have hle : sumK (fun k => (fget s.fs k).b.length) x.1 ≤ used s.fs := hx.2
    refine RL.entry 1 rfl rfl rfl hnx.2 rfl ?_
    refine RL.extract rfl rfl rfl rfl ?_
    refine RL.allocA rfl (Tryz.zeroValue69) rfl (fun b1 => ?_)
    refine RL.storeA 0 rfl rfl rfl rfl xa_tz69 rfl rfl ?_
    refine RL.nil ?_
    refine NX.seq ?_
    refine TR.region ?_
    refine RL.move rfl rfl rfl ?_
    refine RL.fieldAddr rfl xa_tf69_0 rfl rfl ?_
    refine RL.load1 0 rfl xa_ts32 rfl rfl rfl rfl ?_
    refine RL.lenSlice rfl xa_tl32 rfl rfl ?_
    refine RL.bin rfl rfl rfl (BinV.add _ rfl (by omega) (by omega)) rfl ?_
    refine RL.assign rfl rfl rfl ?_
    refine RL.nil ?_
    refine NX.off ?_
    refine NX.roundP (x.1.filter fun y => !decide (y = nk), some nk) ⟨left_nodup hx.1, by show sumK (fun k => (fget s.fs k).b.length) (x.1.filter fun y => !decide (y = nk)) ≤ _; omega⟩ (left_lt hnx.1) ⟨?_, rfl, trivial⟩ (fun w hw => hw.drop 0 rfl)
    show some (I _) = some (I ((used s.fs : Int) - (sumK (fun k => (fget s.fs k).b.length) (x.1.filter fun y => !decide (y = nk)) : Nat)))
    congr 2; omega
theorem step_spec {b : Nat} {s : Ds} {M : List HP} {F : List Fact} (h0 : -9223372036854775807 ≤ s.left ∧ s.left ≤ 9223372036854775807) : Ctr Tryz.prog 33 [.pointer (some ⟨b, 0, none⟩)] (Box b 57 (dkC s) :: MpB s.m (fsV s.fs) :: M) F Unit (fun _ => .bool (stepB s)) (fun _ => Box b 57 (dkC (stepS s)) :: MpB (stepS s).m (fsV (stepS s).fs) :: M) (fun _ => F) := by
  refine Ctr.body Tryz.func33 rfl rfl ?_
  refine TR.seq ?_
  refine TR.region ?_
  refine RL.assign rfl rfl rfl ?_
  refine RL.nil ?_
  refine NX.seq ?_
  refine TR.seq ?_
  refine TR.seq ?_
  refine TR.region ?_
  refine RL.move rfl rfl rfl ?_
  refine RL.nilCheck rfl rfl rfl ?_
  refine RL.fieldAddr rfl xa_tf57_3 rfl rfl ?_
  refine RL.load1 0 rfl xa_ts4 rfl rfl rfl rfl ?_
  refine RL.not rfl rfl rfl ?_
  refine RL.nil ?_
  refine NX.seq ?_
  refine TR.cond rfl (fun h1 => ?_) (fun h1 => ?_)
  · skip
    refine TR.seq ?_
    refine TR.region ?_
    refine RL.assign rfl rfl rfl ?_
    refine RL.nil ?_
    refine NX.seq ?_
    refine TR.ret ?_
    refine NX.retThen ?_
    have ha : s.armed = false := by simpa using h1
    refine NX.ret1 () rfl rfl (by unfold stepB; rw [if_neg (by rw [ha]; simp)]) (fun w hw => ?_)
    rw [show stepS s = s from by unfold stepS; rw [if_neg (by rw [ha]; simp)]]
    exact hw
  · skip
    refine TR.skip ?_
    refine NX.seq ?_
    refine TR.seq ?_
    refine TR.region ?_
    refine RL.move rfl rfl rfl ?_
    refine RL.nilCheck rfl rfl rfl ?_
    refine RL.fieldAddr rfl xa_tf57_4 rfl rfl ?_
    refine RL.load1 0 rfl xa_ts3 rfl rfl rfl rfl ?_
    refine RL.bin rfl rfl rfl (BinV.sub _ rfl (by omega) (by omega)) rfl ?_
    refine RL.nilCheck rfl rfl rfl ?_
    refine RL.fieldAddr rfl xa_tf57_4 rfl rfl ?_
    refine RL.store1 0 rfl xa_ts3 rfl rfl rfl rfl rfl ?_
    refine RL.nil ?_
    refine NX.seq ?_
    refine TR.seq ?_
    refine TR.seq ?_
    refine TR.region ?_
    refine RL.move rfl rfl rfl ?_
    refine RL.nilCheck rfl rfl rfl ?_
    refine RL.fieldAddr rfl xa_tf57_4 rfl rfl ?_
    refine RL.load1 0 rfl xa_ts3 rfl rfl rfl rfl ?_
    refine RL.bin rfl rfl rfl BinV.lss rfl ?_
    refine RL.nil ?_
    refine NX.seq ?_
    refine TR.cond rfl (fun h2 => ?_) (fun h2 => ?_)
    · skip
      refine TR.region ?_
      refine RL.move rfl rfl rfl ?_
      refine RL.move rfl rfl rfl ?_
      refine RL.nilCheck rfl rfl rfl ?_
      refine RL.fieldAddr rfl xa_tf57_2 rfl rfl ?_
      refine RL.store1 0 rfl xa_ts4 rfl rfl rfl rfl rfl ?_
      refine RL.nilCheck rfl rfl rfl ?_
      refine RL.fieldAddr rfl xa_tf57_3 rfl rfl ?_
      refine RL.store1 0 rfl xa_ts4 rfl rfl rfl rfl rfl ?_
      refine RL.nil ?_
      refine NX.seq ?_
      refine TR.seq ?_
      refine TR.region ?_
      refine RL.move rfl rfl rfl ?_
      refine RL.nilCheck rfl rfl rfl ?_
      refine RL.fieldAddr rfl xa_tf57_2 rfl rfl ?_
      refine RL.load1 0 rfl xa_ts4 rfl rfl rfl rfl ?_
      refine RL.not rfl rfl rfl ?_
      refine RL.assign rfl rfl rfl ?_
      refine RL.nil ?_
      refine NX.seq ?_
      refine TR.ret ?_
      have ha : s.armed = true := by simpa using h1
      have hl : s.left - 1 < 0 := of_decide_eq_true h2
      have hs : stepS s = { s with left := s.left - 1, off := true, armed := false } := by unfold stepS; rw [if_pos ha, if_pos hl]
      refine NX.ret1 () rfl rfl (by unfold stepB; rw [if_pos ha, hs]) (fun w hw => ?_)
      rw [hs]
      exact hw
    · skip
      refine TR.skip ?_
      refine NX.seq ?_
      refine TR.seq ?_
      refine TR.region ?_
      refine RL.move rfl rfl rfl ?_
      refine RL.nilCheck rfl rfl rfl ?_
      refine RL.fieldAddr rfl xa_tf57_2 rfl rfl ?_
      refine RL.load1 0 rfl xa_ts4 rfl rfl rfl rfl ?_
      refine RL.not rfl rfl rfl ?_
      refine RL.assign rfl rfl rfl ?_
      refine RL.nil ?_
      refine NX.seq ?_
      refine TR.ret ?_
      have ha : s.armed = true := by simpa using h1
      have hl : ¬ s.left - 1 < 0 := of_decide_eq_false h2
      have hs : stepS s = { s with left := s.left - 1 } := by unfold stepS; rw [if_pos ha, if_neg hl]
      refine NX.ret1 () rfl rfl (by unfold stepB; rw [if_pos ha, hs]) (fun w hw => ?_)
      rw [hs]
      exact hw
theorem set_spec {n : Int} {f : Fl} {b : Nat} {s : Ds} {M : List HP} {F : List Fact} (hn : I64 n) : Ctr Tryz.prog 32 [.pointer (some ⟨b, 0, none⟩), I n, flV f] (Box b 57 (dkC s) :: MpB s.m (fsV s.fs) :: M) F Unit (fun _ => .tuple #[]) (fun _ => Box b 57 (dkC ({ s with fs := setF s.fs n f })) :: MpB ({ s with fs := setF s.fs n f }).m (fsV ({ s with fs := setF s.fs n f }).fs) :: M) (fun _ => F) := by
  refine Ctr.body Tryz.func32 rfl rfl ?_
  refine TR.seq ?_
  refine TR.region ?_
  refine RL.boxA rfl rfl rfl (fun b1 => ?_)
  refine RL.nil ?_
  refine NX.seq ?_
  refine TR.seq ?_
  refine TR.sub (E' := [(0, _), (1, _), (5, _)]) ⟨rfl, rfl, rfl, trivial⟩ ?_
  refine TR.draw mixed ?_
  apply AR.more [(0, _), (1, _), (2, _), (3, _), (4, _), (5, _)]
  refine AR.eff [0, 1, 2, 3, 4, 5] 6 [0, 1, 2, 3, 4, 5, 6] ⟨QOne.yes rfl rfl rfl (PV.move rfl), QOne.yes rfl rfl rfl (PV.nilCheck rfl), QOne.yes rfl rfl rfl (PV.fieldAddr xa_tf57_0 rfl), QOne.yes rfl rfl rfl (PV.load1 1 xa_ts55 rfl rfl rfl), QOne.yes rfl rfl rfl (PV.move rfl), QOne.yes rfl rfl rfl (PV.loadA 0 rfl rfl xa_ta69), trivial⟩ rfl rfl rfl rfl rfl rfl rfl (EV.mapUpdate 2 xa_tm55 rfl rfl rfl hn rfl) (fun _ => ?_)
  refine AR.done [3, 4, 5, 0, 1, 2] rfl ?_
  refine AR.last [] [0, 1, 2, 3, 4, 5, 6] trivial rfl rfl rfl ?_
  refine NX.sub (E' := [(0, _), (1, _), (5, _)]) ⟨rfl, rfl, rfl, trivial⟩ ?_
  refine NX.seq ?_
  refine TR.seq ?_
  refine TR.region ?_
  refine RL.fieldAddr rfl xa_tf69_0 rfl rfl ?_
  refine RL.load1 0 rfl xa_ts32 rfl rfl rfl rfl ?_
  refine RL.lenSlice rfl xa_tl32 rfl rfl ?_
  refine RL.bin rfl rfl rfl BinV.eql rfl ?_
  refine RL.nil ?_
  refine NX.seq ?_
  refine TR.cond rfl (fun h2 => ?_) (fun h2 => ?_)
  · skip
    have he := of_decide_eq_true h2
    refine TR.region ?_
    refine RL.move rfl rfl rfl ?_
    refine RL.nilCheck rfl rfl rfl ?_
    refine RL.fieldAddr rfl xa_tf57_0 rfl rfl ?_
    refine RL.load1 1 rfl xa_ts55 rfl rfl rfl rfl ?_
    refine RL.move rfl rfl rfl ?_
    refine RL.ofEV rfl rfl (EV.delete 2 xa_tm55 rfl rfl hn rfl) ?_
    refine RL.nil ?_
    refine NX.end0 () rfl rfl (fun w hw => ?_)
    have h9 : St w (Box b 57 (dkC s) :: MpB s.m (kvDel (kvSet (fsV s.fs) n (flV f)) n) :: M) F := hw.drop 0 rfl
    rw [fsV_set, fsV_del] at h9
    rw [show setF s.fs n f = fdel (fset s.fs n f) n from by unfold setF; rw [if_pos (by omega)]]
    exact h9
  · skip
    have he := of_decide_eq_false h2
    refine TR.skip ?_
    refine NX.end0 () rfl rfl (fun w hw => ?_)
    have h9 : St w (Box b 57 (dkC s) :: MpB s.m (kvSet (fsV s.fs) n (flV f)) :: M) F := hw.drop 0 rfl
    rw [fsV_set] at h9
    rw [show setF s.fs n f = fset s.fs n f from by unfold setF; rw [if_neg (by omega)]]
    exact h9
theorem harden_spec {b : Nat} {s : Ds} {M : List HP} {F : List Fact} (hok : OkF s.fs) : Ctr Tryz.prog 34 [.pointer (some ⟨b, 0, none⟩)] (Box b 57 (dkC s) :: MpB s.m (fsV s.fs) :: M) F Unit (fun _ => .tuple #[]) (fun _ => Box b 57 (dkC ({ s with fs := hard s.fs })) :: MpB ({ s with fs := hard s.fs }).m (fsV ({ s with fs := hard s.fs }).fs) :: M) (fun _ => F) := by
  refine Ctr.body Tryz.func34 rfl rfl ?_
  refine TR.seq ?_
  refine TR.region ?_
  refine RL.move rfl rfl rfl ?_
  refine RL.nilCheck rfl rfl rfl ?_
  refine RL.fieldAddr rfl xa_tf57_0 rfl rfl ?_
  refine RL.load1 0 rfl xa_ts55 rfl rfl rfl rfl ?_
  refine RL.ofGV rfl rfl (GV.range 1 xa_tm55 rfl rfl) (fun q => ?_)
  refine RL.nil ?_
  refine NX.seq ?_
  refine TR.block ?_
  refine TR.loopP (ι := (List Int × Option Int)) (fun x => x.1.Nodup ∧ True) (fun x => [(0, .pointer (some ⟨b, 0, none⟩)), (8, .pointer (some ⟨q, 0, none⟩))]) (fun x => Box b 57 (dkC s) :: RgB s.m q (fsV (hardBut s.fs x.1)) x.1 x.2 :: M) (fun _ => F) (fun x => x.1.length) ⟨(fsV s.fs).map Prod.fst, none⟩ ⟨by rw [fsV_keys]; exact hok.keys, trivial⟩ ⟨rfl, rfl, trivial⟩ (fun w hw => (by rw [fsV_keys, hardBut_all]; rw [fsV_keys] at hw; exact hw)) (fun x hx => ?_)
  refine TR.seq ?_
  refine TR.region ?_
  refine RL.ofGV rfl rfl (GV.next 1 rfl rfl) (fun nx => ?_)
  obtain ⟨_ | nx, hnx⟩ := nx
  · skip
    refine RL.extract rfl rfl rfl rfl ?_
    refine RL.nil ?_
    refine NX.seq ?_
    refine TR.seq ?_
    refine TR.condF rfl ?_
    refine TR.exit ?_
    refine NX.exitThen ?_
    refine NX.exitThen ?_
    refine NX.exitHere ?_
    have hl : x.1 = [] := hnx
    refine NX.end0 () rfl rfl (fun w hw => ?_)
    have h9 : St w (Box b 57 (dkC s) :: MpB s.m (fsV (hardBut s.fs x.1)) :: M) F := hw
    rw [hl, hardBut_none] at h9
    exact h9
  · skip
    refine RL.extract rfl rfl rfl rfl ?_
    refine RL.nil ?_
    refine NX.seq ?_
    refine TR.seq ?_
    refine TR.condT rfl ?_
    refine TR.skip ?_
    refine NX.seq ?_
    refine TR.block ?_
    refine TR.seq ?_
    refine TR.region ?_
    obtain ⟨nk, nv⟩ := nx
    obtain ⟨f, hf0, hfv⟩ := fsV_mem hnx.2
    have hfv2 : nv = flV f := hfv
    subst hfv2
    have hf : (nk, f) ∈ s.fs := hardBut_left hf0 hnx.1
    have hnk : I64 nk := by have := hok.fits _ hf; exact ⟨by omega, by omega⟩
    refine RL.entry 1 rfl rfl rfl hnx.2 rfl ?_
    refine RL.extract rfl rfl rfl rfl ?_
    refine RL.extract rfl rfl rfl rfl ?_
    refine RL.allocA rfl (Tryz.zeroValue69) rfl (fun b1 => ?_)
    refine RL.assign rfl rfl rfl ?_
    refine RL.storeA 0 rfl rfl rfl rfl xa_tz69 rfl rfl ?_
    refine RL.nil ?_
    refine NX.seq ?_
    refine TR.sub (E' := [(0, _), (2, _), (3, _), (8, _), (9, _), (10, _), (11, _), (12, _), (13, _)]) ⟨rfl, rfl, rfl, rfl, rfl, rfl, rfl, rfl, rfl, trivial⟩ ?_
    refine TR.draw mixed ?_
    apply AR.more [(0, _), (1, _), (2, _), (3, _), (4, _), (5, _), (6, _), (7, _), (8, _), (9, _), (10, _)]
    refine AR.eff [0, 1, 2, 3, 4, 5, 6, 7, 8, 9, 10] 11 [0, 1, 2, 3, 4, 5, 6, 7, 8, 9, 10, 11] ⟨QOne.yes rfl rfl rfl (PV.move rfl), QOne.yes rfl rfl rfl (PV.nilCheck rfl), QOne.yes rfl rfl rfl (PV.fieldAddr xa_tf57_0 rfl), QOne.yes rfl rfl rfl (PV.load1 1 xa_ts55 rfl rfl rfl), QOne.yes rfl rfl rfl (PV.move rfl), QOne.yes rfl rfl rfl (PV.fieldAddr xa_tf69_0 rfl), QOne.yes rfl rfl rfl (PV.load1 0 xa_ts32 rfl rfl rfl), QOne.yes rfl rfl rfl (PV.fieldAddr xa_tf69_0 rfl), QOne.yes rfl rfl rfl (PV.load1 0 xa_ts32 rfl rfl rfl), QOne.yes rfl rfl rfl (PV.lenSlice xa_tl32 rfl), QOne.yes rfl rfl rfl (PV.build rfl (xa_bv69_0_1 _ _ _ _)), trivial⟩ rfl rfl rfl rfl rfl rfl rfl (EV.rangeUpdate 2 xa_tm55 rfl rfl rfl hnk rfl (hardBut_in hf)) (fun _ => ?_)
    refine AR.done [3, 4, 10, 0, 1, 2, 5, 6, 7, 8, 9] rfl ?_
    refine AR.last [] [0, 1, 2, 3, 4, 5, 6, 7, 8, 9, 10, 11] trivial rfl rfl rfl ?_
    refine NX.sub (E' := [(0, _), (2, _), (3, _), (8, _), (9, _), (10, _), (11, _), (12, _), (13, _), (14, _), (15, _), (16, _), (17, _), (18, _), (19, _), (20, _), (21, _), (22, _), (23, _), (24, _)]) ⟨rfl, rfl, rfl, rfl, rfl, rfl, rfl, rfl, rfl, rfl, rfl, rfl, rfl, rfl, rfl, rfl, rfl, rfl, rfl, rfl, trivial⟩ ?_
    refine NX.off ?_
    refine NX.roundP (x.1.filter fun y => !decide (y = nk), none) ⟨left_nodup hx.1, trivial⟩ (left_lt hnx.1) ⟨rfl, rfl, trivial⟩ (fun w hw => ?_)
    have h9 : St w (Box b 57 (dkC s) :: RgB s.m q (kvSet (fsV (hardBut s.fs x.1)) nk (flV (hardF f))) (x.1.filter fun y => !decide (y = nk)) none :: M) F := hw.drop 0 rfl
    rw [fsV_set, hardBut_step hok.keys hf] at h9
    exact h9
end Go.Proofs.YtdnjoffkanjjhaaGreatDoor

namespace Go.Proofs.YtdnjoffkanjjhaaGreatDoor
open Go.GL
set_option linter.unusedVariables false
theorem xb_bv57_0_1 (x0 : Option Nat) (x1 : Int) : BuildV Tryz.prog 57 [(0, .map x0), (1, .int .i64 x1)] (.agg #[.map x0, .int .i64 x1, .bool false, .bool false, .int .i64 0]) := fun w => by kernel_rfl
theorem xb_ni32 : noInt Tryz.prog 32 = true := by kernel_rfl
theorem xb_ta69 : tyAgg Tryz.prog 69 2 = true := by kernel_rfl
theorem xb_te5 : tyElem Tryz.prog 5 1 1 = true := by kernel_rfl
theorem xb_tf57_0 : fieldOff Tryz.prog 57 0 0 = true := by kernel_rfl
theorem xb_tf57_1 : fieldOff Tryz.prog 57 1 1 = true := by kernel_rfl
theorem xb_tf57_2 : fieldOff Tryz.prog 57 2 2 = true := by kernel_rfl
theorem xb_tf69_0 : fieldOff Tryz.prog 69 0 0 = true := by kernel_rfl
theorem xb_tl32 : tySlice Tryz.prog 32 5 = true := by kernel_rfl
theorem xb_tm55 : tyMap Tryz.prog 55 3 69 = true := by kernel_rfl
theorem xb_ts3 : tyScalar Tryz.prog 3 = true := by kernel_rfl
theorem xb_ts32 : tyScalar Tryz.prog 32 = true := by kernel_rfl
theorem xb_ts4 : tyScalar Tryz.prog 4 = true := by kernel_rfl
theorem xb_ts55 : tyScalar Tryz.prog 55 = true := by kernel_rfl
theorem xb_tz69 : tySize Tryz.prog 69 2 = true := by kernel_rfl
theorem append_spec {n : Int} {x : List UInt8} {ob : Option Addr} {cb : Nat} {b : Nat} {s : Ds} {M : List HP} {F : List Fact} (hok : OkF s.fs) (hA : AllF s.fs ∈ F) (hx : ArrF ob (bytesV x) ∈ F) (hu : used s.fs ≤ s.room) (hrm : s.room ≤ 16777216) (hn0 : I64 n) (h0 : -9223372036854775807 ≤ s.left ∧ s.left ≤ 9223372036854775807) (hxl : x.length ≤ 4398046511104) : Ctr Tryz.prog 12 [.pointer (some ⟨b, 0, none⟩), I n, .slice ob x.length cb] (Box b 57 (dkC s) :: MpB s.m (fsV s.fs) :: M) F {z : RdX // ((fget s.fs n).b ++ x).length ≤ z.c} (fun _ => I (appE s n x)) (fun z => Box b 57 (dkC (appS s n x z.1)) :: MpB (appS s n x z.1).m (fsV (appS s n x z.1).fs) :: M) (fun z => AllF (appS s n x z.1).fs :: F) := by
  refine Ctr.body Tryz.func12 rfl rfl ?_
  refine TR.seq ?_
  refine TR.region ?_
  refine RL.assign rfl rfl rfl ?_
  refine RL.nil ?_
  refine NX.seq ?_
  refine TR.seq ?_
  refine TR.block ?_
  refine TR.seq ?_
  refine TR.region ?_
  refine RL.move rfl rfl rfl ?_
  refine RL.call rfl rfl Tryz.call30 rfl (exists_spec) (fun _ => ?_)
  refine RL.not rfl rfl rfl ?_
  refine RL.assign rfl rfl rfl ?_
  refine RL.nil ?_
  refine NX.seq ?_
  refine TR.cond rfl (fun h1 => ?_) (fun h1 => ?_)
  · skip
    have hth : ¬ there n := by have h9 := h1; simp at h9; unfold there; omega
    refine TR.seq ?_
    refine TR.region ?_
    refine RL.assign rfl rfl rfl ?_
    refine RL.nil ?_
    refine NX.seq ?_
    refine TR.ret ?_
    refine NX.retBlock ?_
    refine NX.retThen ?_
    refine NX.ret1 (⟨⟨none, ((fget s.fs n).b ++ x).length⟩, Nat.le_refl _⟩ : {z : RdX // ((fget s.fs n).b ++ x).length ≤ z.c}) rfl rfl (by unfold appE; rw [if_pos hth]) (fun w hw => ?_)
    rw [show appS s n x ⟨none, ((fget s.fs n).b ++ x).length⟩ = s from by unfold appS; rw [if_pos hth]]
    exact hw.allF_keep hA
  · skip
    have hth : there n := by have h9 := h1; simp at h9; exact h9
    have hn : I64 n := ⟨by have := hth.1; omega, by have := hth.2; omega⟩
    refine TR.seq ?_
    refine TR.region ?_
    refine RL.move rfl rfl rfl ?_
    refine RL.nilCheck rfl rfl rfl ?_
    refine RL.fieldAddr rfl xb_tf57_2 rfl rfl ?_
    refine RL.load1 0 rfl xb_ts4 rfl rfl rfl rfl ?_
    refine RL.assign rfl rfl rfl ?_
    refine RL.nil ?_
    refine NX.seq ?_
    refine TR.cond rfl (fun h2 => ?_) (fun h2 => ?_)
    · skip
      have hoff : s.off = true := h2
      refine TR.seq ?_
      refine TR.region ?_
      refine RL.assign rfl rfl rfl ?_
      refine RL.nil ?_
      refine NX.seq ?_
      refine TR.ret ?_
      refine NX.retBlock ?_
      refine NX.retThen ?_
      refine NX.ret1 (⟨⟨none, ((fget s.fs n).b ++ x).length⟩, Nat.le_refl _⟩ : {z : RdX // ((fget s.fs n).b ++ x).length ≤ z.c}) rfl rfl (by unfold appE; rw [if_neg (fun h => h hth), if_pos hoff]) (fun w hw => ?_)
      rw [show appS s n x ⟨none, ((fget s.fs n).b ++ x).length⟩ = s from by unfold appS; rw [if_neg (fun h => h hth), if_pos hoff]]
      exact hw.allF_keep hA
    · skip
      have hoff : ¬ s.off = true := by have h9 : s.off = false := h2; rw [h9]; simp
      refine TR.seq ?_
      refine TR.sub (E' := [(0, _), (1, _), (2, _), (6, _)]) ⟨rfl, rfl, rfl, rfl, trivial⟩ ?_
      refine TR.draw mixed ?_
      apply AR.more [(0, _), (1, _), (2, _), (3, _), (4, _), (5, _), (6, _)]
      refine AR.eff [0, 1, 2, 3, 4, 5, 6] 7 [0, 1, 2, 3, 4, 5, 6, 7, 8, 9, 10] ⟨QOne.yes rfl rfl rfl (PV.move rfl), QOne.yes rfl rfl rfl (PV.lenSlice xb_tl32 rfl), QOne.yes rfl rfl rfl (PV.move rfl), QOne.yes rfl rfl rfl (PV.nilCheck rfl), QOne.yes rfl rfl rfl (PV.fieldAddr xb_tf57_1 rfl), QOne.yes rfl rfl rfl (PV.load1 0 xb_ts3 rfl rfl rfl), QOne.yes rfl rfl rfl (PV.move rfl), trivial⟩ rfl rfl rfl rfl rfl rfl rfl (EV.call rfl Tryz.call31 (used_spec hok (by omega))) (fun _ => ?_)
      refine AR.done [6] rfl ?_
      apply AR.more [(8, _), (9, _), (10, _)]
      refine AR.last [0, 1, 2, 3, 4, 5, 8, 9, 10] [0, 1, 2, 3, 4, 5, 6, 7, 8, 9, 10] ⟨QOne.yes rfl rfl rfl (PV.move rfl), QOne.yes rfl rfl rfl (PV.lenSlice xb_tl32 rfl), QOne.yes rfl rfl rfl (PV.move rfl), QOne.yes rfl rfl rfl (PV.nilCheck rfl), QOne.yes rfl rfl rfl (PV.fieldAddr xb_tf57_1 rfl), QOne.yes rfl rfl rfl (PV.load1 0 xb_ts3 rfl rfl rfl), QOne.yes rfl rfl rfl (PV.bin rfl rfl (BinV.sub _ rfl (by omega) (by omega))), QOne.yes rfl rfl rfl (PV.bin rfl rfl BinV.gtr), QOne.yes rfl rfl rfl (PV.assign rfl), trivial⟩ rfl rfl rfl ?_
      refine NX.sub (E' := [(0, _), (1, _), (2, _), (6, _), (17, _)]) ⟨rfl, rfl, rfl, rfl, rfl, trivial⟩ ?_
      skip
      refine NX.seq ?_
      refine TR.cond rfl (fun h3 => ?_) (fun h3 => ?_)
      · skip
        have hfull : (s.room : Int) - used s.fs < x.length := of_decide_eq_true h3
        refine TR.seq ?_
        refine TR.region ?_
        refine RL.assign rfl rfl rfl ?_
        refine RL.nil ?_
        refine NX.seq ?_
        refine TR.ret ?_
        refine NX.retBlock ?_
        refine NX.retThen ?_
        refine NX.ret1 (⟨⟨none, ((fget s.fs n).b ++ x).length⟩, Nat.le_refl _⟩ : {z : RdX // ((fget s.fs n).b ++ x).length ≤ z.c}) rfl rfl (by unfold appE; rw [if_neg (fun h => h hth), if_neg hoff, if_pos hfull]) (fun w hw => ?_)
        rw [show appS s n x ⟨none, ((fget s.fs n).b ++ x).length⟩ = s from by unfold appS; rw [if_neg (fun h => h hth), if_neg hoff, if_pos hfull]]
        exact hw.allF_keep hA
      · skip
        have hfull : ¬ (s.room : Int) - used s.fs < x.length := of_decide_eq_false h3
        have hfu := fget_used s.fs n
        refine TR.skip ?_
        refine NX.off ?_
        refine NX.seq ?_
        refine TR.seq ?_
        refine TR.weak (fun w hw => hw.allF_get (k := n) (by first | exact hA | exact .tail _ hA | exact .tail _ (.tail _ hA) | exact .tail _ (.tail _ (.tail _ hA)) | exact .tail _ (.tail _ (.tail _ (.tail _ hA))) | exact .tail _ (.tail _ (.tail _ (.tail _ (.tail _ hA)))) | exact .tail _ (.tail _ (.tail _ (.tail _ (.tail _ (.tail _ hA))))))) ?_
        refine TR.region ?_
        refine RL.move rfl rfl rfl ?_
        refine RL.nilCheck rfl rfl rfl ?_
        refine RL.fieldAddr rfl xb_tf57_0 rfl rfl ?_
        refine RL.load1 0 rfl xb_ts55 rfl rfl rfl rfl ?_
        refine RL.move rfl rfl rfl ?_
        refine RL.lookupF 1 rfl xb_tm55 rfl rfl hn rfl Tryz.zeroValue69 rfl ?_
        refine RL.allocA rfl (Tryz.zeroValue69) rfl (fun b4 => ?_)
        refine RL.storeA 0 rfl rfl rfl rfl xb_tz69 rfl rfl ?_
        refine RL.nil ?_
        refine NX.seq ?_
        refine TR.seq ?_
        refine TR.region ?_
        refine RL.fieldAddr rfl xb_tf69_0 rfl rfl ?_
        refine RL.load1 0 rfl xb_ts32 rfl rfl rfl rfl ?_
        refine RL.call rfl rfl Tryz.call29 rfl (cloneB_spec (l := (fget s.fs n).b) (rd_fact (.head _)) (by omega)) (fun y => ?_)
        refine RL.move rfl rfl rfl ?_
        refine RL.ofGV rfl rfl (GV.append (j := 0) xb_tl32 xb_ni32 xb_te5 rfl rfl rfl (src_fact (xs := bytesV x) (by first | exact hx | exact .tail _ hx | exact .tail _ (.tail _ hx) | exact .tail _ (.tail _ (.tail _ hx)) | exact .tail _ (.tail _ (.tail _ (.tail _ hx))) | exact .tail _ (.tail _ (.tail _ (.tail _ (.tail _ hx)))) | exact .tail _ (.tail _ (.tail _ (.tail _ (.tail _ (.tail _ hx)))))) (by rw [bytesV_length, Nat.mul_one]) (bytesV_one _)) (by omega) (by omega)) (fun z => ?_)
        refine RL.open1 (fun w hw => ⟨hw.ownLen.2, hw⟩) (fun hzc => ?_)
        refine RL.weak (fun w hw => hw.keepSl) ?_
        refine RL.fieldAddr rfl xb_tf69_0 rfl rfl ?_
        refine RL.store1 0 rfl xb_ts32 rfl rfl rfl rfl rfl ?_
        refine RL.weak (M' := Box b4 69 (flC (appF s n x ⟨z.1, z.2⟩)) :: Box b 57 (dkC s) :: MpB s.m (fsV s.fs) :: M) (F' := ArrF z.1 (bytesV (appF s n x ⟨z.1, z.2⟩).b) :: F) (fun w hw => ?_) ?_
        · show St w (Box _ _ [.slice z.1 ((fget s.fs n).b ++ x).length z.2, I (fget s.fs n).dur] :: _) (ArrF z.1 (bytesV ((fget s.fs n).b ++ x)) :: F)
          rw [List.length_append, bytesV_append]
          exact hw.facts (fun φ h => by rcases List.mem_cons.1 h with e1 | h; exact e1 ▸ .head _; exact .tail _ (.tail _ h))
        refine RL.nil ?_
        refine NX.seq ?_
        refine TR.seq ?_
        refine TR.region ?_
        refine RL.move rfl rfl rfl ?_
        refine RL.move rfl rfl rfl ?_
        refine RL.loadA 0 rfl rfl rfl xb_ta69 rfl ?_
        refine RL.call rfl rfl Tryz.call32 rfl (Ctr.frame (J := [Box b 57 (dkC s), MpB s.m (fsV s.fs)]) (J' := fun _ => [Box b 57 (dkC ({ s with fs := setF s.fs n (appF s n x ⟨z.1, z.2⟩) })), MpB s.m (fsV ({ s with fs := setF s.fs n (appF s n x ⟨z.1, z.2⟩) }).fs)]) [_] (set_spec (f := appF s n x ⟨z.1, z.2⟩) hn)) (fun _ => ?_)
        refine RL.nil ?_
        refine NX.seq ?_
        refine TR.seq ?_
        refine TR.seq ?_
        refine TR.region ?_
        refine RL.move rfl rfl rfl ?_
        refine RL.call rfl rfl Tryz.call33 rfl (Ctr.frame (J := [Box b 57 (dkC ({ s with fs := setF s.fs n (appF s n x ⟨z.1, z.2⟩) })), MpB s.m (fsV ({ s with fs := setF s.fs n (appF s n x ⟨z.1, z.2⟩) }).fs)]) (J' := fun _ => [Box b 57 (dkC (stepS { s with fs := setF s.fs n (appF s n x ⟨z.1, z.2⟩) })), MpB (stepS { s with fs := setF s.fs n (appF s n x ⟨z.1, z.2⟩) }).m (fsV (stepS { s with fs := setF s.fs n (appF s n x ⟨z.1, z.2⟩) }).fs)]) [_] (step_spec (s := { s with fs := setF s.fs n (appF s n x ⟨z.1, z.2⟩) }) h0)) (fun _ => ?_)
        refine RL.not rfl rfl rfl ?_
        refine RL.nil ?_
        refine NX.seq ?_
        refine TR.cond rfl (fun h6 => ?_) (fun h6 => ?_)
        · skip
          have hst : ¬ stepB s = true := by rw [← stepB_fs s (setF s.fs n (appF s n x ⟨z.1, z.2⟩))]; simpa using h6
          refine TR.seq ?_
          refine TR.region ?_
          refine RL.assign rfl rfl rfl ?_
          refine RL.nil ?_
          refine NX.seq ?_
          refine TR.ret ?_
          refine NX.retThen ?_
          refine NX.ret1 (⟨⟨z.1, z.2⟩, by rw [List.length_append]; exact hzc⟩ : {z : RdX // ((fget s.fs n).b ++ x).length ≤ z.c}) rfl rfl (by unfold appE; rw [if_neg (fun h => h hth), if_neg hoff, if_neg hfull, if_neg hst]) (fun w hw => ?_)
          rw [show appS s n x ⟨z.1, z.2⟩ = stepS { s with fs := setF s.fs n (appF s n x ⟨z.1, z.2⟩) } from by unfold appS; rw [if_neg (fun h => h hth), if_neg hoff, if_neg hfull]]
          have h8 := (hw.drop 0 rfl).allF_setF (k := n) (f := appF s n x ⟨z.1, z.2⟩) (by first | exact hA | exact .tail _ hA | exact .tail _ (.tail _ hA) | exact .tail _ (.tail _ (.tail _ hA)) | exact .tail _ (.tail _ (.tail _ (.tail _ hA))) | exact .tail _ (.tail _ (.tail _ (.tail _ (.tail _ hA)))) | exact .tail _ (.tail _ (.tail _ (.tail _ (.tail _ (.tail _ hA)))))) (.head _)
          have h7 := h8.derive (ψ := AllF (stepS { s with fs := setF s.fs n (appF s n x ⟨z.1, z.2⟩) }).fs) (fun K hf => by rw [stepS_fs]; exact hf _ (.head _))
          exact h7.facts (fun φ h => by rcases List.mem_cons.1 h with e1 | h; exact e1 ▸ .head _; exact .tail _ (.tail _ (.tail _ h)))
        · skip
          have hst : stepB s = true := by rw [← stepB_fs s (setF s.fs n (appF s n x ⟨z.1, z.2⟩))]; simpa using h6
          refine TR.skip ?_
          refine NX.seq ?_
          refine TR.seq ?_
          refine TR.region ?_
          refine RL.assign rfl rfl rfl ?_
          refine RL.nil ?_
          refine NX.seq ?_
          refine TR.ret ?_
          refine NX.ret1 (⟨⟨z.1, z.2⟩, by rw [List.length_append]; exact hzc⟩ : {z : RdX // ((fget s.fs n).b ++ x).length ≤ z.c}) rfl rfl (by unfold appE; rw [if_neg (fun h => h hth), if_neg hoff, if_neg hfull, if_pos hst]) (fun w hw => ?_)
          rw [show appS s n x ⟨z.1, z.2⟩ = stepS { s with fs := setF s.fs n (appF s n x ⟨z.1, z.2⟩) } from by unfold appS; rw [if_neg (fun h => h hth), if_neg hoff, if_neg hfull]]
          have h8 := (hw.drop 0 rfl).allF_setF (k := n) (f := appF s n x ⟨z.1, z.2⟩) (by first | exact hA | exact .tail _ hA | exact .tail _ (.tail _ hA) | exact .tail _ (.tail _ (.tail _ hA)) | exact .tail _ (.tail _ (.tail _ (.tail _ hA))) | exact .tail _ (.tail _ (.tail _ (.tail _ (.tail _ hA)))) | exact .tail _ (.tail _ (.tail _ (.tail _ (.tail _ (.tail _ hA)))))) (.head _)
          have h7 := h8.derive (ψ := AllF (stepS { s with fs := setF s.fs n (appF s n x ⟨z.1, z.2⟩) }).fs) (fun K hf => by rw [stepS_fs]; exact hf _ (.head _))
          exact h7.facts (fun φ h => by rcases List.mem_cons.1 h with e1 | h; exact e1 ▸ .head _; exact .tail _ (.tail _ (.tail _ h)))
theorem sync_spec {b : Nat} {s : Ds} {M : List HP} {F : List Fact} (hok : OkF s.fs) (h0 : -9223372036854775807 ≤ s.left ∧ s.left ≤ 9223372036854775807) : Ctr Tryz.prog 13 [.pointer (some ⟨b, 0, none⟩)] (Box b 57 (dkC s) :: MpB s.m (fsV s.fs) :: M) F Unit (fun _ => I (syncE s)) (fun _ => Box b 57 (dkC (syncS s)) :: MpB (syncS s).m (fsV (syncS s).fs) :: M) (fun _ => F) := by
  refine Ctr.body Tryz.func13 rfl rfl ?_
  refine TR.seq ?_
  refine TR.region ?_
  refine RL.assign rfl rfl rfl ?_
  refine RL.nil ?_
  refine NX.seq ?_
  refine TR.seq ?_
  refine TR.seq ?_
  refine TR.region ?_
  refine RL.move rfl rfl rfl ?_
  refine RL.nilCheck rfl rfl rfl ?_
  refine RL.fieldAddr rfl xb_tf57_2 rfl rfl ?_
  refine RL.load1 0 rfl xb_ts4 rfl rfl rfl rfl ?_
  refine RL.move rfl rfl rfl ?_
  refine RL.part (fun h1 => ?_) (fun h1 => ?_)
  · skip
    have hoff : s.off = true := h1
    refine RL.skip rfl rfl rfl ?_
    refine RL.skip rfl rfl rfl ?_
    refine RL.skip rfl rfl rfl ?_
    refine RL.pickT rfl rfl rfl rfl ?_
    refine RL.nil ?_
    refine NX.seq ?_
    refine TR.condT rfl ?_
    refine TR.seq ?_
    refine TR.region ?_
    refine RL.assign rfl rfl rfl ?_
    refine RL.nil ?_
    refine NX.seq ?_
    refine TR.ret ?_
    refine NX.retThen ?_
    refine NX.ret1 () rfl rfl (by unfold syncE; rw [if_pos (Or.inl hoff)]) (fun w hw => ?_)
    rw [show syncS s = s from by unfold syncS; rw [if_pos hoff]]
    exact hw
  · skip
    have hoff : ¬ s.off = true := by have h9 : s.off = false := h1; rw [h9]; simp
    refine RL.move rfl rfl rfl ?_
    refine RL.call rfl rfl Tryz.call33 rfl (step_spec (s := s) h0) (fun _ => ?_)
    refine RL.not rfl rfl rfl ?_
    refine RL.pickF rfl rfl rfl rfl ?_
    refine RL.nil ?_
    refine NX.seq ?_
    refine TR.cond rfl (fun h2 => ?_) (fun h2 => ?_)
    · skip
      have hst : stepB s = false := by simpa using h2
      refine TR.seq ?_
      refine TR.region ?_
      refine RL.assign rfl rfl rfl ?_
      refine RL.nil ?_
      refine NX.seq ?_
      refine TR.ret ?_
      refine NX.retThen ?_
      refine NX.ret1 () rfl rfl (by unfold syncE; rw [if_pos (Or.inr hst)]) (fun w hw => ?_)
      rw [show syncS s = stepS s from by unfold syncS; rw [if_neg hoff, if_pos hst]]
      exact hw
    · skip
      have hst : ¬ stepB s = false := by have h9 := h2; simp at h9; rw [h9]; simp
      refine TR.skip ?_
      refine NX.seq ?_
      refine TR.seq ?_
      refine TR.region ?_
      refine RL.move rfl rfl rfl ?_
      refine RL.call rfl rfl Tryz.call34 rfl (harden_spec (s := stepS s) (by rw [stepS_fs]; exact hok)) (fun _ => ?_)
      refine RL.nil ?_
      refine NX.seq ?_
      refine TR.seq ?_
      refine TR.region ?_
      refine RL.assign rfl rfl rfl ?_
      refine RL.nil ?_
      refine NX.seq ?_
      refine TR.ret ?_
      refine NX.ret1 () rfl rfl (by unfold syncE; rw [if_neg (fun h => h.elim hoff hst)]) (fun w hw => ?_)
      rw [show syncS s = { stepS s with fs := hard (stepS s).fs } from by unfold syncS; rw [if_neg hoff, if_neg hst]]
      exact hw
theorem field0_69 (a : Option Addr) (n c : Nat) (d : Int) : ∀ w, (Instr.field 69 (.agg #[.slice a n c, I d]) 0).run Tryz.prog w = .ok (.slice a n c) w := fun w => by kernel_rfl
theorem read_dspec {n : Int} {b : Nat} {s : Ds} {M : List HP} {F : List Fact} (hok : OkF s.fs) (hA : AllF s.fs ∈ F) (hu : used s.fs ≤ 70368744177664) (hn0 : I64 n) : Ctr Tryz.prog 17 [.pointer (some ⟨b, 0, none⟩), I n] (Box b 57 (dkC s) :: MpB s.m (fsV s.fs) :: M) F (Option Addr × Nat) (fun z => .tuple #[.slice z.1 (readB s n).length z.2, I (readE s n)]) (fun z => OwnSl 5 1 z.1 (readB s n).length z.2 (bytesV (readB s n)) :: Box b 57 (dkC (s)) :: MpB (s).m (fsV (s).fs) :: M) (fun _ => F) := by
  refine Ctr.body Tryz.func17 rfl rfl ?_
  refine TR.seq ?_
  refine TR.region ?_
  refine RL.assign rfl rfl rfl ?_
  refine RL.assign rfl rfl rfl ?_
  refine RL.nil ?_
  refine NX.seq ?_
  refine TR.seq ?_
  refine TR.block ?_
  refine TR.seq ?_
  refine TR.region ?_
  refine RL.move rfl rfl rfl ?_
  refine RL.call rfl rfl Tryz.call30 rfl (exists_spec) (fun _ => ?_)
  refine RL.not rfl rfl rfl ?_
  refine RL.assign rfl rfl rfl ?_
  refine RL.nil ?_
  refine NX.seq ?_
  refine TR.cond rfl (fun h1 => ?_) (fun h1 => ?_)
  · skip
    have hth : ¬ there n := by have h9 := h1; simp at h9; unfold there; omega
    refine TR.seq ?_
    refine TR.region ?_
    refine RL.assign rfl rfl rfl ?_
    refine RL.assign rfl rfl rfl ?_
    refine RL.nil ?_
    refine NX.seq ?_
    refine TR.ret ?_
    refine NX.retBlock ?_
    refine NX.retThen ?_
    refine NX.ret2x rfl rfl rfl (fun w hw => ⟨(none, 0), ?_, ?_⟩)
    · unfold readE readB; rw [if_pos hth, if_pos hth]; rfl
    · rw [show readB s n = [] from by unfold readB; rw [if_pos hth]]; exact OwnSl.nil_new 5 1 hw
  · skip
    have hth : there n := by have h9 := h1; simp at h9; exact h9
    have hn : I64 n := ⟨by have := hth.1; omega, by have := hth.2; omega⟩
    refine TR.seq ?_
    refine TR.region ?_
    refine RL.move rfl rfl rfl ?_
    refine RL.nilCheck rfl rfl rfl ?_
    refine RL.fieldAddr rfl xb_tf57_2 rfl rfl ?_
    refine RL.load1 0 rfl xb_ts4 rfl rfl rfl rfl ?_
    refine RL.assign rfl rfl rfl ?_
    refine RL.nil ?_
    refine NX.seq ?_
    refine TR.cond rfl (fun h2 => ?_) (fun h2 => ?_)
    · skip
      have hoff : s.off = true := h2
      refine TR.seq ?_
      refine TR.region ?_
      refine RL.assign rfl rfl rfl ?_
      refine RL.assign rfl rfl rfl ?_
      refine RL.nil ?_
      refine NX.seq ?_
      refine TR.ret ?_
      refine NX.retBlock ?_
      refine NX.retThen ?_
      refine NX.ret2x rfl rfl rfl (fun w hw => ⟨(none, 0), ?_, ?_⟩)
      · unfold readE readB; rw [if_neg (show ¬ ¬ there n from fun h => h hth), if_neg (show ¬ ¬ there n from fun h => h hth), if_pos hoff, if_pos hoff]; rfl
      · rw [show readB s n = [] from by unfold readB; rw [if_neg (show ¬ ¬ there n from fun h => h hth), if_pos hoff]]; exact OwnSl.nil_new 5 1 hw
    · skip
      have hoff : ¬ s.off = true := by have h9 : s.off = false := h2; rw [h9]; simp
      refine TR.skip ?_
      refine NX.off ?_
      refine NX.seq ?_
      refine TR.seq ?_
      have hfu := fget_used s.fs n
      refine TR.weak (fun w hw => hw.allF_get (k := n) hA) ?_
      refine TR.region ?_
      refine RL.move rfl rfl rfl ?_
      refine RL.nilCheck rfl rfl rfl ?_
      refine RL.fieldAddr rfl xb_tf57_0 rfl rfl ?_
      refine RL.load1 0 rfl xb_ts55 rfl rfl rfl rfl ?_
      refine RL.move rfl rfl rfl ?_
      refine RL.lookupF 1 rfl xb_tm55 rfl rfl hn rfl Tryz.zeroValue69 rfl ?_
      refine RL.fieldV rfl rfl (field0_69 _ _ _ _) rfl ?_
      refine RL.call rfl rfl Tryz.call29 rfl (cloneB_spec (l := (fget s.fs n).b) (rd_fact (.head _)) (by omega)) (fun y => ?_)
      refine RL.assign rfl rfl rfl ?_
      refine RL.assign rfl rfl rfl ?_
      refine RL.nil ?_
      refine NX.seq ?_
      refine TR.ret ?_
      refine NX.ret2x rfl rfl rfl (fun w hw => ⟨y, ?_, ?_⟩)
      · unfold readE readB; rw [if_neg (show ¬ ¬ there n from fun h => h hth), if_neg (show ¬ ¬ there n from fun h => h hth), if_neg hoff, if_neg hoff]
      · rw [show readB s n = (fget s.fs n).b from by unfold readB; rw [if_neg (show ¬ ¬ there n from fun h => h hth), if_neg hoff]]; exact hw.facts (fun φ h => .tail _ h)
theorem new_ok {k : Nat} {M : List HP} {F : List Fact} (hk : k ≤ 16777216) : Ctr Tryz.prog 4 [I k] M F (Nat × Nat) (fun z => .tuple #[.pointer (some ⟨z.1, 0, none⟩), I 0]) (fun z => Box z.1 57 (dkC ⟨z.2, [], k, false, false, 0⟩) :: MpB z.2 (fsV []) :: M) (fun _ => F) := by
  refine Ctr.body Tryz.func4 rfl rfl ?_
  refine TR.seq ?_
  refine TR.region ?_
  refine RL.assign rfl rfl rfl ?_
  refine RL.assign rfl rfl rfl ?_
  refine RL.nil ?_
  refine NX.seq ?_
  refine TR.seq ?_
  refine TR.seq ?_
  refine TR.region ?_
  refine RL.move rfl rfl rfl ?_
  refine RL.bin rfl rfl rfl (BinV.to (d := false) BinV.lss (decide_eq_false (by omega))) rfl ?_
  refine RL.move rfl rfl rfl ?_
  refine RL.move rfl rfl rfl ?_
  refine RL.bin rfl rfl rfl (BinV.to (d := false) BinV.gtr (decide_eq_false (by omega))) rfl ?_
  refine RL.pickF rfl rfl rfl rfl ?_
  refine RL.nil ?_
  refine NX.seq ?_
  refine TR.condF rfl ?_
  refine TR.skip ?_
  refine NX.seq ?_
  refine TR.seq ?_
  refine TR.region ?_
  refine RL.ofGV rfl rfl GV.makeMap (fun m => ?_)
  refine RL.move rfl rfl rfl ?_
  refine RL.build rfl rfl (xb_bv57_0_1 _ _) rfl ?_
  refine RL.boxA rfl rfl rfl (fun b1 => ?_)
  refine RL.assign rfl rfl rfl ?_
  refine RL.assign rfl rfl rfl ?_
  refine RL.nil ?_
  refine NX.seq ?_
  refine TR.ret ?_
  exact NX.ret2 (⟨b1, m⟩ : Nat × Nat) rfl rfl rfl rfl (fun w hw => hw)
end Go.Proofs.YtdnjoffkanjjhaaGreatDoor

namespace Go.Proofs.YtdnjoffkanjjhaaGreatDoor
open Go.GL
set_option linter.unusedVariables false
end Go.Proofs.YtdnjoffkanjjhaaGreatDoor

namespace Go.GL
set_option linter.unusedVariables false
theorem CalmD.fits {s : Ds} {g : Lg} {x : List UInt8} {z : RdX} (h : CalmD s) (hf : there g.f) (hd : g.dn = false) (hx : ¬ (65536 : Int) < x.length) (hr : ¬ (s.room : Int) - used s.fs < (lgFr g x).length) : lgE s g x z = 0 ∧ lgS s g x z = { s with fs := hard (setF s.fs g.f (appF s g.f (lgFr g x) z)) } ∧ lgG s g x z = { g with n := g.n + 1 } := by
  have h1 : ¬ s.off = true := by rw [h.off]; simp
  have h2 : ¬ g.dn = true := by rw [hd]; simp
  have ha : appE s g.f (lgFr g x) = 0 := by unfold appE; rw [if_neg (show ¬ ¬ there g.f from fun e => e hf), if_neg h1, if_neg hr, if_pos h.step.2]
  have hs : appS s g.f (lgFr g x) z = { s with fs := setF s.fs g.f (appF s g.f (lgFr g x) z) } := by
    unfold appS
    rw [if_neg (show ¬ ¬ there g.f from fun e => e hf), if_neg h1, if_neg hr]
    exact (CalmD.step (s := { s with fs := setF s.fs g.f (appF s g.f (lgFr g x) z) }) ⟨h.off, h.armed⟩).1
  have hc : CalmD (appS s g.f (lgFr g x) z) := by rw [hs]; exact ⟨h.off, h.armed⟩
  obtain ⟨e1, e2, e3⟩ := lgE_sync (z := z) hx h2 (show ¬ appE s g.f (lgFr g x) ≠ 0 by rw [ha]; simp)
  refine ⟨by rw [e1, hc.sync.1], by rw [e2, hc.sync.2, hs], ?_⟩
  rw [e3, hc.sync.1]
  obtain ⟨f, n, dn⟩ := g
  simp only at hd
  subst hd
  rfl
theorem lgFr_pos (g : Lg) (x : List UInt8) : 0 < (lgFr g x).length := frameJ_pos _ _
theorem files_app {s : Ds} {n : Int} {fr : List UInt8} {z : RdX} (hok : OkF s.fs) (hn : there n) (hz : ((fget s.fs n).b ++ fr).length ≤ z.c) (hp : 0 < fr.length) :
    OkF (hard (setF s.fs n (appF s n fr z))) ∧ (fget (hard (setF s.fs n (appF s n fr z))) n).b = (fget s.fs n).b ++ fr ∧ used (hard (setF s.fs n (appF s n fr z))) = used s.fs + fr.length := by
  have hlen : (appF s n fr z).b.length = (fget s.fs n).b.length + fr.length := by show ((fget s.fs n).b ++ fr).length = _; rw [List.length_append]
  have e : setF s.fs n (appF s n fr z) = fset s.fs n (appF s n fr z) := by unfold setF; rw [if_neg (by omega)]
  refine ⟨OkF.hard (OkF.setF hok hn ⟨hz, ?_⟩), ?_, ?_⟩
  · have := (fget_each hok n).2
    show (fget s.fs n).dur ≤ (appF s n fr z).b.length
    omega
  · rw [fget_hard, e, fget_set]; rfl
  · rw [used_hard, e]
    have := used_set s.fs n (appF s n fr z)
    omega
end Go.GL

namespace Go.GL
set_option linter.unusedVariables false
section
variable {P : Program} {r : Option Nat} {N : Nat} {ops : Array Oper} {rest : List Oper} {Q : Exit → Act → World → Prop} {E : Env} {ds : List Deferred} {M : List HP} {F : List Fact}
variable {d : Nat} {ty : TypeId} {pos : String} {aft : Array Edge} {gd : Option (Nat × Bool)}
end
end Go.GL

namespace Go.GL
set_option linter.unusedVariables false
def iAt (l : List Int) (p : Nat) : Int := l.getD p 0
def swp (l : List Int) (j : Nat) : List Int := (l.set j (iAt l (j - 1))).set (j - 1) (iAt l j)
theorem iAt_get {l : List Int} {p : Nat} (h : p < l.length) : iAt l p = l[p] := by unfold iAt; rw [List.getD_eq_getElem?_getD, List.getElem?_eq_getElem h]; rfl
theorem swp_len (l : List Int) (j : Nat) : (swp l j).length = l.length := by unfold swp; rw [List.length_set, List.length_set]
theorem swp_at {l : List Int} {j p : Nat} (hj : j < l.length) (h0 : 0 < j) : iAt (swp l j) p = if p = j then iAt l (j - 1) else if p = j - 1 then iAt l j else iAt l p := by
  unfold swp
  show ((l.set j (iAt l (j - 1))).set (j - 1) (iAt l j)).getD p 0 = _
  rw [List.getD_eq_getElem?_getD, List.getElem?_set, List.getElem?_set, List.length_set]
  by_cases e : p = j
  · subst e
    rw [if_neg (by omega), if_pos rfl, if_pos hj, if_pos rfl]; rfl
  · by_cases e2 : p = j - 1
    · subst e2
      rw [if_pos rfl, if_pos (by omega), if_neg e, if_pos rfl]; rfl
    · rw [if_neg (fun e3 => e2 e3.symm), if_neg (fun e3 => e e3.symm), if_neg e, if_neg e2]
      unfold iAt; rw [List.getD_eq_getElem?_getD]
def Ord (l : List Int) (i : Nat) : Prop := ∀ p q, p < q → q < i → iAt l p ≤ iAt l q
def OrdBut (l : List Int) (i j : Nat) : Prop := (∀ p q, p < q → q ≤ i → p ≠ j → q ≠ j → iAt l p ≤ iAt l q) ∧ ∀ q, j < q → q ≤ i → iAt l j ≤ iAt l q
theorem OrdBut.start {l : List Int} {i : Nat} (h : Ord l i) : OrdBut l i i := ⟨fun p q h1 h2 _ h4 => h p q h1 (by omega), fun q h1 h2 => by omega⟩
theorem OrdBut.step {l : List Int} {i j : Nat} (h : OrdBut l i j) (hi : i < l.length) (hj : j ≤ i) (h0 : 0 < j) (hlt : iAt l j < iAt l (j - 1)) : OrdBut (swp l j) i (j - 1) := by
  have at_ := fun p => swp_at (l := l) (j := j) (p := p) (by omega) h0
  refine ⟨fun p q h1 h2 h3 h4 => ?_, fun q h1 h2 => ?_⟩
  · rw [at_ p, at_ q, if_neg h3, if_neg h4]
    by_cases e1 : p = j
    · rw [if_pos e1, if_neg (by omega)]
      exact h.1 (j - 1) q (by omega) h2 (by omega) (by omega)
    · rw [if_neg e1]
      by_cases e2 : q = j
      · rw [if_pos e2]; exact h.1 p (j - 1) (by omega) (by omega) e1 (by omega)
      · rw [if_neg e2]; exact h.1 p q h1 h2 e1 e2
  · rw [at_ (j - 1), at_ q, if_neg (by omega), if_pos rfl]
    by_cases e2 : q = j
    · rw [if_pos e2]; omega
    · rw [if_neg e2, if_neg (by omega)]; exact h.2 q (by omega) h2
theorem OrdBut.stop {l : List Int} {i j : Nat} (h : OrdBut l i j) (hj : j ≤ i) (hs : j = 0 ∨ ¬ iAt l j < iAt l (j - 1)) : Ord l (i + 1) := by
  intro p q h1 h2
  by_cases e1 : p = j
  · subst e1; exact h.2 q h1 (by omega)
  · by_cases e2 : q = j
    · subst e2
      have h3 : ¬ iAt l q < iAt l (q - 1) := hs.resolve_left (by omega)
      by_cases e3 : p = q - 1
      · subst e3; omega
      · have := h.1 p (q - 1) (by omega) (by omega) e1 (by omega); omega
    · exact h.1 p q h1 (by omega) e1 e2
theorem swp_perm {l : List Int} {j : Nat} (hj : j < l.length) (h0 : 0 < j) : (swp l j).Perm l := by
  unfold swp
  rw [iAt_get hj, iAt_get (show j - 1 < l.length by omega)]
  exact List.set_set_perm (by omega) (by omega) |>.trans (List.Perm.refl _)
theorem ints_iAt {l : List Int} {v : Int} (p : Nat) (hv : v.toNat = p) (h : p < l.length) : (ints l)[0 + v.toNat * 1]? = some (I (iAt l p)) := by
  rw [hv, Nat.zero_add, Nat.mul_one, iAt_get h, List.getElem?_map, List.getElem?_eq_getElem h]; rfl
theorem ints_set {l : List Int} {v x : Int} (p : Nat) (hv : v.toNat = p) (h : p < l.length) : (ints l).take (0 + v.toNat * 1) ++ [I x] ++ (ints l).drop (0 + v.toNat * 1 + 1) = ints (l.set p x) := by
  rw [hv, Nat.zero_add, Nat.mul_one, List.set_eq_take_append_cons_drop, if_pos h]
  simp
section
variable {P : Program} {r : Option Nat} {N : Nat} {ops : Array Oper} {rest : List Oper} {Q : Exit → Act → World → Prop} {E : Env} {ds : List Deferred} {M : List HP} {F : List Fact}
variable {d : Nat} {ty : TypeId} {pos : String} {aft : Array Edge} {gd : Option (Nat × Bool)}
end
end Go.GL
