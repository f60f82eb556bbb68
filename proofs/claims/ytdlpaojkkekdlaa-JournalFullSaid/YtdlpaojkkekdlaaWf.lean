/- Walks of functions of the program. Printed by sx.py. -/
import Derived.Test.YtdlpaojkkekdlaaWd
namespace Go.Proofs.Ytdlpaojkkekdlaa
open Go.GL
set_option linter.unusedVariables false
theorem wf_bs116_1_0 (x0 : Int) : BuildSV Try.prog 116 65 1 [(0, .int .u64 x0)] [.int .u64 x0] := fun w => by kernel_rfl
theorem wf_ni116 : noInt Try.prog 116 = true := by kernel_rfl
theorem wf_ni23 : noInt Try.prog 23 = true := by kernel_rfl
theorem wf_te5 : tyElem Try.prog 5 1 1 = true := by kernel_rfl
theorem wf_te65 : tyElem Try.prog 65 1 8 = true := by kernel_rfl
theorem wf_ti5 : tyInt Try.prog 5 .u8 = true := by kernel_rfl
theorem wf_ti65 : tyInt Try.prog 65 .u64 = true := by kernel_rfl
theorem wf_tl116 : tySlice Try.prog 116 65 = true := by kernel_rfl
theorem wf_tl23 : tySlice Try.prog 23 5 = true := by kernel_rfl
theorem wf_ts5 : tyScalar Try.prog 5 = true := by kernel_rfl
theorem wf_tz5 : tySize Try.prog 5 1 = true := by kernel_rfl
theorem sameB_spec {xs ys : List UInt8} {oa ob : Option Addr} {ca cb : Nat} {M : List HP} {F : List Fact} (ha : ArrF oa (bytesV xs) ∈ F) (hb : ArrF ob (bytesV ys) ∈ F) (hxl : xs.length ≤ 4611686018427387904) : Ctr Try.prog 12 [.slice oa xs.length ca, .slice ob ys.length cb] M F Unit (fun _ => .bool (decide (xs = ys))) (fun _ => M) (fun _ => F) := by
  refine Ctr.body Try.func12 rfl rfl ?_
  refine TR.seq ?_
  refine TR.region ?_
  refine RL.assign rfl rfl rfl ?_
  refine RL.nil ?_
  refine NX.seq ?_
  refine TR.seq ?_
  refine TR.seq ?_
  refine TR.region ?_
  refine RL.move rfl rfl rfl ?_
  refine RL.lenSlice rfl wf_tl23 rfl rfl ?_
  refine RL.move rfl rfl rfl ?_
  refine RL.lenSlice rfl wf_tl23 rfl rfl ?_
  refine RL.bin rfl rfl rfl BinV.neq rfl ?_
  refine RL.nil ?_
  refine NX.seq ?_
  refine TR.cond rfl (fun h1 => ?_) (fun h1 => ?_)
  · skip
    have hlen : ¬ xs.length = ys.length := by have := of_decide_eq_true h1; omega
    refine TR.seq ?_
    refine TR.region ?_
    refine RL.assign rfl rfl rfl ?_
    refine RL.nil ?_
    refine NX.seq ?_
    refine TR.ret ?_
    refine NX.retThen ?_
    refine NX.ret1 () rfl rfl (congrArg Value.bool (Eq.symm (decide_eq_false (fun e => hlen (congrArg _ e))))) (fun w hw => hw)
  · skip
    have hlen : xs.length = ys.length := by have := of_decide_eq_false h1; omega
    refine TR.skip ?_
    refine NX.seq ?_
    refine TR.seq ?_
    refine TR.seq ?_
    refine TR.region ?_
    refine RL.assign rfl rfl rfl ?_
    refine RL.nil ?_
    refine NX.seq ?_
    refine TR.block ?_
    refine TR.loopP (ι := Nat) (fun k => k ≤ xs.length ∧ xs.take k = ys.take k) (fun k => [(0, .slice oa xs.length ca), (1, .slice ob ys.length cb), (5, I k)]) (fun _ => M) (fun _ => F) (fun k => xs.length - k) 0 ⟨Nat.zero_le _, rfl⟩ ⟨rfl, rfl, rfl, trivial⟩ (fun w hw => hw) (fun k hk => ?_)
    refine TR.seq ?_
    refine TR.seq ?_
    refine TR.region ?_
    refine RL.move rfl rfl rfl ?_
    refine RL.move rfl rfl rfl ?_
    refine RL.lenSlice rfl wf_tl23 rfl rfl ?_
    refine RL.bin rfl rfl rfl BinV.lss rfl ?_
    refine RL.nil ?_
    refine NX.seq ?_
    refine TR.cond rfl (fun h2 => ?_) (fun h2 => ?_)
    · skip
      have hk1 : k < xs.length := by simpa using h2
      have hk2 : k < ys.length := by omega
      refine TR.openP (open_arr ha (bytesV_ne hk1)) (fun x hx => ?_)
      refine TR.openP (open_arr (.tail _ hb) (bytesV_ne hk2)) (fun y hy => ?_)
      subst hx hy
      refine TR.skip ?_
      refine NX.seq ?_
      refine TR.seq ?_
      refine TR.block ?_
      refine TR.seq ?_
      refine TR.sub (E' := [(0, _), (1, _), (5, _), (11, _), (12, _), (13, _), (14, _)]) ⟨rfl, rfl, rfl, rfl, rfl, rfl, rfl, trivial⟩ ?_
      refine TR.draw mixed ?_
      apply AR.more [(0, _), (1, _), (2, _), (3, _), (4, _), (5, _), (6, _), (7, _), (8, _)]
      refine AR.last [0, 1, 2, 3, 4, 5, 6, 7, 8] [0, 1, 2, 3, 4, 5, 6, 7, 8] ⟨QOne.yes rfl rfl rfl (PV.move rfl), QOne.yes rfl rfl rfl (PV.move rfl), QOne.yes rfl rfl rfl (PV.indexAddr wf_tl23 wf_tz5 rfl rfl (by omega) (by omega)), QOne.yes rfl rfl rfl (PV.loadF rfl (fun w K hF => run_loadCell1 (j := (k : Int).toNat * 1) (v := .int .u8 (xs[k].toNat : Int)) (hF _ (.tail _ (.head _))) wf_ts5 (bytesV_get hk1))), QOne.yes rfl rfl rfl (PV.move rfl), QOne.yes rfl rfl rfl (PV.move rfl), QOne.yes rfl rfl rfl (PV.indexAddr wf_tl23 wf_tz5 rfl rfl (by omega) (by omega)), QOne.yes rfl rfl rfl (PV.loadF rfl (fun w K hF => run_loadCell1 (j := (k : Int).toNat * 1) (v := .int .u8 (ys[k].toNat : Int)) (hF _ (.head _)) wf_ts5 (bytesV_get hk2))), QOne.yes rfl rfl rfl (PV.bin rfl rfl BinV.neq), trivial⟩ rfl rfl rfl ?_
      refine NX.sub (E' := [(0, _), (1, _), (5, _), (11, _), (12, _), (13, _), (14, _), (17, _), (18, _), (19, _), (20, _), (21, _), (22, _), (23, _), (24, _), (25, _)]) ⟨rfl, rfl, rfl, rfl, rfl, rfl, rfl, rfl, rfl, rfl, rfl, rfl, rfl, rfl, rfl, rfl, trivial⟩ ?_
      refine NX.seq ?_
      refine TR.cond rfl (fun h3 => ?_) (fun h3 => ?_)
      · skip
        refine TR.seq ?_
        refine TR.region ?_
        refine RL.assign rfl rfl rfl ?_
        refine RL.nil ?_
        refine NX.seq ?_
        refine TR.ret ?_
        refine NX.retBlock ?_
        refine NX.retThen ?_
        refine NX.retThen ?_
        refine NX.retBlock ?_
        refine NX.retThen ?_
        refine NX.ret1 () rfl rfl (congrArg Value.bool (Eq.symm (decide_eq_false (tk_ne hk1 hk2 (byte_ne (by simpa using h3)))))) (fun w hw => ?_)
        exact hw.facts (fun φ h => .tail _ (.tail _ (h)))
      · skip
        refine TR.skip ?_
        refine NX.off ?_
        refine NX.seq ?_
        refine TR.region ?_
        refine RL.move rfl rfl rfl ?_
        refine RL.bin rfl rfl rfl (BinV.add _ rfl (by omega) (by omega)) rfl ?_
        refine RL.assign rfl rfl rfl ?_
        refine RL.nil ?_
        refine NX.roundP (k + 1) ⟨by omega, tk_step hk.2 hk1 hk2 (byte_inj (by simpa using h3))⟩ (by omega) ⟨rfl, rfl, rfl, trivial⟩ (fun w hw => ?_)
        exact hw.facts (fun φ h => .tail _ (.tail _ (h)))
    · skip
      refine TR.exit ?_
      refine NX.exitThen ?_
      refine NX.exitThen ?_
      refine NX.exitHere ?_
      refine NX.seq ?_
      refine TR.seq ?_
      refine TR.region ?_
      refine RL.assign rfl rfl rfl ?_
      refine RL.nil ?_
      refine NX.seq ?_
      refine TR.ret ?_
      refine NX.ret1 () rfl rfl (congrArg Value.bool (Eq.symm (decide_eq_true (tk_all hk.2 (by simpa using h2) hlen)))) (fun w hw => hw)

theorem around_spec {n m : Int} {M : List HP} {F : List Fact} (hm : 0 < m) (h0 : -9223372036854775808 ≤ n) (h1 : n ≤ 9223372036854775807) : Ctr Try.prog 20 [I n, I m] M F {r : Int // 0 ≤ r ∧ r < m} (fun r => I r.1) (fun _ => M) (fun _ => F) := by
  refine Ctr.body Try.func20 rfl rfl ?_
  refine TR.seq ?_
  refine TR.region ?_
  refine RL.assign rfl rfl rfl ?_
  refine RL.nil ?_
  refine NX.seq ?_
  refine TR.seq ?_
  refine TR.seq ?_
  refine TR.region ?_
  refine RL.move rfl rfl rfl ?_
  refine RL.bin rfl rfl rfl BinV.lss rfl ?_
  refine RL.nil ?_
  refine NX.seq ?_
  refine TR.cond rfl (fun h1 => ?_) (fun h1 => ?_)
  · skip
    have hn := of_decide_eq_true h1
    refine TR.region ?_
    refine RL.move rfl rfl rfl ?_
    refine RL.bin rfl rfl rfl (BinV.add _ rfl (by omega) (by omega)) rfl ?_
    refine RL.neg rfl rfl (by omega) (by omega) rfl ?_
    refine RL.assign rfl rfl rfl ?_
    refine RL.nil ?_
    refine NX.seq ?_
    refine TR.seq ?_
    refine TR.region ?_
    refine RL.move rfl rfl rfl ?_
    refine RL.move rfl rfl rfl ?_
    refine RL.bin rfl rfl rfl (BinV.rem (by omega)) rfl ?_
    refine RL.assign rfl rfl rfl ?_
    refine RL.nil ?_
    refine NX.seq ?_
    refine TR.ret ?_
    refine NX.ret1 ⟨_, ?_, ?_⟩ rfl rfl rfl (fun w hw => hw)
    · exact Int.tmod_nonneg _ (by omega)
    · exact Int.tmod_lt_of_pos _ (by omega)
  · skip
    have hn := of_decide_eq_false h1
    refine TR.skip ?_
    refine NX.seq ?_
    refine TR.seq ?_
    refine TR.region ?_
    refine RL.move rfl rfl rfl ?_
    refine RL.move rfl rfl rfl ?_
    refine RL.bin rfl rfl rfl (BinV.rem (by omega)) rfl ?_
    refine RL.assign rfl rfl rfl ?_
    refine RL.nil ?_
    refine NX.seq ?_
    refine TR.ret ?_
    refine NX.ret1 ⟨_, ?_, ?_⟩ rfl rfl rfl (fun w hw => hw)
    · exact Int.tmod_nonneg _ (by omega)
    · exact Int.tmod_lt_of_pos _ (by omega)

theorem few_spec {b : List UInt8} {m : Nat} {oa : Option Addr} {c : Nat} {M : List HP} {F : List Fact} (ha : ArrF oa (bytesV b) ∈ F) (hc : b.length ≤ c) (hm : m ≤ 70368744177664) : Ctr Try.prog 11 [.slice oa b.length c, I (m : Int)] M F (Option Addr × Nat) (fun z => .slice z.1 (b.take m).length z.2) (fun z => OwnSl 5 1 z.1 (b.take m).length z.2 (bytesV (b.take m)) :: M) (fun _ => F) := by
  refine Ctr.body Try.func11 rfl rfl ?_
  refine TR.seq ?_
  refine TR.region ?_
  refine RL.assign rfl rfl rfl ?_
  refine RL.nil ?_
  refine NX.seq ?_
  refine TR.seq ?_
  refine TR.region ?_
  refine RL.assign rfl rfl rfl ?_
  refine RL.weak (fun w hw => OwnSl.nil_new 5 1 hw) ?_
  refine RL.nil ?_
  refine NX.seq ?_
  refine TR.seq ?_
  refine TR.region ?_
  refine RL.move rfl rfl rfl ?_
  refine RL.move rfl rfl rfl ?_
  refine RL.move rfl rfl rfl ?_
  refine RL.lenSlice rfl wf_tl23 rfl rfl ?_
  refine RL.move rfl rfl rfl ?_
  refine RL.min rfl rfl rfl rfl ?_
  refine RL.sliceToB (k := m) (cap := c) rfl wf_tl23 wf_tz5 rfl rfl (by rw [List.length_take]; omega) hc ha rfl ?_
  refine RL.ofGV rfl rfl (GV.append (j := 0) wf_tl23 wf_ni23 wf_te5 rfl rfl rfl (src_fact (xs := bytesV (b.take m)) (.head _) (by rw [bytesV_length, Nat.mul_one]) (bytesV_one _)) (by rw [List.length_take]; omega) (by rw [List.length_take]; omega)) (fun y => ?_)
  refine RL.assign rfl rfl rfl ?_
  refine RL.nil ?_
  refine NX.seq ?_
  refine TR.ret ?_
  refine NX.ret1x rfl rfl (fun w hw => ⟨(y.1, y.2), ?_, ?_⟩)
  · rw [Nat.zero_add]
  · have h9 := hw.facts (F' := F) (fun φ h => .tail _ h)
    have h8 : St w (OwnSl 5 1 y.1 (0 + (b.take m).length) y.2 ([] ++ bytesV (b.take m)) :: M) F := h9
    rw [Nat.zero_add] at h8
    exact h8

theorem rmix_spec {s w : Nat} {M : List HP} {F : List Fact} (hs : s < 18446744073709551616) (hw : w < 18446744073709551616) : Ctr Try.prog 94 [U s, U w] M F Unit (fun _ => U (mixN s w)) (fun _ => M) (fun _ => F) := by
  refine Ctr.body Try.func94 rfl rfl ?_
  refine TR.seq ?_
  refine TR.region ?_
  refine RL.assign rfl rfl rfl ?_
  refine RL.nil ?_
  refine NX.seq ?_
  refine TR.seq ?_
  refine TR.region ?_
  refine RL.move rfl rfl rfl ?_
  refine RL.move rfl rfl rfl ?_
  refine RL.bin rfl rfl rfl (BinV.xorU hs hw) rfl ?_
  refine RL.bin rfl rfl rfl (BinV.mulUw (b := 11400714819323198485)) rfl ?_
  refine RL.assign rfl rfl rfl ?_
  refine RL.nil ?_
  refine NX.seq ?_
  refine TR.seq ?_
  refine TR.region ?_
  refine RL.move rfl rfl rfl ?_
  refine RL.move rfl rfl rfl ?_
  refine RL.bin rfl rfl rfl (BinV.quoU (b := 4294967296) (Nat.mod_lt _ (by omega)) (by omega)) rfl ?_
  refine RL.bin rfl rfl rfl (BinV.xorU (Nat.mod_lt _ (by omega)) (Nat.lt_of_le_of_lt (Nat.div_le_self _ _) (Nat.mod_lt _ (by omega)))) rfl ?_
  refine RL.assign rfl rfl rfl ?_
  refine RL.nil ?_
  refine NX.seq ?_
  refine TR.ret ?_
  exact NX.ret1 () rfl rfl (by unfold mixN; rfl) (fun w hw => hw)

structure WsX where
  k : Nat
  oa : Option Addr
  c : Nat

theorem words_spec {b : List UInt8} {oa : Option Addr} {c : Nat} {M : List HP} {F : List Fact} (ha : ArrF oa (bytesV b) ∈ F) (hl : b.length ≤ 70368744177664) : Ctr Try.prog 74 [.slice oa b.length c] M F (Option Addr × Nat) (fun z => .slice z.1 (wordsN b).length z.2) (fun z => OwnSl 65 1 z.1 (wordsN b).length z.2 (wordsV (wordsN b)) :: M) (fun _ => F) := by
  refine Ctr.body Try.func74 rfl rfl ?_
  refine TR.seq ?_
  refine TR.region ?_
  refine RL.assign rfl rfl rfl ?_
  refine RL.nil ?_
  refine NX.seq ?_
  refine TR.seq ?_
  refine TR.region ?_
  refine RL.assign rfl rfl rfl ?_
  refine RL.weak (fun w hw => OwnSl.nil_new 65 1 hw) ?_
  refine RL.nil ?_
  refine NX.seq ?_
  refine TR.seq ?_
  refine TR.seq ?_
  refine TR.region ?_
  refine RL.assign rfl rfl rfl ?_
  refine RL.nil ?_
  refine NX.seq ?_
  refine TR.block ?_
  refine TR.loopP (ι := WsX) (fun x => x.k ≤ (wordsN b).length) (fun x => [(0, .slice oa b.length c), (3, .slice x.oa x.k x.c), (4, I ((8 * x.k : Nat) : Int))]) (fun x => OwnSl 65 1 x.oa x.k x.c (wordsV ((wordsN b).take x.k)) :: M) (fun _ => F) (fun x => (wordsN b).length - x.k) ⟨0, none, 0⟩ (Nat.zero_le _) ⟨rfl, rfl, rfl, trivial⟩ (fun w hw => hw) (fun x hx => ?_)
  refine TR.seq ?_
  refine TR.seq ?_
  refine TR.region ?_
  refine RL.move rfl rfl rfl ?_
  refine RL.move rfl rfl rfl ?_
  refine RL.lenSlice rfl wf_tl23 rfl rfl ?_
  refine RL.bin rfl rfl rfl BinV.lss rfl ?_
  refine RL.nil ?_
  refine NX.seq ?_
  refine TR.cond rfl (fun h1 => ?_) (fun h1 => ?_)
  · skip
    have h8 : 8 * x.k < b.length := by have := of_decide_eq_true h1; omega
    have hk1 : x.k < (wordsN b).length := by rw [wordsN_length]; omega
    refine TR.skip ?_
    refine NX.seq ?_
    refine TR.seq ?_
    refine TR.block ?_
    refine TR.seq ?_
    refine TR.region ?_
    refine RL.assign rfl rfl rfl ?_
    refine RL.nil ?_
    refine NX.seq ?_
    refine TR.seq ?_
    refine TR.seq ?_
    refine TR.region ?_
    refine RL.move rfl rfl rfl ?_
    refine RL.bin rfl rfl rfl (BinV.add _ rfl (by omega) (by omega)) rfl ?_
    refine RL.move rfl rfl rfl ?_
    refine RL.lenSlice rfl wf_tl23 rfl rfl ?_
    refine RL.min rfl rfl rfl rfl ?_
    refine RL.bin rfl rfl rfl (BinV.sub _ rfl (by omega) (by omega)) rfl ?_
    refine RL.assign rfl rfl rfl ?_
    refine RL.nil ?_
    refine NX.seq ?_
    refine TR.block ?_
    refine TR.loopP (ι := Nat) (fun j => j ≤ (min (8 * x.k + 8) b.length - 8 * x.k)) (fun j => [(0, .slice oa b.length c), (3, .slice x.oa x.k x.c), (4, I ((8 * x.k : Nat) : Int)), (5, U (wordN (((b.drop (8 * x.k)).take (min (8 * x.k + 8) b.length - 8 * x.k)).drop j))), (6, I (8 * x.k + (j : Int) - 1))]) (fun _ => OwnSl 65 1 x.oa x.k x.c (wordsV ((wordsN b).take x.k)) :: M) (fun _ => F) (fun j => j) (min (8 * x.k + 8) b.length - 8 * x.k) (Nat.le_refl _) ⟨rfl, rfl, rfl, congrArg (fun z => some (U z)) (by rw [List.drop_of_length_le (by rw [word_len (by omega)]; omega)]; rfl), congrArg (fun z => some (I z)) (by omega), trivial⟩ (fun w hw => hw) (fun j hj => ?_)
    refine TR.seq ?_
    refine TR.seq ?_
    refine TR.region ?_
    refine RL.move rfl rfl rfl ?_
    refine RL.move rfl rfl rfl ?_
    refine RL.bin rfl rfl rfl BinV.geq rfl ?_
    refine RL.nil ?_
    refine NX.seq ?_
    refine TR.cond rfl (fun h2 => ?_) (fun h2 => ?_)
    · skip
      have hj1 : 0 < j := by have := of_decide_eq_true h2; omega
      have hj2 : 8 * x.k + (j - 1) < b.length := by omega
      have hwd := word_down (b := b) (k := x.k) (m := (min (8 * x.k + 8) b.length - 8 * x.k)) (j := j - 1) (by omega) (by omega) (by omega)
      rw [show j - 1 + 1 = j from by omega] at hwd
      refine TR.openP (open_arr (oa := oa) (xs := bytesV b) ha (bytesV_ne hj2)) (fun pq hpa => ?_)
      refine TR.skip ?_
      refine NX.seq ?_
      refine TR.seq ?_
      refine TR.block ?_
      refine TR.region ?_
      refine RL.move rfl rfl rfl ?_
      refine RL.bin rfl rfl rfl (BinV.mulU (a := 256) (by omega)) rfl ?_
      refine RL.move rfl rfl rfl ?_
      refine RL.move rfl rfl rfl ?_
      refine RL.indexAddr (n := ((8 * x.k + (j - 1) : Nat) : Int)) rfl wf_tl23 wf_tz5 (congrArg (fun a => some (Value.slice a _ _)) hpa) (congrArg (fun z => some (I z)) (by omega)) (by omega) (by omega) rfl ?_
      refine RL.loadF rfl rfl (fun w K hF => run_loadCell1 (j := ((8 * x.k + (j - 1) : Nat) : Int).toNat * 1) (v := .int .u8 (b[8 * x.k + (j - 1)].toNat : Int)) (hF _ (.head _)) wf_ts5 (bytesV_get hj2)) rfl ?_
      refine RL.conv rfl rfl (ConvV.bu wf_ti5 wf_ti65 (by have := (b[8 * x.k + (j - 1)]).toNat_lt; omega)) rfl ?_
      refine RL.bin rfl rfl rfl (BinV.addU hwd.2) rfl ?_
      refine RL.assign rfl rfl rfl ?_
      refine RL.nil ?_
      refine NX.off ?_
      refine NX.seq ?_
      refine TR.region ?_
      refine RL.move rfl rfl rfl ?_
      refine RL.bin rfl rfl rfl (BinV.sub _ rfl (by omega) (by omega)) rfl ?_
      refine RL.assign rfl rfl rfl ?_
      refine RL.nil ?_
      refine NX.roundP (j - 1) (by omega) (by omega) ⟨rfl, rfl, rfl, congrArg (fun z => some (U z)) hwd.1, congrArg (fun z => some (I z)) (by omega), trivial⟩ (fun w hw => hw.facts (fun φ h => .tail _ h))
    · skip
      have hj0 : j = 0 := by have := of_decide_eq_false h2; omega
      subst hj0
      have hall : ((b.drop (8 * x.k)).take (min (8 * x.k + 8) b.length - 8 * x.k)).drop 0 = (b.drop (8 * x.k)).take 8 := by rw [List.drop_zero]; exact word_all (k := x.k) (by omega) (by omega) (by omega)
      rw [hall]
      refine TR.exit ?_
      refine NX.exitThen ?_
      refine NX.exitThen ?_
      refine NX.exitHere ?_
      refine NX.seq ?_
      refine TR.region ?_
      refine RL.move rfl rfl rfl ?_
      refine RL.move rfl rfl rfl ?_
      refine RL.buildSlice rfl rfl (wf_bs116_1_0 _) rfl (fun b3 => ?_)
      refine RL.ofGV rfl rfl (GV.append (j := 1) wf_tl116 wf_ni116 wf_te65 rfl rfl rfl (src_box (i := 0) rfl rfl rfl) (by rw [wordsN_length] at hk1; omega) (by rw [wordsN_length] at hk1; omega)) (fun y => ?_)
      refine RL.assign rfl rfl rfl ?_
      refine RL.nil ?_
      refine NX.off ?_
      refine NX.seq ?_
      refine TR.region ?_
      refine RL.move rfl rfl rfl ?_
      refine RL.bin rfl rfl rfl (BinV.add _ rfl (by omega) (by omega)) rfl ?_
      refine RL.assign rfl rfl rfl ?_
      refine RL.nil ?_
      refine NX.roundP ⟨x.k + 1, y.1, y.2⟩ (show x.k + 1 ≤ _ from hk1) (by show _ - (x.k + 1) < _ - x.k; omega) ⟨rfl, rfl, congrArg (fun z => some (I z)) (by show _ = ((8 * (x.k + 1) : Nat) : Int); omega), trivial⟩ (fun w hw => ?_)
      show St w (OwnSl 65 1 y.1 (x.k + 1) y.2 (wordsV ((wordsN b).take (x.k + 1))) :: M) F
      rw [List.take_succ_eq_append_getElem hk1, wordsN_get hk1, wordsV_snoc]
      exact hw.drop 0 rfl
  · skip
    have h8 : b.length ≤ 8 * x.k := by have := of_decide_eq_false h1; omega
    have hk2 : x.k = (wordsN b).length := by have := hx; rw [wordsN_length] at this ⊢; omega
    refine TR.exit ?_
    refine NX.exitThen ?_
    refine NX.exitThen ?_
    refine NX.exitHere ?_
    refine NX.seq ?_
    refine TR.seq ?_
    refine TR.region ?_
    refine RL.move rfl rfl rfl ?_
    refine RL.assign rfl rfl rfl ?_
    refine RL.nil ?_
    refine NX.seq ?_
    refine TR.ret ?_
    refine NX.ret1x rfl rfl (fun w hw => ⟨(x.oa, x.c), by rw [hk2], ?_⟩)
    rw [hk2, List.take_length] at hw
    exact hw

end Go.Proofs.Ytdlpaojkkekdlaa
