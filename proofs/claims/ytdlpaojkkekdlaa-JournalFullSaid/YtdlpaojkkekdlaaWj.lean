/- Walks of functions of the program. Printed by sx.py. -/
import Derived.Test.YtdlpaojkkekdlaaWi
namespace Go.Proofs.Ytdlpaojkkekdlaa
open Go.GL
set_option linter.unusedVariables false
theorem wj_bs23_1_0 (x0 : Int) : BuildSV Try.prog 23 5 1 [(0, .int .u8 x0)] [.int .u8 x0] := fun w => by kernel_rfl
theorem wj_bs27_1_0 (x0 : Option Addr) (x0n x0c : Nat) : BuildSV Try.prog 27 23 1 [(0, .slice x0 x0n x0c)] [.slice x0 x0n x0c] := fun w => by kernel_rfl
theorem wj_ni23 : noInt Try.prog 23 = true := by kernel_rfl
theorem wj_ni27 : noInt Try.prog 27 = true := by kernel_rfl
theorem wj_te23 : tyElem Try.prog 23 1 24 = true := by kernel_rfl
theorem wj_te5 : tyElem Try.prog 5 1 1 = true := by kernel_rfl
theorem wj_ti3 : tyInt Try.prog 3 .i64 = true := by kernel_rfl
theorem wj_ti5 : tyInt Try.prog 5 .u8 = true := by kernel_rfl
theorem wj_tl22 : tySlice Try.prog 22 3 = true := by kernel_rfl
theorem wj_tl23 : tySlice Try.prog 23 5 = true := by kernel_rfl
theorem wj_tl27 : tySlice Try.prog 27 23 = true := by kernel_rfl
theorem wj_ts23 : tyScalar Try.prog 23 = true := by kernel_rfl
theorem wj_ts3 : tyScalar Try.prog 3 = true := by kernel_rfl
theorem wj_tz23 : tySize Try.prog 23 1 = true := by kernel_rfl
theorem wj_tz3 : tySize Try.prog 3 1 = true := by kernel_rfl
theorem sameL_spec {ps qs : List Rc} {oa ob : Option Addr} {ca cb : Nat} {M : List HP} {F : List Fact} (ha : ArrF oa (listV ps) ∈ F) (hb : ArrF ob (listV qs) ∈ F) (hA : AllB ps ∈ F) (hB : AllB qs ∈ F) (hpl : ∀ p, p ∈ ps → p.1.length ≤ 4611686018427387904) (hn : ps.length ≤ 4611686018427387904) : Ctr Try.prog 18 [.slice oa ps.length ca, .slice ob qs.length cb] M F Unit (fun _ => .bool (decide (ps.map Prod.fst = qs.map Prod.fst))) (fun _ => M) (fun _ => F) := by
  refine Ctr.body Try.func18 rfl rfl ?_
  refine TR.seq ?_
  refine TR.region ?_
  refine RL.assign rfl rfl rfl ?_
  refine RL.nil ?_
  refine NX.seq ?_
  refine TR.seq ?_
  refine TR.seq ?_
  refine TR.region ?_
  refine RL.move rfl rfl rfl ?_
  refine RL.lenSlice rfl wj_tl27 rfl rfl ?_
  refine RL.move rfl rfl rfl ?_
  refine RL.lenSlice rfl wj_tl27 rfl rfl ?_
  refine RL.bin rfl rfl rfl BinV.neq rfl ?_
  refine RL.nil ?_
  refine NX.seq ?_
  refine TR.cond rfl (fun h1 => ?_) (fun h1 => ?_)
  · skip
    have hlen : ¬ ps.length = qs.length := by have := of_decide_eq_true h1; omega
    refine TR.seq ?_
    refine TR.region ?_
    refine RL.assign rfl rfl rfl ?_
    refine RL.nil ?_
    refine NX.seq ?_
    refine TR.ret ?_
    refine NX.retThen ?_
    refine NX.ret1 () rfl rfl (congrArg Value.bool (Eq.symm (decide_eq_false (fun e => hlen (by have := congrArg List.length e; rwa [List.length_map, List.length_map] at this))))) (fun w hw => hw)
  · skip
    have hlen : ps.length = qs.length := by have := of_decide_eq_false h1; omega
    refine TR.skip ?_
    refine NX.seq ?_
    refine TR.seq ?_
    refine TR.seq ?_
    refine TR.region ?_
    refine RL.assign rfl rfl rfl ?_
    refine RL.nil ?_
    refine NX.seq ?_
    refine TR.block ?_
    refine TR.loopP (ι := Nat) (fun k => k ≤ ps.length ∧ (ps.map Prod.fst).take k = (qs.map Prod.fst).take k) (fun k => [(0, .slice oa ps.length ca), (1, .slice ob qs.length cb), (5, I k)]) (fun _ => M) (fun _ => F) (fun k => ps.length - k) 0 ⟨Nat.zero_le _, rfl⟩ ⟨rfl, rfl, rfl, trivial⟩ (fun w hw => hw) (fun k hk => ?_)
    refine TR.seq ?_
    refine TR.seq ?_
    refine TR.region ?_
    refine RL.move rfl rfl rfl ?_
    refine RL.move rfl rfl rfl ?_
    refine RL.lenSlice rfl wj_tl27 rfl rfl ?_
    refine RL.bin rfl rfl rfl BinV.lss rfl ?_
    refine RL.nil ?_
    refine NX.seq ?_
    refine TR.cond rfl (fun h2 => ?_) (fun h2 => ?_)
    · skip
      have hk1 : k < ps.length := by simpa using h2
      have hk2 : k < qs.length := by omega
      refine TR.openP (open_arr ha (listV_ne hk1)) (fun x hx => ?_)
      refine TR.openP (open_arr (.tail _ hb) (listV_ne hk2)) (fun y hy => ?_)
      subst hx hy
      refine TR.weak (fun w hw => (hw.allB_get (.tail _ (.tail _ hA)) (List.getElem_mem hk1)).allB_get (.tail _ (.tail _ (.tail _ hB))) (List.getElem_mem hk2)) ?_
      refine TR.skip ?_
      refine NX.seq ?_
      refine TR.seq ?_
      refine TR.block ?_
      refine TR.seq ?_
      refine TR.sub (E' := [(0, _), (1, _), (5, _), (11, _), (12, _), (13, _), (14, _)]) ⟨rfl, rfl, rfl, rfl, rfl, rfl, rfl, trivial⟩ ?_
      refine TR.draw mixed ?_
      apply AR.more [(0, _), (1, _), (2, _), (3, _), (4, _), (5, _), (6, _), (7, _)]
      refine AR.eff [0, 1, 2, 3, 4, 5, 6, 7] 8 [0, 1, 2, 3, 4, 5, 6, 7, 8, 9] ⟨QOne.yes rfl rfl rfl (PV.move rfl), QOne.yes rfl rfl rfl (PV.move rfl), QOne.yes rfl rfl rfl (PV.indexAddr wj_tl27 wj_tz23 rfl rfl (by omega) (by omega)), QOne.yes rfl rfl rfl (PV.loadF rfl (fun w K hF => run_loadCell1 (j := (k : Int).toNat * 1) (v := .slice ps[k].2.oa ps[k].1.length ps[k].2.c) (hF _ (.tail _ (.tail _ (.tail _ (.head _))))) wj_ts23 (listV_get hk1))), QOne.yes rfl rfl rfl (PV.move rfl), QOne.yes rfl rfl rfl (PV.move rfl), QOne.yes rfl rfl rfl (PV.indexAddr wj_tl27 wj_tz23 rfl rfl (by omega) (by omega)), QOne.yes rfl rfl rfl (PV.loadF rfl (fun w K hF => run_loadCell1 (j := (k : Int).toNat * 1) (v := .slice qs[k].2.oa qs[k].1.length qs[k].2.c) (hF _ (.tail _ (.tail _ (.head _)))) wj_ts23 (listV_get hk2))), trivial⟩ rfl rfl rfl rfl rfl rfl rfl (EV.call rfl Try.call12 (sameB_spec (xs := ps[k].1) (ys := qs[k].1) (.tail _ (.head _)) (.head _) (hpl _ (List.getElem_mem hk1)))) (fun _ => ?_)
      refine AR.done [3, 7, 6, 2, 0, 1, 4, 5] rfl ?_
      apply AR.more [(9, _)]
      refine AR.last [9] [0, 1, 2, 3, 4, 5, 6, 7, 8, 9] ⟨QOne.yes rfl rfl rfl (PV.not rfl), trivial⟩ rfl rfl rfl ?_
      refine NX.sub (E' := [(0, _), (1, _), (5, _), (11, _), (12, _), (13, _), (14, _), (17, _), (18, _), (19, _), (20, _), (21, _), (22, _), (23, _), (24, _), (25, _), (26, _)]) ⟨rfl, rfl, rfl, rfl, rfl, rfl, rfl, rfl, rfl, rfl, rfl, rfl, rfl, rfl, rfl, rfl, rfl, trivial⟩ ?_
      refine NX.seq ?_
      refine TR.cond rfl (fun h3 => ?_) (fun h3 => ?_)
      · skip
        refine TR.seq ?_
        refine TR.region ?_
        refine RL.assign rfl rfl rfl ?_
        refine RL.nil ?_
        refine NX.seq ?_
        refine TR.ret ?_
        refine NX.retBlock ?_
        refine NX.retThen ?_
        refine NX.retThen ?_
        refine NX.retBlock ?_
        refine NX.retThen ?_
        have hne : ¬ ps[k].1 = qs[k].1 := by simpa using h3
        refine NX.ret1 () rfl rfl (congrArg Value.bool (Eq.symm (decide_eq_false (tk_ne (k := k) (by rw [List.length_map]; exact hk1) (by rw [List.length_map]; exact hk2) (by rw [List.getElem_map, List.getElem_map]; exact hne))))) (fun w hw => ?_)
        exact hw.facts (fun φ h => .tail _ (.tail _ (.tail _ (.tail _ (h)))))
      · skip
        refine TR.skip ?_
        refine NX.off ?_
        refine NX.seq ?_
        refine TR.region ?_
        refine RL.move rfl rfl rfl ?_
        refine RL.bin rfl rfl rfl (BinV.add _ rfl (by omega) (by omega)) rfl ?_
        refine RL.assign rfl rfl rfl ?_
        refine RL.nil ?_
        have heq : ps[k].1 = qs[k].1 := by simpa using h3
        refine NX.roundP (k + 1) ⟨by omega, tk_step hk.2 (by rw [List.length_map]; exact hk1) (by rw [List.length_map]; exact hk2) (by rw [List.getElem_map, List.getElem_map]; exact heq)⟩ (by omega) ⟨rfl, rfl, rfl, trivial⟩ (fun w hw => ?_)
        exact hw.facts (fun φ h => .tail _ (.tail _ (.tail _ (.tail _ (h)))))
    · skip
      refine TR.exit ?_
      refine NX.exitThen ?_
      refine NX.exitThen ?_
      refine NX.exitHere ?_
      refine NX.seq ?_
      refine TR.seq ?_
      refine TR.region ?_
      refine RL.assign rfl rfl rfl ?_
      refine RL.nil ?_
      refine NX.seq ?_
      refine TR.ret ?_
      refine NX.ret1 () rfl rfl (congrArg Value.bool (Eq.symm (decide_eq_true (tk_all hk.2 (by rw [List.length_map]; simpa using h2) (by rw [List.length_map, List.length_map]; exact hlen))))) (fun w hw => hw)

def IntsOk (xs : List Int) : Prop := xs.length ≤ 9223372036854775807 ∧ ∀ x, x ∈ xs → -9223372036854775808 ≤ x ∧ x ≤ 9223372036854775807
structure ReX where
  ps : List Rc
  oa : Option Addr
  c : Nat
structure RbX where
  l : List UInt8
  oa : Option Addr
  c : Nat

theorem records_spec2 {xs : List Int} {oa : Option Addr} {c : Nat} {M : List HP} {F : List Fact} (ha : ArrF oa (ints xs) ∈ F) (hxs : IntsOk xs) : Ctr Try.prog 15 [.slice oa xs.length c] M F {z : LsX // z.ps.length ≤ 6 ∧ ∀ p, p ∈ z.ps → p.1.length ≤ 11 ∧ p.1.length ≤ p.2.c} (fun z => .slice z.1.oa z.1.ps.length z.1.c) (fun z => OwnSl 23 1 z.1.oa z.1.ps.length z.1.c (listV z.1.ps) :: M) (fun z => AllB z.1.ps :: F) := by
  refine Ctr.body Try.func15 rfl rfl ?_
  refine TR.seq ?_
  refine TR.region ?_
  refine RL.assign rfl rfl rfl ?_
  refine RL.nil ?_
  refine NX.seq ?_
  refine TR.seq ?_
  refine TR.region ?_
  refine RL.assign rfl rfl rfl ?_
  refine RL.weak (fun w hw => OwnSl.nil_new 23 1 hw) ?_
  refine RL.nil ?_
  refine NX.seq ?_
  refine TR.seq ?_
  refine TR.seq ?_
  refine TR.region ?_
  refine RL.assign rfl rfl rfl ?_
  refine RL.nil ?_
  refine NX.seq ?_
  refine TR.block ?_
  refine TR.loopP (ι := ReX) (fun x => x.ps.length ≤ 6 ∧ ∀ p, p ∈ x.ps → p.1.length ≤ 11 ∧ p.1.length ≤ p.2.c) (fun x => [(0, .slice oa xs.length c), (3, .slice x.oa x.ps.length x.c), (4, I x.ps.length)]) (fun x => OwnSl 23 1 x.oa x.ps.length x.c (listV x.ps) :: M) (fun x => AllB x.ps :: F) (fun x => 6 - x.ps.length) ⟨[], none, 0⟩ ⟨Nat.zero_le _, fun p hp => absurd hp (by simp)⟩ ⟨rfl, rfl, rfl, trivial⟩ (fun w hw => hw.allB_nil) (fun x hx => ?_)
  refine TR.seq ?_
  refine TR.seq ?_
  refine TR.region ?_
  refine RL.move rfl rfl rfl ?_
  refine RL.move rfl rfl rfl ?_
  refine RL.lenSlice rfl wj_tl22 rfl rfl ?_
  refine RL.bin rfl rfl rfl BinV.lss rfl ?_
  refine RL.move rfl rfl rfl ?_
  refine RL.part (fun h1 => ?_) (fun h1 => ?_)
  · skip
    have hk0 := of_decide_eq_true h1
    refine RL.move rfl rfl rfl ?_
    refine RL.bin rfl rfl rfl BinV.lss rfl ?_
    refine RL.pickT rfl rfl rfl rfl ?_
    refine RL.nil ?_
    refine NX.seq ?_
    refine TR.cond rfl (fun h2 => ?_) (fun h2 => ?_)
    · skip
      have hk6 := of_decide_eq_true h2
      have hk1 : x.ps.length < xs.length := by omega
      have hr := hxs.2 _ (List.getElem_mem hk1)
      refine TR.openP (open_arr (oa := oa) (xs := ints xs) (.tail _ ha) (ints_ne (by omega))) (fun pq hpa => ?_)
      refine TR.skip ?_
      refine NX.seq ?_
      refine TR.seq ?_
      refine TR.block ?_
      refine TR.seq ?_
      refine TR.region ?_
      refine RL.move rfl rfl rfl ?_
      refine RL.move rfl rfl rfl ?_
      refine RL.indexAddr rfl wj_tl22 wj_tz3 (congrArg (fun a => some (Value.slice a _ _)) hpa) rfl (by omega) (by omega) rfl ?_
      refine RL.loadF rfl rfl (fun w K hF => run_loadCell1 (j := (x.ps.length : Int).toNat * 1) (v := I xs[x.ps.length]) (hF _ (.head _)) wj_ts3 (by simp [hk1])) rfl ?_
      refine RL.call rfl rfl Try.call20 rfl (around_spec (by omega) hr.1 hr.2) (fun n => ?_)
      refine RL.assign rfl rfl rfl ?_
      refine RL.nil ?_
      refine NX.seq ?_
      refine TR.seq ?_
      refine TR.region ?_
      have hn := n.2
      refine RL.assign rfl rfl rfl ?_
      refine RL.weak (fun w hw => OwnSl.nil_new 5 1 hw) ?_
      refine RL.nil ?_
      refine NX.seq ?_
      refine TR.seq ?_
      refine TR.seq ?_
      refine TR.region ?_
      refine RL.assign rfl rfl rfl ?_
      refine RL.nil ?_
      refine NX.seq ?_
      refine TR.block ?_
      refine TR.loopP (ι := RbX) (fun z => z.l.length ≤ 11 ∧ True) (fun z => [(0, .slice oa xs.length c), (3, .slice x.oa x.ps.length x.c), (4, I x.ps.length), (5, I n.1), (6, .slice z.oa z.l.length z.c), (7, I z.l.length)]) (fun z => OwnSl 5 1 z.oa z.l.length z.c (bytesV z.l) :: OwnSl 23 1 x.oa x.ps.length x.c (listV x.ps) :: M) (fun _ => CellsF pq.1 pq.2 (ints xs) :: AllB x.ps :: F) (fun z => 11 - z.l.length) ⟨[], none, 0⟩ ⟨Nat.zero_le _, trivial⟩ ⟨rfl, rfl, rfl, rfl, rfl, rfl, trivial⟩ (fun w hw => hw) (fun z hz => ?_)
      refine TR.seq ?_
      refine TR.seq ?_
      refine TR.region ?_
      refine RL.move rfl rfl rfl ?_
      refine RL.move rfl rfl rfl ?_
      refine RL.bin rfl rfl rfl (BinV.rem (by omega)) rfl ?_
      refine RL.bin rfl rfl rfl BinV.lss rfl ?_
      refine RL.nil ?_
      refine NX.seq ?_
      refine TR.cond rfl (fun h3 => ?_) (fun h3 => ?_)
      · skip
        have hj := of_decide_eq_true h3
        have hj2 : (n.1.tmod 11) < 11 := Int.tmod_lt_of_pos _ (by omega)
        have hj3 : (z.l.length : Int) ≤ 10 := by omega
        have hm1 : 0 ≤ (z.l.length : Int) * n.1 := Int.mul_nonneg (by omega) hn.1
        have hm2 : (z.l.length : Int) * n.1 ≤ 10 * 1000 := Int.mul_le_mul hj3 (by omega) hn.1 (by omega)
        refine TR.skip ?_
        refine NX.seq ?_
        refine TR.seq ?_
        refine TR.block ?_
        refine TR.region ?_
        refine RL.move rfl rfl rfl ?_
        refine RL.move rfl rfl rfl ?_
        refine RL.bin rfl rfl rfl (BinV.quo (by omega) (n.1 / 11) (Int.tdiv_eq_ediv_of_nonneg hn.1) (by omega) (by omega)) rfl ?_
        refine RL.move rfl rfl rfl ?_
        refine RL.move rfl rfl rfl ?_
        refine RL.bin rfl rfl rfl (BinV.mul _ rfl (by omega) (by omega)) rfl ?_
        refine RL.bin rfl rfl rfl (BinV.add _ rfl (by omega) (by omega)) rfl ?_
        refine RL.conv rfl rfl (ConvV.int wj_ti3 wj_ti5) rfl ?_
        refine RL.buildSlice rfl rfl (wj_bs23_1_0 _) rfl (fun b4 => ?_)
        refine RL.ofGV rfl rfl (GV.append (j := 1) wj_tl23 wj_ni23 wj_te5 rfl rfl rfl (src_box (i := 0) rfl rfl rfl) (by omega) (by omega)) (fun y => ?_)
        refine RL.assign rfl rfl rfl ?_
        refine RL.nil ?_
        refine NX.off ?_
        refine NX.seq ?_
        refine TR.region ?_
        refine RL.move rfl rfl rfl ?_
        refine RL.bin rfl rfl rfl (BinV.add _ rfl (by omega) (by omega)) rfl ?_
        refine RL.assign rfl rfl rfl ?_
        refine RL.nil ?_
        refine NX.roundP ⟨z.l ++ [UInt8.ofNat ((n.1 / 11 + (z.l.length : Int) * n.1) % 256).toNat], y.1, y.2⟩ ⟨?_, trivial⟩ ?_ ⟨rfl, rfl, rfl, rfl, ?_, ?_, trivial⟩ (fun w hw => ?_)
        · show (z.l ++ [_]).length ≤ 11; rw [List.length_append]; show z.l.length + 1 ≤ 11; omega
        · show 11 - (z.l ++ [_]).length < 11 - z.l.length; rw [List.length_append]; show 11 - (z.l.length + 1) < _; omega
        · show some (Value.slice y.1 (z.l.length + 1) y.2) = some (Value.slice y.1 (z.l ++ [_]).length y.2); rw [List.length_append]; rfl
        · show some (I ((z.l.length : Int) + 1)) = some (I ((z.l ++ [_]).length : Nat)); rw [List.length_append]; rfl
        · have h9 : St w (OwnSl 5 1 y.1 (z.l.length + 1) y.2 (bytesV z.l ++ [.int .u8 (IntKind.u8.wrap (n.1 / 11 + (z.l.length : Int) * n.1))]) :: OwnSl 23 1 x.oa x.ps.length x.c (listV x.ps) :: M) _ := hw.drop 0 rfl
          rw [u8_wrap, ← bytesV_snoc] at h9
          show St w (OwnSl 5 1 y.1 (z.l ++ [_]).length y.2 _ :: _) _
          rw [List.length_append]
          exact h9
      · skip
        refine TR.exit ?_
        refine NX.exitThen ?_
        refine NX.exitThen ?_
        refine NX.exitHere ?_
        refine NX.seq ?_
        refine TR.region ?_
        refine RL.open1 (fun w hw => ⟨hw.ownLen.2, hw⟩) (fun hzc => ?_)
        refine RL.move rfl rfl rfl ?_
        refine RL.move rfl rfl rfl ?_
        refine RL.weak (fun w hw => hw.keepSl) ?_
        refine RL.buildSlice rfl rfl (wj_bs27_1_0 _ _ _) rfl (fun b6 => ?_)
        refine RL.ofGV rfl rfl (GV.append (j := 1) wj_tl27 wj_ni27 wj_te23 rfl rfl rfl (src_box (i := 0) rfl rfl rfl) (by omega) (by omega)) (fun y => ?_)
        refine RL.assign rfl rfl rfl ?_
        refine RL.nil ?_
        refine NX.off ?_
        refine NX.seq ?_
        refine TR.region ?_
        refine RL.move rfl rfl rfl ?_
        refine RL.bin rfl rfl rfl (BinV.add _ rfl (by omega) (by omega)) rfl ?_
        refine RL.assign rfl rfl rfl ?_
        refine RL.nil ?_
        refine NX.roundP ⟨x.ps ++ [(z.l, ⟨z.oa, z.c⟩)], y.1, y.2⟩ ⟨?_, ?_⟩ ?_ ⟨rfl, ?_, ?_, trivial⟩ (fun w hw => ?_)
        · show (x.ps ++ [(z.l, (⟨z.oa, z.c⟩ : RdX))]).length ≤ 6; rw [List.length_append]; show x.ps.length + 1 ≤ 6; omega
        · intro q hq
          rcases List.mem_append.1 hq with h | h
          · exact hx.2 q h
          · rw [List.mem_singleton.1 h]; exact ⟨hz.1, hzc⟩
        · show 6 - (x.ps ++ [(z.l, (⟨z.oa, z.c⟩ : RdX))]).length < 6 - x.ps.length; rw [List.length_append]; show 6 - (x.ps.length + 1) < _; omega
        · show some (Value.slice y.1 (x.ps.length + 1) y.2) = some (Value.slice y.1 (x.ps ++ [(z.l, (⟨z.oa, z.c⟩ : RdX))]).length y.2); rw [List.length_append]; rfl
        · show some (I ((x.ps.length : Int) + 1)) = some (I ((x.ps ++ [(z.l, (⟨z.oa, z.c⟩ : RdX))]).length : Nat)); rw [List.length_append]; rfl
        · have h9 := (hw.drop 0 rfl).allB_snoc (ps := x.ps) (p := (z.l, ⟨z.oa, z.c⟩)) (.tail _ (.tail _ (.head _))) (.head _)
          show St w (OwnSl 23 1 y.1 (x.ps ++ [(z.l, (⟨z.oa, z.c⟩ : RdX))]).length y.2 (listV (x.ps ++ [(z.l, (⟨z.oa, z.c⟩ : RdX))])) :: M) (AllB (x.ps ++ [(z.l, (⟨z.oa, z.c⟩ : RdX))]) :: F)
          rw [List.length_append, listV_append]
          exact h9.facts (fun φ h => by
            rcases List.mem_cons.1 h with e1 | h
            · subst e1; exact .head _
            · exact .tail _ (.tail _ (.tail _ (.tail _ h))))
    · skip
      refine TR.exit ?_
      refine NX.exitThen ?_
      refine NX.exitThen ?_
      refine NX.exitHere ?_
      refine NX.seq ?_
      refine TR.seq ?_
      refine TR.region ?_
      refine RL.move rfl rfl rfl ?_
      refine RL.assign rfl rfl rfl ?_
      refine RL.nil ?_
      refine NX.seq ?_
      refine TR.ret ?_
      exact NX.ret1 (⟨⟨x.ps, x.oa, x.c⟩, hx.1, hx.2⟩ : {z : LsX // z.ps.length ≤ 6 ∧ ∀ p, p ∈ z.ps → p.1.length ≤ 11 ∧ p.1.length ≤ p.2.c}) rfl rfl rfl (fun w hw => hw)
  · skip
    refine RL.skip rfl rfl rfl ?_
    refine RL.skip rfl rfl rfl ?_
    refine RL.pickF rfl rfl rfl rfl ?_
    refine RL.nil ?_
    refine NX.seq ?_
    refine TR.condF rfl ?_
    refine TR.exit ?_
    refine NX.exitThen ?_
    refine NX.exitThen ?_
    refine NX.exitHere ?_
    refine NX.seq ?_
    refine TR.seq ?_
    refine TR.region ?_
    refine RL.move rfl rfl rfl ?_
    refine RL.assign rfl rfl rfl ?_
    refine RL.nil ?_
    refine NX.seq ?_
    refine TR.ret ?_
    exact NX.ret1 (⟨⟨x.ps, x.oa, x.c⟩, hx.1, hx.2⟩ : {z : LsX // z.ps.length ≤ 6 ∧ ∀ p, p ∈ z.ps → p.1.length ≤ 11 ∧ p.1.length ≤ p.2.c}) rfl rfl rfl (fun w hw => hw)

end Go.Proofs.Ytdlpaojkkekdlaa
