/- The law MemoOrder holds: whatever the input, it returns true and the input reads as it did. No condition. -/
import Derived.Test.YthefimaaeilefaaPorc
set_option linter.unusedVariables false
set_option linter.unusedSimpArgs false
namespace Go.Proofs.Ythefimaaeilefaa
open Go.GL
set_option linter.unusedVariables false
theorem wo_bs35_1_0 (x0 : List UInt8) : BuildSV Try.prog 35 9 1 [(0, S x0)] [S x0] := fun w => by kernel_rfl
theorem wo_bs35_2_0_1 (x0 : List UInt8) (x1 : List UInt8) : BuildSV Try.prog 35 9 2 [(0, S x0), (1, S x1)] [S x0, S x1] := fun w => by kernel_rfl
theorem wo_tl35 : tySlice Try.prog 35 9 = true := by kernel_rfl
theorem wo_tp24 : tyPtr Try.prog 24 65 = true := by kernel_rfl
theorem wo_ts9 : tyScalar Try.prog 9 = true := by kernel_rfl
theorem wo_tz9 : tySize Try.prog 9 1 = true := by kernel_rfl
theorem coC_at {l : List Ky} {k : Nat} (h : k < l.length) : (coC l)[(k : Int).toNat * 1]? = some (S l[k]) := by
  unfold coC; rw [Int.toNat_natCast, Nat.mul_one, List.getElem?_map, List.getElem?_eq_getElem h]; rfl
theorem coC_ne {l : List Ky} {k : Nat} (h : k < l.length) : coC l ≠ [] := by
  unfold coC; intro e; rw [List.map_eq_nil_iff] at e; rw [e] at h; simp at h
theorem sameT_spec {xs ys : List Ky} {oa ob : Option Addr} {ca cb : Nat} {M : List HP} {F : List Fact} (ha : ArrF oa (coC xs) ∈ F) (hb : ArrF ob (coC ys) ∈ F) (hxl : xs.length ≤ 4611686018427387904) : Ctr Try.prog 19 [.slice oa xs.length ca, .slice ob ys.length cb] M F Unit (fun _ => .bool (decide (xs = ys))) (fun _ => M) (fun _ => F) := by
  refine Ctr.body Try.func19 rfl rfl ?_
  refine TR.seq ?_
  refine TR.region ?_
  refine RL.assign rfl rfl rfl ?_
  refine RL.nil ?_
  refine NX.seq ?_
  refine TR.seq ?_
  refine TR.seq ?_
  refine TR.region ?_
  refine RL.move rfl rfl rfl ?_
  refine RL.lenSlice rfl wo_tl35 rfl rfl ?_
  refine RL.move rfl rfl rfl ?_
  refine RL.lenSlice rfl wo_tl35 rfl rfl ?_
  refine RL.bin rfl rfl rfl BinV.neq rfl ?_
  refine RL.nil ?_
  refine NX.seq ?_
  refine TR.cond rfl (fun h1 => ?_) (fun h1 => ?_)
  · skip
    have hlen : ¬ xs.length = ys.length := by have := of_decide_eq_true h1; omega
    refine TR.seq ?_
    refine TR.region ?_
    refine RL.assign rfl rfl rfl ?_
    refine RL.nil ?_
    refine NX.seq ?_
    refine TR.ret ?_
    refine NX.retThen ?_
    refine NX.ret1 () rfl rfl (congrArg Value.bool (Eq.symm (decide_eq_false (fun e => hlen (congrArg _ e))))) (fun w hw => hw)
  · skip
    have hlen : xs.length = ys.length := by have := of_decide_eq_false h1; omega
    refine TR.skip ?_
    refine NX.seq ?_
    refine TR.seq ?_
    refine TR.seq ?_
    refine TR.region ?_
    refine RL.assign rfl rfl rfl ?_
    refine RL.nil ?_
    refine NX.seq ?_
    refine TR.block ?_
    refine TR.loopP (ι := Nat) (fun k => k ≤ xs.length ∧ xs.take k = ys.take k) (fun k => [(0, .slice oa xs.length ca), (1, .slice ob ys.length cb), (5, I (k : Nat))]) (fun k => M) (fun k => F) (fun k => (xs.length - k)) 0 ⟨Nat.zero_le _, rfl⟩ ⟨rfl, rfl, rfl, trivial⟩ (fun w hw => (hw.to 0 [] 0 [] rfl)) (fun k hk => ?_)
    refine TR.seq ?_
    refine TR.seq ?_
    refine TR.region ?_
    refine RL.move rfl rfl rfl ?_
    refine RL.move rfl rfl rfl ?_
    refine RL.lenSlice rfl wo_tl35 rfl rfl ?_
    refine RL.bin rfl rfl rfl BinV.lss rfl ?_
    refine RL.nil ?_
    refine NX.seq ?_
    refine TR.cond rfl (fun h2 => ?_) (fun h2 => ?_)
    · skip
      have hk1 : k < xs.length := by have := of_decide_eq_true h2; omega
      have hk2 : k < ys.length := by omega
      refine TR.openP (open_arr ha (coC_ne hk1)) (fun x hx => ?_)
      refine TR.openP (open_arr (.tail _ hb) (coC_ne hk2)) (fun y hy => ?_)
      subst hx hy
      refine TR.skip ?_
      refine NX.seq ?_
      refine TR.seq ?_
      refine TR.block ?_
      refine TR.seq ?_
      refine TR.sub (E' := [(0, _), (1, _), (5, _), (11, _), (12, _), (13, _), (14, _)]) ⟨rfl, rfl, rfl, rfl, rfl, rfl, rfl, trivial⟩ ?_
      refine TR.draw mixed ?_
      apply AR.more [(0, _), (1, _), (2, _), (3, _), (4, _), (5, _), (6, _), (7, _), (8, _)]
      refine AR.last [0, 1, 2, 3, 4, 5, 6, 7, 8] [0, 1, 2, 3, 4, 5, 6, 7, 8] ⟨QOne.yes rfl rfl rfl (PV.move rfl), QOne.yes rfl rfl rfl (PV.move rfl), QOne.yes rfl rfl rfl (PV.indexAddr wo_tl35 wo_tz9 rfl rfl (by omega) (by omega)), QOne.yes rfl rfl rfl (PV.loadF rfl (fun w K hF => run_loadCell1 (j := (k : Int).toNat * 1) (v := S xs[k]) (hF (CellsF x.1 x.2 (coC xs)) (.tail _ (.head _))) wo_ts9 (coC_at hk1))), QOne.yes rfl rfl rfl (PV.move rfl), QOne.yes rfl rfl rfl (PV.move rfl), QOne.yes rfl rfl rfl (PV.indexAddr wo_tl35 wo_tz9 rfl rfl (by omega) (by omega)), QOne.yes rfl rfl rfl (PV.loadF rfl (fun w K hF => run_loadCell1 (j := (k : Int).toNat * 1) (v := S ys[k]) (hF (CellsF y.1 y.2 (coC ys)) (.head _)) wo_ts9 (coC_at hk2))), QOne.yes rfl rfl rfl (PV.bin rfl rfl BinV.neqS), trivial⟩ rfl rfl rfl ?_
      refine NX.sub (E' := [(0, _), (1, _), (5, _), (11, _), (12, _), (13, _), (14, _), (17, _), (18, _), (19, _), (20, _), (21, _), (22, _), (23, _), (24, _), (25, _)]) ⟨rfl, rfl, rfl, rfl, rfl, rfl, rfl, rfl, rfl, rfl, rfl, rfl, rfl, rfl, rfl, rfl, trivial⟩ ?_
      refine NX.seq ?_
      refine TR.cond rfl (fun h3 => ?_) (fun h3 => ?_)
      · skip
        have h25 := of_decide_eq_true h3
        refine TR.seq ?_
        refine TR.region ?_
        refine RL.assign rfl rfl rfl ?_
        refine RL.nil ?_
        refine NX.seq ?_
        refine TR.ret ?_
        refine NX.retBlock ?_
        refine NX.retThen ?_
        refine NX.retThen ?_
        refine NX.retBlock ?_
        refine NX.retThen ?_
        refine NX.ret1 () rfl rfl (congrArg Value.bool (Eq.symm (decide_eq_false (tk_ne hk1 hk2 h25)))) (fun w hw => (hw.to 0 [] 2 [] rfl))
      · skip
        have h25 := of_decide_eq_false h3
        refine TR.skip ?_
        refine NX.off ?_
        refine NX.seq ?_
        refine TR.region ?_
        refine RL.move rfl rfl rfl ?_
        refine RL.bin rfl rfl rfl (BinV.add ((k + 1 : Nat) : Int) (by omega) (by omega) (by omega)) rfl ?_
        refine RL.assign rfl rfl rfl ?_
        refine RL.nil ?_
        refine NX.roundP (k + 1) ⟨by omega, tk_step hk.2 hk1 hk2 (Decidable.not_not.1 h25)⟩ (by omega) ⟨rfl, rfl, rfl, trivial⟩ (fun w hw => (hw.to 0 [] 2 [] rfl))
    · skip
      have hk1 : ¬ k < xs.length := by have := of_decide_eq_false h2; omega
      refine TR.exit ?_
      refine NX.exitThen ?_
      refine NX.exitThen ?_
      refine NX.exitHere ?_
      refine NX.seq ?_
      refine TR.seq ?_
      refine TR.region ?_
      refine RL.assign rfl rfl rfl ?_
      refine RL.nil ?_
      refine NX.seq ?_
      refine TR.ret ?_
      refine NX.ret1 () rfl rfl (congrArg Value.bool (Eq.symm (decide_eq_true (tk_all hk.2 hk1 hlen)))) (fun w hw => hw)
theorem computed2 {b : Nat} {bud : Int} {fv : Value} {X : EX} {M : List HP} {F : List Fact} : Ctr Try.prog 18 [PtV b] (EngI b bud fv X :: M) F (Option Addr × Nat) (fun z => .slice z.1 X.comp.length z.2) (fun z => EngI b bud fv { X with comp := [] } :: M) (fun z => ArrF z.1 (coC X.comp) :: F) :=
  Ctr.weakX computed_spec (fun w hw => hw) (fun z w hw => ⟨z, rfl, hw.swap.keepSl⟩)
theorem sameT_ok {xs ys : List Ky} {n m : Nat} {oa ob : Option Addr} {ca cb : Nat} {M : List HP} {F : List Fact} (ha : ArrF oa (coC xs) ∈ F) (hb : ArrF ob (coC ys) ∈ F) (hn : n = xs.length) (hm : m = ys.length) (hxl : xs.length ≤ 4611686018427387904) (b : Bool) (h : b = decide (xs = ys)) : Ctr Try.prog 19 [.slice oa n ca, .slice ob m cb] M F Unit (fun _ => .bool b) (fun _ => M) (fun _ => F) := by
  subst hn; subst hm; subst h; exact sameT_spec ha hb hxl
def E1 : En := setE [120] [117] newE
def G1 : An × En := getE ruleE 6 [98] 9 E1
def E2 : En := { G1.2 with comp := [] }
def E3 : En := setE [120] [118] E2
def G2 : An × En := getE ruleE 6 [98] 9 E3
def E4 : En := { G2.2 with comp := [] }
def G3 : An × En := getE ruleE 6 [112] 9 E4
def G4 : An × En := getE ruleE 6 [113] 9 G3.2
theorem liv : G1.1.s = [49, 49] ∧ G1.2.comp = [[97], [98]] ∧ G2.1.s = [49, 49] ∧ G2.2.comp = [[97]] ∧ G3.1.e = 10 ∧ G4.1.e = 10 := by decide +kernel
theorem livN : (E1.gets = 0 ∧ E1.comp.length = 0) ∧ (E3.gets = 1 ∧ E3.comp.length = 0) ∧ (E4.gets = 2 ∧ E4.comp.length = 0) ∧ G3.2.gets = 3 ∧ G3.2.comp.length ≤ 9 := by decide +kernel
theorem livB : bytesE G1.2 ≤ 100 ∧ bytesE G2.2 ≤ 100 ∧ bytesE G3.2 ≤ 100 ∧ bytesE G4.2 ≤ 100 := by decide +kernel
theorem bt1 : Bt ruleE UE E1 := Bt.new.set _ _ (by show 1 ≤ 4; decide)
theorem bt3 : Bt ruleE UE E3 := ((bt1.get ruleE_k (by decide) (by decide)).1.comp []).set _ _ (by show 1 ≤ 4; decide)
theorem bt4 : Bt ruleE UE E4 := (bt3.get ruleE_k (by decide) (by decide)).1.comp []
theorem bt5 : Bt ruleE UE G3.2 := (bt4.get ruleE_k (by decide) (by decide)).1
set_option maxHeartbeats 1000000 in
theorem lives_spec {M : List HP} {F : List Fact} : Ctr Try.prog 17 [] M F Unit (fun _ => .bool true) (fun _ => M) (fun _ => F) := by
  refine Ctr.body Try.func17 rfl rfl ?_
  refine TR.seq ?_
  refine TR.region ?_
  refine RL.assign rfl rfl rfl ?_
  refine RL.nil ?_
  refine NX.seq ?_
  refine TR.seq ?_
  refine TR.region ?_
  refine RL.call rfl rfl Try.call10 rfl (new_spec (f := .func 33) (a := [].toArray) (c := [].toArray) (by decide)) (fun b => ?_)
  refine RL.move rfl rfl rfl ?_
  refine RL.extract rfl rfl rfl rfl ?_
  refine RL.extract rfl rfl rfl rfl ?_
  refine RL.assign rfl rfl rfl ?_
  refine RL.assign rfl rfl rfl ?_
  refine RL.nil ?_
  refine NX.seq ?_
  refine TR.seq ?_
  refine TR.seq ?_
  refine TR.region ?_
  refine RL.move rfl rfl rfl ?_
  refine RL.bin rfl rfl rfl (BinV.eqlPtrNil wo_tp24) rfl ?_
  refine RL.move rfl rfl rfl ?_
  refine RL.move rfl rfl rfl ?_
  refine RL.bin rfl rfl rfl (BinV.to (d := false) BinV.neq (decide_eq_false (by decide))) rfl ?_
  refine RL.pickF rfl rfl rfl rfl ?_
  refine RL.nil ?_
  refine NX.seq ?_
  refine TR.condF rfl ?_
  refine TR.skip ?_
  refine NX.seq ?_
  refine TR.seq ?_
  refine TR.region ?_
  refine RL.move rfl rfl rfl ?_
  refine RL.call rfl rfl Try.call12 rfl (set_spec (X := newX) (k := [120]) (v := [117]) (by unfold KO; decide) (.head _)) (fun _ => ?_)
  have hE1 : (setX [120] [117] newX).en = E1 := by rw [setX_en]; rfl
  refine RL.nil ?_
  refine NX.seq ?_
  refine TR.seq ?_
  refine TR.region ?_
  refine RL.move rfl rfl rfl ?_
  refine RL.call rfl rfl Try.call15 rfl (get_spec (X := (setX [120] [117] newX)) (k := [98]) (fz := 9) UE_ko (by decide) ruleE_k exV (by decide) (by rw [hE1]; exact bt1.w) (by show 0 ≤ ((setX [120] [117] newX) : EX).en.gets; rw [hE1, livN.1.1]; decide) (by show ((setX [120] [117] newX) : EX).en.gets ≤ _; rw [hE1, livN.1.1]; decide) (by show ((setX [120] [117] newX) : EX).en.comp.length + 9 ≤ _; rw [hE1]; have := livN.1.2; omega) (by rw [hE1]; exact Int.ofNat_le.2 livB.1) (by rw [hE1]; exact Nat.le_trans livB.1 (by decide)) (.head _)) (fun Y1 => ?_)
  obtain ⟨Y1, hY1⟩ := Y1
  rw [hE1] at hY1
  have hY1 : Y1.en = G1.2 := hY1
  dsimp only
  refine RL.move rfl rfl rfl ?_
  refine RL.extract rfl rfl rfl rfl ?_
  refine RL.extract rfl rfl rfl rfl ?_
  refine RL.assign rfl rfl rfl ?_
  refine RL.assign rfl rfl rfl ?_
  refine RL.nil ?_
  refine NX.seq ?_
  refine TR.seq ?_
  refine TR.region ?_
  refine RL.move rfl rfl rfl ?_
  refine RL.call rfl rfl Try.call18 rfl (computed2 (X := Y1)) (fun z1 => ?_)
  have hE2 : ({ Y1 with comp := [] } : EX).en = E2 := by show ({ Y1.en with comp := [] } : En) = _; rw [hY1]; rfl
  refine RL.assign rfl rfl rfl ?_
  refine RL.nil ?_
  refine NX.seq ?_
  refine TR.seq ?_
  refine TR.region ?_
  refine RL.move rfl rfl rfl ?_
  refine RL.call rfl rfl Try.call12 rfl (set_spec (X := ({ Y1 with comp := [] } : EX)) (k := [120]) (v := [118]) (by unfold KO; decide) (.tail _ (.head _))) (fun _ => ?_)
  have hE3 : (setX [120] [118] ({ Y1 with comp := [] } : EX)).en = E3 := by rw [setX_en, hE2]; rfl
  refine RL.nil ?_
  refine NX.seq ?_
  refine TR.seq ?_
  refine TR.region ?_
  refine RL.move rfl rfl rfl ?_
  refine RL.call rfl rfl Try.call15 rfl (get_spec (X := (setX [120] [118] ({ Y1 with comp := [] } : EX))) (k := [98]) (fz := 9) UE_ko (by decide) ruleE_k exV (by decide) (by rw [hE3]; exact bt3.w) (by show 0 ≤ ((setX [120] [118] ({ Y1 with comp := [] } : EX)) : EX).en.gets; rw [hE3, livN.2.1.1]; decide) (by show ((setX [120] [118] ({ Y1 with comp := [] } : EX)) : EX).en.gets ≤ _; rw [hE3, livN.2.1.1]; decide) (by show ((setX [120] [118] ({ Y1 with comp := [] } : EX)) : EX).en.comp.length + 9 ≤ _; rw [hE3]; have := livN.2.1.2; omega) (by rw [hE3]; exact Int.ofNat_le.2 livB.2.1) (by rw [hE3]; exact Nat.le_trans livB.2.1 (by decide)) (.head _)) (fun Y2 => ?_)
  obtain ⟨Y2, hY2⟩ := Y2
  rw [hE3] at hY2
  have hY2 : Y2.en = G2.2 := hY2
  dsimp only
  refine RL.move rfl rfl rfl ?_
  refine RL.extract rfl rfl rfl rfl ?_
  refine RL.extract rfl rfl rfl rfl ?_
  refine RL.assign rfl rfl rfl ?_
  refine RL.assign rfl rfl rfl ?_
  refine RL.nil ?_
  refine NX.seq ?_
  refine TR.seq ?_
  refine TR.region ?_
  refine RL.move rfl rfl rfl ?_
  refine RL.call rfl rfl Try.call18 rfl (computed2 (X := Y2)) (fun z2 => ?_)
  have hE4 : ({ Y2 with comp := [] } : EX).en = E4 := by show ({ Y2.en with comp := [] } : En) = _; rw [hY2]; rfl
  refine RL.assign rfl rfl rfl ?_
  refine RL.nil ?_
  refine NX.seq ?_
  refine TR.seq ?_
  refine TR.region ?_
  refine RL.move rfl rfl rfl ?_
  refine RL.call rfl rfl Try.call15 rfl (get_spec (X := ({ Y2 with comp := [] } : EX)) (k := [112]) (fz := 9) UE_ko (by decide) ruleE_k exV (by decide) (by rw [hE4]; exact bt4.w) (by show 0 ≤ (({ Y2 with comp := [] } : EX) : EX).en.gets; rw [hE4, livN.2.2.1.1]; decide) (by show (({ Y2 with comp := [] } : EX) : EX).en.gets ≤ _; rw [hE4, livN.2.2.1.1]; decide) (by show (({ Y2 with comp := [] } : EX) : EX).en.comp.length + 9 ≤ _; rw [hE4]; have := livN.2.2.1.2; omega) (by rw [hE4]; exact Int.ofNat_le.2 livB.2.2.1) (by rw [hE4]; exact Nat.le_trans livB.2.2.1 (by decide)) (.tail _ (.head _))) (fun Y3 => ?_)
  obtain ⟨Y3, hY3⟩ := Y3
  rw [hE4] at hY3
  have hY3 : Y3.en = G3.2 := hY3
  dsimp only
  refine RL.move rfl rfl rfl ?_
  refine RL.extract rfl rfl rfl rfl ?_
  refine RL.extract rfl rfl rfl rfl ?_
  refine RL.assign rfl rfl rfl ?_
  refine RL.assign rfl rfl rfl ?_
  refine RL.nil ?_
  refine NX.seq ?_
  refine TR.seq ?_
  refine TR.region ?_
  refine RL.move rfl rfl rfl ?_
  refine RL.call rfl rfl Try.call15 rfl (get_spec (X := Y3) (k := [113]) (fz := 9) UE_ko (by decide) ruleE_k exV (by decide) (by rw [hY3]; exact bt5.w) (by show 0 ≤ (Y3 : EX).en.gets; rw [hY3, livN.2.2.2.1]; decide) (by show (Y3 : EX).en.gets ≤ _; rw [hY3, livN.2.2.2.1]; decide) (by show (Y3 : EX).en.comp.length + 9 ≤ _; rw [hY3]; have := livN.2.2.2.2; omega) (by rw [hY3]; exact Int.ofNat_le.2 livB.2.2.2) (by rw [hY3]; exact Nat.le_trans livB.2.2.2 (by decide)) (.head _)) (fun Y4 => ?_)
  obtain ⟨Y4, hY4⟩ := Y4
  rw [hY3] at hY4
  have hY4 : Y4.en = G4.2 := hY4
  dsimp only
  refine RL.move rfl rfl rfl ?_
  refine RL.extract rfl rfl rfl rfl ?_
  refine RL.extract rfl rfl rfl rfl ?_
  refine RL.assign rfl rfl rfl ?_
  refine RL.assign rfl rfl rfl ?_
  refine RL.nil ?_
  refine NX.seq ?_
  refine TR.seq ?_
  refine TR.region ?_
  refine RL.move rfl rfl rfl ?_
  refine RL.bin rfl rfl rfl (BinV.to (d := true) BinV.eqlS (decide_eq_true (by rw [hE1]; exact liv.1))) rfl ?_
  refine RL.move rfl rfl rfl ?_
  refine RL.move rfl rfl rfl ?_
  refine RL.bin rfl rfl rfl (BinV.to (d := true) BinV.eqlS (decide_eq_true (by rw [hE3]; exact liv.2.2.1))) rfl ?_
  refine RL.pickT rfl rfl rfl rfl ?_
  refine RL.move rfl rfl rfl ?_
  refine RL.move rfl rfl rfl ?_
  refine RL.buildSlice rfl rfl (wo_bs35_2_0_1 _ _) rfl (fun b1 => ?_)
  refine RL.weak (fun w hw => St.keepSl (St.boxSl (n := 2) (size := 1) rfl (by decide) hw)) ?_
  refine RL.call rfl rfl Try.call19 rfl (sameT_ok (xs := Y1.comp) (ys := [[97], [98]]) (.tail _ (.tail _ (.tail _ (.tail _ (.tail _ (.tail _ (.head _))))))) (.head _) rfl rfl (by show Y1.en.comp.length ≤ _; rw [hY1, liv.2.1]; decide) true (decide_eq_true (by show Y1.en.comp = _; rw [hY1]; exact liv.2.1)).symm) (fun _ => ?_)
  refine RL.pickT rfl rfl rfl rfl ?_
  refine RL.move rfl rfl rfl ?_
  refine RL.move rfl rfl rfl ?_
  refine RL.buildSlice rfl rfl (wo_bs35_1_0 _) rfl (fun b2 => ?_)
  refine RL.weak (fun w hw => St.keepSl (St.boxSl (n := 1) (size := 1) rfl (by decide) hw)) ?_
  refine RL.call rfl rfl Try.call19 rfl (sameT_ok (xs := Y2.comp) (ys := [[97]]) (.tail _ (.tail _ (.tail _ (.tail _ (.head _))))) (.head _) rfl rfl (by show Y2.en.comp.length ≤ _; rw [hY2, liv.2.2.2.1]; decide) true (decide_eq_true (by show Y2.en.comp = _; rw [hY2]; exact liv.2.2.2.1)).symm) (fun _ => ?_)
  refine RL.pickT rfl rfl rfl rfl ?_
  refine RL.move rfl rfl rfl ?_
  refine RL.move rfl rfl rfl ?_
  refine RL.bin rfl rfl rfl (BinV.to (d := true) BinV.eql (decide_eq_true (by rw [hE4]; exact liv.2.2.2.2.1))) rfl ?_
  refine RL.pickT rfl rfl rfl rfl ?_
  refine RL.move rfl rfl rfl ?_
  refine RL.move rfl rfl rfl ?_
  refine RL.bin rfl rfl rfl (BinV.to (d := true) BinV.eql (decide_eq_true (by rw [hY3]; exact liv.2.2.2.2.2))) rfl ?_
  refine RL.pickT rfl rfl rfl rfl ?_
  refine RL.assign rfl rfl rfl ?_
  refine RL.nil ?_
  refine NX.seq ?_
  refine TR.ret ?_
  exact NX.ret1 () rfl rfl rfl (fun w hw => ((hw.to 1 [0] 11 [] rfl)).tail)
end Go.Proofs.Ythefimaaeilefaa

namespace Go.Proofs.Ythefimaaeilefaa
open Go.GL
set_option linter.unusedVariables false
theorem wp_bs46_1_0 (x00 : List UInt8) (x010 : List UInt8) (x011 : Int) : BuildSV Try.prog 46 51 1 [(0, .agg #[S x00, S x010, .int .i64 x011])] [S x00, S x010, .int .i64 x011] := fun w => by kernel_rfl
theorem wp_bv49_0 (x0 : List UInt8) : BuildV Try.prog 49 [(0, S x0)] (.agg #[S x0, .int .i64 0]) := fun w => by kernel_rfl
theorem wp_bv51_0_1 (x0 : List UInt8) (x10 : List UInt8) (x11 : Int) : BuildV Try.prog 51 [(0, S x0), (1, .agg #[S x10, .int .i64 x11])] (.agg #[S x0, S x10, .int .i64 x11]) := fun w => by kernel_rfl
theorem wp_bv76_0 (x0 : Int) : BuildV Try.prog 76 [(0, .int .i64 x0)] (.agg #[.int .i64 x0, .slice none 0 0, .slice none 0 0, .slice none 0 0, .int .i64 0, .int .i64 0, .bool false, .slice none 0 0]) := fun w => by kernel_rfl
theorem wp_ni46 : noInt Try.prog 46 = true := by kernel_rfl
theorem wp_te51 : tyElem Try.prog 51 3 40 = true := by kernel_rfl
theorem wp_tf49_0 : fieldOff Try.prog 49 0 0 = true := by kernel_rfl
theorem wp_tf51_0 : fieldOff Try.prog 51 0 0 = true := by kernel_rfl
theorem wp_tf51_1 : fieldOff Try.prog 51 1 1 = true := by kernel_rfl
theorem wp_tf76_1 : fieldOff Try.prog 76 1 1 = true := by kernel_rfl
theorem wp_tf76_2 : fieldOff Try.prog 76 2 2 = true := by kernel_rfl
theorem wp_tl46 : tySlice Try.prog 46 51 = true := by kernel_rfl
theorem wp_tl73 : tySlice Try.prog 73 105 = true := by kernel_rfl
theorem wp_tp24 : tyPtr Try.prog 24 65 = true := by kernel_rfl
theorem wp_ts46 : tyScalar Try.prog 46 = true := by kernel_rfl
theorem wp_ts73 : tyScalar Try.prog 73 = true := by kernel_rfl
theorem wp_ts9 : tyScalar Try.prog 9 = true := by kernel_rfl
theorem wp_tz51 : tySize Try.prog 51 3 = true := by kernel_rfl
theorem bgN_lt {xs : List Int} {i : Nat} (hi : i < 10) : bgN xs i < 100000 := by
  have h5 := pkN_lt (xs := xs) (i := i) (m := 5000) (by decide)
  unfold bgN
  split
  · split
    · decide
    · unfold bgS
      have e : ∀ a, a < 10 → a * i / 10 ≤ 9 := fun a ha => by
        have : a * i ≤ 9 * 9 := Nat.mul_le_mul (by omega) (by omega)
        omega
      have e1 := e (pkN xs i 5000 / 5 % 10) (by omega)
      have e2 := e (pkN xs i 5000 / 50 % 10) (by omega)
      have e3 := e (pkN xs i 5000 / 500 % 10) (by omega)
      generalize pkN xs i 5000 / 5 % 10 * i / 10 = g1 at e1 ⊢
      generalize pkN xs i 5000 / 50 % 10 * i / 10 = g2 at e2 ⊢
      generalize pkN xs i 5000 / 500 % 10 * i / 10 = g3 at e3 ⊢
      omega
  · omega
theorem mul10 {a b : Nat} (ha : a < 10) (hb : b < 10) : a * b ≤ 81 := Nat.le_trans (Nat.mul_le_mul (Nat.le_of_lt_succ ha) (Nat.le_of_lt_succ hb)) (by decide)
set_option maxHeartbeats 1000000 in
theorem begin_spec {xs : List Int} {oa : Option Addr} {ca : Nat} {M : List HP} {F : List Fact} (ha : ArrF oa (ints xs) ∈ F) (hxs : IntsOk xs) : Ctr Try.prog 24 [.slice oa xs.length ca] M F (Option Addr × Nat) (fun z => .slice z.1 (bgL xs 10).length z.2) (fun z => OwnSl 51 3 z.1 (bgL xs 10).length z.2 (inA (bgL xs 10)) :: M) (fun _ => F) := by
  refine Ctr.body Try.func24 rfl rfl ?_
  refine TR.seq ?_
  refine TR.region ?_
  refine RL.assign rfl rfl rfl ?_
  refine RL.nil ?_
  refine NX.seq ?_
  refine TR.seq ?_
  refine TR.region ?_
  refine RL.assign rfl rfl rfl ?_
  refine RL.weak (fun w hw => OwnSl.nil_new 51 3 hw) ?_
  refine RL.nil ?_
  refine NX.seq ?_
  refine TR.seq ?_
  refine TR.seq ?_
  refine TR.region ?_
  refine RL.assign rfl rfl rfl ?_
  refine RL.nil ?_
  refine NX.seq ?_
  refine TR.block ?_
  refine TR.loopP (ι := (Nat × List (Ky × List UInt8) × Option Addr × Nat)) (fun z => z.1 ≤ 10 ∧ z.2.1 = bgL xs z.1) (fun z => [(0, .slice oa xs.length ca), (3, .slice z.2.2.1 z.2.1.length z.2.2.2), (4, I (z.1 : Nat))]) (fun z => OwnSl 51 3 z.2.2.1 z.2.1.length z.2.2.2 (inA z.2.1) :: M) (fun z => F) (fun z => (10 - z.1)) (0, [], none, 0) ⟨Nat.zero_le _, rfl⟩ ⟨rfl, rfl, rfl, trivial⟩ (fun w hw => (hw.to 1 [0] 0 [] rfl)) (fun z hz => ?_)
  refine TR.seq ?_
  refine TR.seq ?_
  refine TR.region ?_
  refine RL.move rfl rfl rfl ?_
  refine RL.bin rfl rfl rfl BinV.lss rfl ?_
  refine RL.nil ?_
  refine NX.seq ?_
  refine TR.cond rfl (fun h1 => ?_) (fun h1 => ?_)
  · skip
    have hz10 : z.1 < 10 := by have := of_decide_eq_true h1; omega
    have hzl : z.2.1.length = z.1 := by rw [hz.2, bgL_len]
    refine TR.skip ?_
    refine NX.seq ?_
    refine TR.seq ?_
    refine TR.block ?_
    refine TR.seq ?_
    refine TR.region ?_
    refine RL.move rfl rfl rfl ?_
    refine RL.move rfl rfl rfl ?_
    refine RL.call rfl rfl Try.call38 rfl (pick_spec (i := z.1) ha hxs (by decide)) (fun _ => ?_)
    have hn5 := pkN_lt (xs := xs) (i := z.1) (m := 5000) (by decide)
    refine RL.assign rfl rfl rfl ?_
    refine RL.nil ?_
    refine NX.seq ?_
    refine TR.cut (ι := {m : Nat // m = bgN xs z.1}) (fun m => [(0, .slice oa xs.length ca), (3, .slice z.2.2.1 z.2.1.length z.2.2.2), (4, I (z.1 : Nat)), (5, I (m.1 : Nat))]) (fun _ => OwnSl 51 3 z.2.2.1 z.2.1.length z.2.2.2 (inA z.2.1) :: M) (fun _ => F) ?_ (fun m => ?_)
    · skip
      refine TR.seq ?_
      refine TR.region ?_
      refine RL.move rfl rfl rfl ?_
      refine RL.call rfl rfl Try.call38 rfl (pick_spec (i := 10) ha hxs (by decide)) (fun _ => ?_)
      refine RL.bin rfl rfl rfl BinV.gtr rfl ?_
      refine RL.move rfl rfl rfl ?_
      refine RL.part (fun h2 => ?_) (fun h2 => ?_)
      · skip
        have hc3 : 0 < pkN xs 10 3 := by have := of_decide_eq_true h2; omega
        refine RL.move rfl rfl rfl ?_
        refine RL.bin rfl rfl rfl (BinV.remK (a := (pkN xs z.1 5000)) (b := 5) (by decide)) rfl ?_
        refine RL.bin rfl rfl rfl BinV.neq rfl ?_
        refine RL.pickT rfl rfl rfl rfl ?_
        refine RL.nil ?_
        refine NX.seq ?_
        refine TR.cond rfl (fun h3 => ?_) (fun h3 => ?_)
        · skip
          have hc5 : (pkN xs z.1 5000) % 5 ≠ 0 := by have := of_decide_eq_true h3; omega
          refine TR.seq ?_
          have e1 := mul10 (a := (pkN xs z.1 5000) / 5 % 10) (b := z.1) (by omega) hz10
          have e2 := mul10 (a := (pkN xs z.1 5000) / 50 % 10) (b := z.1) (by omega) hz10
          have e3 := mul10 (a := (pkN xs z.1 5000) / 500 % 10) (b := z.1) (by omega) hz10
          generalize hg1 : ((pkN xs z.1 5000) / 5 % 10) * z.1 = g1 at e1
          generalize hg2 : ((pkN xs z.1 5000) / 50 % 10) * z.1 = g2 at e2
          generalize hg3 : ((pkN xs z.1 5000) / 500 % 10) * z.1 = g3 at e3
          refine TR.region ?_
          refine RL.move rfl rfl rfl ?_
          refine RL.bin rfl rfl rfl (BinV.remK (a := (pkN xs z.1 5000)) (b := 5) (by decide)) rfl ?_
          refine RL.move rfl rfl rfl ?_
          refine RL.bin rfl rfl rfl (BinV.quo (by decide) (((pkN xs z.1 5000) / 5 : Nat) : Int) (by rw [Int.tdiv_eq_ediv_of_nonneg (by omega)]; omega) (by omega) (by omega)) rfl ?_
          refine RL.bin rfl rfl rfl (BinV.remK (a := (pkN xs z.1 5000) / 5) (b := 10) (by decide)) rfl ?_
          refine RL.move rfl rfl rfl ?_
          refine RL.bin rfl rfl rfl (BinV.mul ((((pkN xs z.1 5000) / 5 % 10) * z.1 : Nat) : Int) (Int.natCast_mul _ _).symm (by omega) (by omega)) rfl ?_
          refine RL.bin rfl rfl rfl (BinV.quo (by decide) (((((pkN xs z.1 5000) / 5 % 10) * z.1) / 10 : Nat) : Int) (by rw [Int.tdiv_eq_ediv_of_nonneg (by omega)]; omega) (by omega) (by omega)) rfl ?_
          refine RL.bin rfl rfl rfl (BinV.mul ((5 * (((pkN xs z.1 5000) / 5 % 10) * z.1 / 10) : Nat) : Int) (by omega) (by omega) (by omega)) rfl ?_
          refine RL.bin rfl rfl rfl (BinV.add ((((pkN xs z.1 5000) % 5 + 5 * (((pkN xs z.1 5000) / 5 % 10) * z.1 / 10)) : Nat) : Int) (by omega) (by omega) (by omega)) rfl ?_
          refine RL.move rfl rfl rfl ?_
          refine RL.bin rfl rfl rfl (BinV.quo (by decide) (((pkN xs z.1 5000) / 50 : Nat) : Int) (by rw [Int.tdiv_eq_ediv_of_nonneg (by omega)]; omega) (by omega) (by omega)) rfl ?_
          refine RL.bin rfl rfl rfl (BinV.remK (a := (pkN xs z.1 5000) / 50) (b := 10) (by decide)) rfl ?_
          refine RL.move rfl rfl rfl ?_
          refine RL.bin rfl rfl rfl (BinV.mul ((((pkN xs z.1 5000) / 50 % 10) * z.1 : Nat) : Int) (Int.natCast_mul _ _).symm (by omega) (by omega)) rfl ?_
          refine RL.bin rfl rfl rfl (BinV.quo (by decide) (((((pkN xs z.1 5000) / 50 % 10) * z.1) / 10 : Nat) : Int) (by rw [Int.tdiv_eq_ediv_of_nonneg (by omega)]; omega) (by omega) (by omega)) rfl ?_
          refine RL.bin rfl rfl rfl (BinV.mul ((50 * (((pkN xs z.1 5000) / 50 % 10) * z.1 / 10) : Nat) : Int) (by omega) (by omega) (by omega)) rfl ?_
          refine RL.bin rfl rfl rfl (BinV.add (((((pkN xs z.1 5000) % 5 + 5 * (((pkN xs z.1 5000) / 5 % 10) * z.1 / 10)) + 50 * (((pkN xs z.1 5000) / 50 % 10) * z.1 / 10)) : Nat) : Int) (by omega) (by omega) (by omega)) rfl ?_
          refine RL.move rfl rfl rfl ?_
          refine RL.bin rfl rfl rfl (BinV.quo (by decide) (((pkN xs z.1 5000) / 500 : Nat) : Int) (by rw [Int.tdiv_eq_ediv_of_nonneg (by omega)]; omega) (by omega) (by omega)) rfl ?_
          refine RL.bin rfl rfl rfl (BinV.remK (a := (pkN xs z.1 5000) / 500) (b := 10) (by decide)) rfl ?_
          refine RL.move rfl rfl rfl ?_
          refine RL.bin rfl rfl rfl (BinV.mul ((((pkN xs z.1 5000) / 500 % 10) * z.1 : Nat) : Int) (Int.natCast_mul _ _).symm (by omega) (by omega)) rfl ?_
          refine RL.bin rfl rfl rfl (BinV.quo (by decide) (((((pkN xs z.1 5000) / 500 % 10) * z.1) / 10 : Nat) : Int) (by rw [Int.tdiv_eq_ediv_of_nonneg (by omega)]; omega) (by omega) (by omega)) rfl ?_
          refine RL.bin rfl rfl rfl (BinV.mul ((500 * (((pkN xs z.1 5000) / 500 % 10) * z.1 / 10) : Nat) : Int) (by omega) (by omega) (by omega)) rfl ?_
          refine RL.bin rfl rfl rfl (BinV.add ((((((pkN xs z.1 5000) % 5 + 5 * (((pkN xs z.1 5000) / 5 % 10) * z.1 / 10)) + 50 * (((pkN xs z.1 5000) / 50 % 10) * z.1 / 10)) + 500 * (((pkN xs z.1 5000) / 500 % 10) * z.1 / 10)) : Nat) : Int) (by omega) (by omega) (by omega)) rfl ?_
          refine RL.assign rfl rfl rfl ?_
          refine RL.nil ?_
          refine NX.seq ?_
          refine TR.seq ?_
          refine TR.region ?_
          refine RL.move rfl rfl rfl ?_
          refine RL.bin rfl rfl rfl BinV.eql rfl ?_
          refine RL.nil ?_
          refine NX.seq ?_
          refine TR.cond rfl (fun h4 => ?_) (fun h4 => ?_)
          · skip
            have h48 : z.1 = 0 := by have := of_decide_eq_true h4; omega
            refine TR.region ?_
            refine RL.assign rfl rfl rfl ?_
            refine RL.nil ?_
            refine NX.meet ⟨0, by unfold bgN; rw [if_pos ⟨hc3, hc5⟩, if_pos h48]⟩ ⟨rfl, rfl, rfl, rfl, trivial⟩ (fun w hw => hw)
          · skip
            have h48 : ¬ z.1 = 0 := by have := of_decide_eq_false h4; omega
            refine TR.skip ?_
            refine NX.meet ⟨((((pkN xs z.1 5000) % 5 + 5 * (((pkN xs z.1 5000) / 5 % 10) * z.1 / 10)) + 50 * (((pkN xs z.1 5000) / 50 % 10) * z.1 / 10)) + 500 * (((pkN xs z.1 5000) / 500 % 10) * z.1 / 10)), by unfold bgN; rw [if_pos ⟨hc3, hc5⟩, if_neg h48]; rfl⟩ ⟨rfl, rfl, rfl, rfl, trivial⟩ (fun w hw => hw)
        · skip
          have hc5 : ¬ (pkN xs z.1 5000) % 5 ≠ 0 := by have := of_decide_eq_false h3; omega
          refine TR.skip ?_
          refine NX.meet ⟨(pkN xs z.1 5000), by unfold bgN; rw [if_neg (fun e => hc5 e.2)]⟩ ⟨rfl, rfl, rfl, rfl, trivial⟩ (fun w hw => hw)
      · skip
        have hc3 : ¬ 0 < pkN xs 10 3 := by have := of_decide_eq_false h2; omega
        refine RL.skip rfl rfl rfl ?_
        refine RL.skip rfl rfl rfl ?_
        refine RL.skip rfl rfl rfl ?_
        refine RL.pickF rfl rfl rfl rfl ?_
        refine RL.nil ?_
        refine NX.seq ?_
        refine TR.condF rfl ?_
        refine TR.skip ?_
        refine NX.meet ⟨(pkN xs z.1 5000), by unfold bgN; rw [if_neg (fun e => hc3 e.1)]⟩ ⟨rfl, rfl, rfl, rfl, trivial⟩ (fun w hw => hw)
    obtain ⟨m, hm⟩ := m
    have hml := bgN_lt (xs := xs) (i := z.1) hz10
    dsimp only
    refine TR.region ?_
    refine RL.move rfl rfl rfl ?_
    refine RL.move rfl rfl rfl ?_
    refine RL.call rfl rfl Try.call13 rfl (dec_spec (n := z.1) (by omega)) (fun _ => ?_)
    refine RL.bin rfl rfl rfl (BinV.addS (by have := dec_len (n := z.1) (by omega); simp only [List.length_cons, List.length_nil]; omega)) rfl ?_
    refine RL.move rfl rfl rfl ?_
    refine RL.call rfl rfl Try.call14 rfl (text_spec (n := (m : Nat)) (by omega) (by omega)) (fun _ => ?_)
    refine RL.build rfl rfl (wp_bv49_0 _) rfl ?_
    refine RL.build rfl rfl (wp_bv51_0_1 _ _ _) rfl ?_
    refine RL.buildSlice rfl rfl (wp_bs46_1_0 _ _ _) rfl (fun b5 => ?_)
    refine RL.ofGV rfl rfl (GV.append (j := 1) wp_tl46 wp_ni46 wp_te51 rfl rfl rfl (src_box (i := 0) rfl rfl rfl) (by omega) (by omega)) (fun y => ?_)
    refine RL.assign rfl rfl rfl ?_
    refine RL.nil ?_
    refine NX.off ?_
    refine NX.seq ?_
    refine TR.region ?_
    refine RL.move rfl rfl rfl ?_
    refine RL.bin rfl rfl rfl (BinV.add ((z.1 + 1 : Nat) : Int) (by omega) (by omega) (by omega)) rfl ?_
    refine RL.assign rfl rfl rfl ?_
    refine RL.nil ?_
    refine NX.roundP (z.1 + 1, bgL xs (z.1 + 1), y.1, y.2) ⟨by omega, rfl⟩ (by show 10 - (z.1 + 1) < 10 - z.1; omega) ⟨rfl, by show some (Value.slice y.1 (z.2.1.length + 1) y.2) = some (.slice y.1 (bgL xs (z.1 + 1)).length y.2); rw [bgL_len, hzl], rfl, trivial⟩ (fun w hw => (by have h9 := (hw.to 2 [1] 0 [] rfl); show St w (OwnSl 51 3 y.1 (bgL xs (z.1 + 1)).length y.2 (inA (bgL xs (z.1 + 1))) :: M) F; rw [bgL_len, bgL_snoc, inA_append, ← hz.2]; rw [hzl] at h9; show St w (OwnSl 51 3 y.1 (z.1 + 1) y.2 (inA z.2.1 ++ [S (rK z.1), S (txB (arN (bgN xs z.1 : Nat) 5000)), I 0]) :: M) F; rw [← hm]; exact h9))
  · skip
    have hz10 : z.1 = 10 := by have := of_decide_eq_false h1; omega
    refine TR.exit ?_
    refine NX.exitThen ?_
    refine NX.exitThen ?_
    refine NX.exitHere ?_
    refine NX.seq ?_
    refine TR.seq ?_
    refine TR.region ?_
    refine RL.move rfl rfl rfl ?_
    refine RL.assign rfl rfl rfl ?_
    refine RL.nil ?_
    refine NX.seq ?_
    refine TR.ret ?_
    have h9 : z.2.1 = bgL xs 10 := by have h9 := hz.2; rw [hz10] at h9; exact h9
    exact NX.ret1 (z.2.2.1, z.2.2.2) rfl rfl (by rw [h9]) (fun w hw => by rw [← h9]; exact hw)
theorem input_none {m : Nat} {bud : Int} {l : List (Ky × List UInt8)} {z0 : Option Addr × Nat} {M : List HP} {F : List Fact} {k : Ky} (hne : ∀ p, p ∈ l → p.1 ≠ k) (hl : l.length ≤ 100) : Ctr Try.prog 49 [PtV m, S k] (Box m 76 [I bud, .slice z0.1 l.length z0.2, .slice none 0 0, .slice none 0 0, I 0, I 0, .bool false, .slice none 0 0] :: OwnSl 51 3 z0.1 l.length z0.2 (inA l) :: M) F Unit (fun _ => I (-1)) (fun _ => Box m 76 [I bud, .slice z0.1 l.length z0.2, .slice none 0 0, .slice none 0 0, I 0, I 0, .bool false, .slice none 0 0] :: OwnSl 51 3 z0.1 l.length z0.2 (inA l) :: M) (fun _ => F) := by
  refine Ctr.body Try.func49 rfl rfl ?_
  refine TR.seq ?_
  refine TR.region ?_
  refine RL.assign rfl rfl rfl ?_
  refine RL.nil ?_
  refine NX.seq ?_
  refine TR.seq ?_
  refine TR.seq ?_
  refine TR.region ?_
  refine RL.assign rfl rfl rfl ?_
  refine RL.nil ?_
  refine NX.seq ?_
  refine TR.block ?_
  refine TR.loopP (ι := Nat) (fun i => i ≤ l.length) (fun i => [(0, PtV m), (1, S k), (5, I (i : Nat))]) (fun i => Box m 76 [I bud, .slice z0.1 l.length z0.2, .slice none 0 0, .slice none 0 0, I 0, I 0, .bool false, .slice none 0 0] :: OwnSl 51 3 z0.1 l.length z0.2 (inA l) :: M) (fun i => F) (fun i => (l.length - i)) 0 (Nat.zero_le _) ⟨rfl, rfl, rfl, trivial⟩ (fun w hw => (hw.to 2 [0, 1] 0 [] rfl)) (fun i hi0 => ?_)
  refine TR.seq ?_
  refine TR.seq ?_
  refine TR.region ?_
  refine RL.move rfl rfl rfl ?_
  refine RL.move rfl rfl rfl ?_
  refine RL.nilCheck rfl rfl rfl ?_
  refine RL.fieldAddr rfl wp_tf76_1 rfl rfl ?_
  refine RL.load1 0 rfl wp_ts46 rfl rfl rfl rfl ?_
  refine RL.lenSlice rfl wp_tl46 rfl rfl ?_
  refine RL.bin rfl rfl rfl BinV.lss rfl ?_
  refine RL.nil ?_
  refine NX.seq ?_
  refine TR.cond rfl (fun h1 => ?_) (fun h1 => ?_)
  · skip
    have hi : i < l.length := by have := of_decide_eq_true h1; omega
    obtain ⟨p, hp⟩ : ∃ p, l[i]? = some p := ⟨_, List.getElem?_eq_getElem hi⟩
    refine TR.openP (fun w hw => own_at (i := 1) rfl (inA_ne hp) hw) (fun g hg => ?_)
    refine TR.skip ?_
    refine NX.seq ?_
    refine TR.seq ?_
    refine TR.block ?_
    refine TR.seq ?_
    refine TR.region ?_
    refine RL.move rfl rfl rfl ?_
    refine RL.nilCheck rfl rfl rfl ?_
    refine RL.fieldAddr rfl wp_tf76_1 rfl rfl ?_
    refine RL.load1 0 rfl wp_ts46 rfl rfl rfl rfl ?_
    refine RL.move rfl rfl rfl ?_
    refine RL.indexAddr rfl wp_tl46 wp_tz51 (congrArg (fun a => some (Value.slice a _ _)) hg) rfl (by omega) (by omega) rfl ?_
    refine RL.fieldAddr rfl wp_tf51_0 rfl rfl ?_
    refine RL.loadS rfl rfl (own_one (i := 1) rfl hg wp_ts9 (inA_k hp)) rfl ?_
    refine RL.move rfl rfl rfl ?_
    refine RL.bin rfl rfl rfl BinV.eqlS rfl ?_
    refine RL.nil ?_
    refine NX.seq ?_
    refine TR.cond rfl (fun h2 => ?_) (fun h2 => ?_)
    · skip
      exact absurd (of_decide_eq_true h2) (hne p (List.mem_of_getElem? hp))
    · skip
      refine TR.skip ?_
      refine NX.off ?_
      refine NX.seq ?_
      refine TR.region ?_
      refine RL.move rfl rfl rfl ?_
      refine RL.bin rfl rfl rfl (BinV.add ((i + 1 : Nat) : Int) (by omega) (by omega) (by omega)) rfl ?_
      refine RL.assign rfl rfl rfl ?_
      refine RL.nil ?_
      refine NX.roundP (i + 1) (by omega) (by omega) ⟨rfl, rfl, rfl, trivial⟩ (fun w hw => (hw.to 2 [0, 1] 0 [] rfl))
  · skip
    refine TR.exit ?_
    refine NX.exitThen ?_
    refine NX.exitThen ?_
    refine NX.exitHere ?_
    refine NX.seq ?_
    refine TR.seq ?_
    refine TR.region ?_
    refine RL.assign rfl rfl rfl ?_
    refine RL.nil ?_
    refine NX.seq ?_
    refine TR.ret ?_
    exact NX.ret1 () rfl rfl rfl (fun w hw => hw)
theorem find_none {m : Nat} {bud : Int} {l : List (Ky × List UInt8)} {z0 : Option Addr × Nat} {M : List HP} {F : List Fact} {k : Ky} : Ctr Try.prog 50 [PtV m, S k] (Box m 76 [I bud, .slice z0.1 l.length z0.2, .slice none 0 0, .slice none 0 0, I 0, I 0, .bool false, .slice none 0 0] :: OwnSl 51 3 z0.1 l.length z0.2 (inA l) :: M) F Unit (fun _ => I (-1)) (fun _ => Box m 76 [I bud, .slice z0.1 l.length z0.2, .slice none 0 0, .slice none 0 0, I 0, I 0, .bool false, .slice none 0 0] :: OwnSl 51 3 z0.1 l.length z0.2 (inA l) :: M) (fun _ => F) := by
  refine Ctr.body Try.func50 rfl rfl ?_
  refine TR.seq ?_
  refine TR.region ?_
  refine RL.assign rfl rfl rfl ?_
  refine RL.nil ?_
  refine NX.seq ?_
  refine TR.seq ?_
  refine TR.seq ?_
  refine TR.region ?_
  refine RL.assign rfl rfl rfl ?_
  refine RL.nil ?_
  refine NX.seq ?_
  refine TR.block ?_
  refine TR.loopP (ι := Unit) (fun u => True) (fun u => [(0, PtV m), (1, S k), (5, I 0)]) (fun u => Box m 76 [I bud, .slice z0.1 l.length z0.2, .slice none 0 0, .slice none 0 0, I 0, I 0, .bool false, .slice none 0 0] :: OwnSl 51 3 z0.1 l.length z0.2 (inA l) :: M) (fun u => F) (fun u => 0) () trivial ⟨rfl, rfl, rfl, trivial⟩ (fun w hw => (hw.to 2 [0, 1] 0 [] rfl)) (fun u hu => ?_)
  refine TR.seq ?_
  refine TR.seq ?_
  refine TR.region ?_
  refine RL.move rfl rfl rfl ?_
  refine RL.move rfl rfl rfl ?_
  refine RL.nilCheck rfl rfl rfl ?_
  refine RL.fieldAddr rfl wp_tf76_2 rfl rfl ?_
  refine RL.load1 0 rfl wp_ts73 rfl rfl rfl rfl ?_
  refine RL.lenSlice rfl wp_tl73 rfl rfl ?_
  refine RL.bin rfl rfl rfl (BinV.to (d := false) BinV.lss (decide_eq_false (by decide))) rfl ?_
  refine RL.nil ?_
  refine NX.seq ?_
  refine TR.condF rfl ?_
  refine TR.exit ?_
  refine NX.exitThen ?_
  refine NX.exitThen ?_
  refine NX.exitHere ?_
  refine NX.seq ?_
  refine TR.seq ?_
  refine TR.region ?_
  refine RL.assign rfl rfl rfl ?_
  refine RL.nil ?_
  refine NX.seq ?_
  refine TR.ret ?_
  exact NX.ret1 () rfl rfl rfl (fun w hw => hw)
theorem rdoubt_none {m : Nat} {bud : Int} {l : List (Ky × List UInt8)} {z0 : Option Addr × Nat} {M : List HP} {F : List Fact} : Ctr Try.prog 52 [PtV m] (Box m 76 [I bud, .slice z0.1 l.length z0.2, .slice none 0 0, .slice none 0 0, I 0, I 0, .bool false, .slice none 0 0] :: OwnSl 51 3 z0.1 l.length z0.2 (inA l) :: M) F Unit (fun _ => .tuple #[]) (fun _ => Box m 76 [I bud, .slice z0.1 l.length z0.2, .slice none 0 0, .slice none 0 0, I 0, I 0, .bool false, .slice none 0 0] :: OwnSl 51 3 z0.1 l.length z0.2 (inA l) :: M) (fun _ => F) := by
  refine Ctr.body Try.func52 rfl rfl ?_
  refine TR.seq ?_
  refine TR.region ?_
  refine RL.assign rfl rfl rfl ?_
  refine RL.nil ?_
  refine NX.seq ?_
  refine TR.block ?_
  refine TR.loopP (ι := Unit) (fun u => True) (fun u => [(0, PtV m), (2, I 0)]) (fun u => Box m 76 [I bud, .slice z0.1 l.length z0.2, .slice none 0 0, .slice none 0 0, I 0, I 0, .bool false, .slice none 0 0] :: OwnSl 51 3 z0.1 l.length z0.2 (inA l) :: M) (fun u => F) (fun u => 0) () trivial ⟨rfl, rfl, trivial⟩ (fun w hw => (hw.to 2 [0, 1] 0 [] rfl)) (fun u hu => ?_)
  refine TR.seq ?_
  refine TR.seq ?_
  refine TR.region ?_
  refine RL.move rfl rfl rfl ?_
  refine RL.move rfl rfl rfl ?_
  refine RL.nilCheck rfl rfl rfl ?_
  refine RL.fieldAddr rfl wp_tf76_2 rfl rfl ?_
  refine RL.load1 0 rfl wp_ts73 rfl rfl rfl rfl ?_
  refine RL.lenSlice rfl wp_tl73 rfl rfl ?_
  refine RL.bin rfl rfl rfl (BinV.to (d := false) BinV.lss (decide_eq_false (by decide))) rfl ?_
  refine RL.nil ?_
  refine NX.seq ?_
  refine TR.condF rfl ?_
  refine TR.exit ?_
  refine NX.exitThen ?_
  refine NX.exitThen ?_
  refine NX.exitHere ?_
  exact NX.end0 () rfl rfl (fun w hw => hw)
theorem rset_spec {m : Nat} {bud : Int} {l : List (Ky × List UInt8)} {k v : List UInt8} {M : List HP} {F : List Fact} (hne : ∀ p, p ∈ l → p.1 ≠ k) (hl : l.length ≤ 100) : Ctr Try.prog 34 [PtV m, S k, S v] (RfB m bud l :: M) F Unit (fun _ => .tuple #[]) (fun _ => RfB m bud (l ++ [(k, v)]) :: M) (fun _ => F) := by
  refine Ctr.body Try.func34 rfl rfl ?_
  refine TR.seq ?_
  refine TR.open (fun w hw => (St.exOpen (show St w (Ex _ :: _) _ from hw))) (fun z0 => ?_)
  refine TR.region ?_
  refine RL.move rfl rfl rfl ?_
  refine RL.move rfl rfl rfl ?_
  refine RL.call rfl rfl Try.call49 rfl (input_none (z0 := z0) hne hl) (fun _ => ?_)
  refine RL.assign rfl rfl rfl ?_
  refine RL.nil ?_
  refine NX.seq ?_
  refine TR.seq ?_
  refine TR.seq ?_
  refine TR.region ?_
  refine RL.move rfl rfl rfl ?_
  refine RL.bin rfl rfl rfl (BinV.to (d := false) BinV.geq (decide_eq_false (by decide))) rfl ?_
  refine RL.move rfl rfl rfl ?_
  refine RL.skip rfl rfl rfl ?_
  refine RL.skip rfl rfl rfl ?_
  refine RL.skip rfl rfl rfl ?_
  refine RL.skip rfl rfl rfl ?_
  refine RL.skip rfl rfl rfl ?_
  refine RL.skip rfl rfl rfl ?_
  refine RL.skip rfl rfl rfl ?_
  refine RL.skip rfl rfl rfl ?_
  refine RL.skip rfl rfl rfl ?_
  refine RL.skip rfl rfl rfl ?_
  refine RL.skip rfl rfl rfl ?_
  refine RL.pickF rfl rfl rfl rfl ?_
  refine RL.nil ?_
  refine NX.seq ?_
  refine TR.condF rfl ?_
  refine TR.skip ?_
  refine NX.seq ?_
  refine TR.seq ?_
  refine TR.region ?_
  refine RL.move rfl rfl rfl ?_
  refine RL.move rfl rfl rfl ?_
  refine RL.call rfl rfl Try.call50 rfl (find_none (z0 := z0) (l := l)) (fun _ => ?_)
  refine RL.assign rfl rfl rfl ?_
  refine RL.nil ?_
  refine NX.seq ?_
  refine TR.seq ?_
  refine TR.seq ?_
  refine TR.region ?_
  refine RL.move rfl rfl rfl ?_
  refine RL.bin rfl rfl rfl (BinV.to (d := false) BinV.geq (decide_eq_false (by decide))) rfl ?_
  refine RL.nil ?_
  refine NX.seq ?_
  refine TR.condF rfl ?_
  refine TR.skip ?_
  refine NX.seq ?_
  refine TR.seq ?_
  refine TR.region ?_
  refine RL.move rfl rfl rfl ?_
  refine RL.call rfl rfl Try.call52 rfl (rdoubt_none (z0 := z0) (l := l)) (fun _ => ?_)
  refine RL.nil ?_
  refine NX.seq ?_
  refine TR.seq ?_
  refine TR.seq ?_
  refine TR.region ?_
  refine RL.move rfl rfl rfl ?_
  refine RL.bin rfl rfl rfl (BinV.to (d := false) BinV.geq (decide_eq_false (by decide))) rfl ?_
  refine RL.nil ?_
  refine NX.seq ?_
  refine TR.condF rfl ?_
  refine TR.skip ?_
  refine NX.seq ?_
  refine TR.region ?_
  refine RL.move rfl rfl rfl ?_
  refine RL.move rfl rfl rfl ?_
  refine RL.nilCheck rfl rfl rfl ?_
  refine RL.fieldAddr rfl wp_tf76_1 rfl rfl ?_
  refine RL.load1 0 rfl wp_ts46 rfl rfl rfl rfl ?_
  refine RL.move rfl rfl rfl ?_
  refine RL.move rfl rfl rfl ?_
  refine RL.build rfl rfl (wp_bv49_0 _) rfl ?_
  refine RL.build rfl rfl (wp_bv51_0_1 _ _ _) rfl ?_
  refine RL.buildSlice rfl rfl (wp_bs46_1_0 _ _ _) rfl (fun b1 => ?_)
  refine RL.ofGV rfl rfl (GV.append (j := 2) wp_tl46 wp_ni46 wp_te51 rfl rfl rfl (src_box (i := 0) rfl rfl rfl) (by omega) (by omega)) (fun y => ?_)
  refine RL.nilCheck rfl rfl rfl ?_
  refine RL.fieldAddr rfl wp_tf76_1 rfl rfl ?_
  refine RL.store1 1 rfl wp_ts46 rfl rfl rfl rfl rfl ?_
  refine RL.nil ?_
  refine NX.end0 () rfl rfl (fun w hw => ?_)
  have h1 : St w (Box m 76 [I bud, .slice y.1 (l.length + 1) y.2, .slice none 0 0, .slice none 0 0, I 0, I 0, .bool false, .slice none 0 0] :: OwnSl 51 3 y.1 (l.length + 1) y.2 (inA l ++ [S k, S v, I 0]) :: M) F := (hw.to 3 [1, 2] 0 [] rfl)
  rw [show inA l ++ [S k, S v, I 0] = inA (l ++ [(k, v)]) from by rw [inA_append]; rfl, show l.length + 1 = (l ++ [(k, v)]).length from by rw [List.length_append]; rfl] at h1
  exact St.exClose (y.1, y.2) h1
theorem RfB.new {w : World} {m : Nat} {bud : Int} {M : List HP} {F : List Fact} (h : St w (Box m 76 [I bud, .slice none 0 0, .slice none 0 0, .slice none 0 0, I 0, I 0, .bool false, .slice none 0 0] :: OwnSl 51 3 none 0 0 [] :: M) F) : St w (RfB m bud [] :: M) F := St.exClose (ι := Option Addr × Nat) (none, 0) h
theorem begE_snoc {l : List (Ky × List UInt8)} {i : Nat} {p : Ky × List UInt8} (h : l[i]? = some p) : begE (l.take (i + 1)) = setE p.1 p.2 (begE (l.take i)) := by
  unfold begE
  rw [List.take_add_one, h, List.foldl_append]; rfl
theorem take_ne {l : List (Ky × List UInt8)} {i : Nat} {p : Ky × List UInt8} (hn : (l.map Prod.fst).Nodup) (h : l[i]? = some p) : ∀ q, q ∈ l.take i → q.1 ≠ p.1 := by
  intro q hq e
  obtain ⟨j, hj⟩ := List.mem_iff_getElem?.1 hq
  rw [List.getElem?_take] at hj
  split at hj
  · have h1 : (l.map Prod.fst)[j]? = some p.1 := by rw [List.getElem?_map, hj, ← e]; rfl
    have h2 : (l.map Prod.fst)[i]? = some p.1 := by rw [List.getElem?_map, h]; rfl
    have := (List.getElem?_inj (List.getElem?_eq_some_iff.1 h1).1 hn).1 (h1.trans h2.symm)
    omega
  · cases hj
theorem take_snoc {l : List (Ky × List UInt8)} {i : Nat} {p : Ky × List UInt8} (h : l[i]? = some p) : l.take (i + 1) = l.take i ++ [(p.1, p.2)] := by rw [List.take_add_one, h]; rfl
set_option maxHeartbeats 1000000 in
theorem begun_spec {xs : List Int} {bud : Int} {oa : Option Addr} {ca : Nat} {M : List HP} {F : List Fact} (ha : ArrF oa (ints xs) ∈ F) (hxs : IntsOk xs) (hb0 : 0 ≤ bud) : Ctr Try.prog 20 [I bud, .slice oa xs.length ca] M F {z : Nat × Nat × EX // z.2.2.en = begE (bgL xs 10)} (fun z => .tuple #[PtV z.1.1, PtV z.1.2.1]) (fun z => EngI z.1.1 bud ruV.val z.1.2.2 :: RfB z.1.2.1 bud (bgL xs 10) :: M) (fun z => QF z.1.2.2.qs :: F) := by
  refine Ctr.body Try.func20 rfl rfl ?_
  refine TR.seq ?_
  refine TR.region ?_
  refine RL.assign rfl rfl rfl ?_
  refine RL.assign rfl rfl rfl ?_
  refine RL.nil ?_
  refine NX.seq ?_
  refine TR.seq ?_
  refine TR.region ?_
  refine RL.move rfl rfl rfl ?_
  refine RL.call rfl rfl Try.call10 rfl (new_spec (f := .func 11) (a := [].toArray) (c := [].toArray) hb0) (fun b => ?_)
  refine RL.move rfl rfl rfl ?_
  refine RL.extract rfl rfl rfl rfl ?_
  refine RL.extract rfl rfl rfl rfl ?_
  refine RL.assign rfl rfl rfl ?_
  refine RL.assign rfl rfl rfl ?_
  refine RL.nil ?_
  refine NX.seq ?_
  refine TR.seq ?_
  refine TR.seq ?_
  refine TR.region ?_
  refine RL.move rfl rfl rfl ?_
  refine RL.bin rfl rfl rfl (BinV.eqlPtrNil wp_tp24) rfl ?_
  refine RL.move rfl rfl rfl ?_
  refine RL.move rfl rfl rfl ?_
  refine RL.bin rfl rfl rfl (BinV.to (d := false) BinV.neq (decide_eq_false (by decide))) rfl ?_
  refine RL.pickF rfl rfl rfl rfl ?_
  refine RL.nil ?_
  refine NX.seq ?_
  refine TR.condF rfl ?_
  refine TR.skip ?_
  refine NX.seq ?_
  refine TR.seq ?_
  refine TR.region ?_
  refine RL.move rfl rfl rfl ?_
  refine RL.build rfl rfl (wp_bv76_0 _) rfl ?_
  refine RL.boxA rfl rfl rfl (fun b1 => ?_)
  refine RL.assign rfl rfl rfl ?_
  refine RL.nil ?_
  refine NX.seq ?_
  refine TR.seq ?_
  refine TR.weak (fun w hw => RfB.new (OwnSl.nil_new 51 3 hw).swap) ?_
  refine TR.region ?_
  refine RL.move rfl rfl rfl ?_
  refine RL.call rfl rfl Try.call24 rfl (begin_spec (.tail _ ha) hxs) (fun lz => ?_)
  have hlz := bgL_rl xs 10
  have hll := hlz.len
  refine RL.assign rfl rfl rfl ?_
  refine RL.nil ?_
  refine NX.seq ?_
  refine TR.seq ?_
  refine TR.seq ?_
  refine TR.region ?_
  refine RL.assign rfl rfl rfl ?_
  refine RL.nil ?_
  refine NX.seq ?_
  refine TR.block ?_
  refine TR.loopP (ι := (Nat × EX)) (fun z => z.1 ≤ (bgL xs 10).length ∧ z.2.en = begE ((bgL xs 10).take z.1)) (fun z => [(6, PtV b), (8, PtV b1), (9, .slice lz.1 (bgL xs 10).length lz.2), (10, I (z.1 : Nat))]) (fun z => EngI b bud ruV.val z.2 :: RfB b1 bud ((bgL xs 10).take z.1) :: OwnSl 51 3 lz.1 (bgL xs 10).length lz.2 (inA (bgL xs 10)) :: M) (fun z => QF z.2.qs :: F) (fun z => ((bgL xs 10).length - z.1)) (0, newX) ⟨Nat.zero_le _, rfl⟩ ⟨rfl, rfl, rfl, rfl, trivial⟩ (fun w hw => ((hw.to 3 [2, 1, 0] 1 [0] rfl))) (fun z hz => ?_)
  refine TR.seq ?_
  refine TR.seq ?_
  refine TR.region ?_
  refine RL.move rfl rfl rfl ?_
  refine RL.move rfl rfl rfl ?_
  refine RL.lenSlice rfl wp_tl46 rfl rfl ?_
  refine RL.bin rfl rfl rfl BinV.lss rfl ?_
  refine RL.nil ?_
  refine NX.seq ?_
  refine TR.cond rfl (fun h2 => ?_) (fun h2 => ?_)
  · skip
    have hi : z.1 < (bgL xs 10).length := by have := of_decide_eq_true h2; omega
    obtain ⟨p, hp⟩ : ∃ p, (bgL xs 10)[z.1]? = some p := ⟨_, List.getElem?_eq_getElem hi⟩
    refine TR.openP (fun w hw => own_at (i := 2) rfl (inA_ne hp) hw) (fun g hg => ?_)
    refine TR.skip ?_
    refine NX.seq ?_
    refine TR.seq ?_
    refine TR.block ?_
    refine TR.seq ?_
    refine TR.sub (E' := [(6, _), (8, _), (9, _), (10, _), (27, _), (28, _), (29, _), (30, _)]) ⟨rfl, rfl, rfl, rfl, rfl, rfl, rfl, rfl, trivial⟩ ?_
    refine TR.draw mixed ?_
    apply AR.more [(0, _), (1, _), (2, _), (3, _), (4, _), (5, _), (6, _), (7, _), (8, _), (9, _), (10, _), (11, _)]
    refine AR.eff [0, 1, 2, 3, 4, 5, 6, 7, 8, 9, 10, 11] 12 [0, 1, 2, 3, 4, 5, 6, 7, 8, 9, 10, 11, 12] ⟨QOne.yes rfl rfl rfl (PV.move rfl), QOne.yes rfl rfl rfl (PV.move rfl), QOne.yes rfl rfl rfl (PV.move rfl), QOne.yes rfl rfl rfl (PV.indexAddr wp_tl46 wp_tz51 (congrArg (fun a => some (Value.slice a _ _)) hg) rfl (by omega) (by omega)), QOne.yes rfl rfl rfl (PV.fieldAddr wp_tf51_0 rfl), QOne.yes rfl rfl rfl (PV.loadS rfl (own_one (i := 2) rfl hg wp_ts9 (inA_k hp))), QOne.yes rfl rfl rfl (PV.move rfl), QOne.yes rfl rfl rfl (PV.move rfl), QOne.yes rfl rfl rfl (PV.indexAddr wp_tl46 wp_tz51 (congrArg (fun a => some (Value.slice a _ _)) hg) rfl (by omega) (by omega)), QOne.yes rfl rfl rfl (PV.fieldAddr wp_tf51_1 rfl), QOne.yes rfl rfl rfl (PV.fieldAddr wp_tf49_0 rfl), QOne.yes rfl rfl rfl (PV.loadS rfl (own_one (i := 2) rfl hg wp_ts9 (inA_v hp))), trivial⟩ rfl rfl rfl rfl rfl rfl rfl (EV.call rfl Try.call12 (set_spec (X := z.2) (k := p.1) (v := p.2) (hlz.ko (List.mem_of_getElem? hp)) (.head _))) (fun _ => ?_)
    refine AR.done [0, 5, 11, 10, 4, 3, 9, 8, 1, 2, 6, 7] rfl ?_
    refine AR.last [] [0, 1, 2, 3, 4, 5, 6, 7, 8, 9, 10, 11, 12] trivial rfl rfl rfl ?_
    refine NX.sub (E' := [(6, _), (8, _), (9, _), (10, _), (27, _), (28, _), (29, _), (30, _), (33, _), (34, _), (35, _), (36, _), (37, _), (38, _), (39, _), (40, _), (41, _), (42, _), (43, _), (44, _)]) ⟨rfl, rfl, rfl, rfl, rfl, rfl, rfl, rfl, rfl, rfl, rfl, rfl, rfl, rfl, rfl, rfl, rfl, rfl, rfl, rfl, trivial⟩ ?_
    refine NX.seq ?_
    refine TR.sub (E' := [(6, _), (8, _), (9, _), (10, _), (27, _), (28, _), (29, _), (30, _), (33, _), (34, _), (35, _), (36, _), (37, _), (38, _), (39, _), (40, _), (41, _), (42, _), (43, _), (44, _)]) ⟨rfl, rfl, rfl, rfl, rfl, rfl, rfl, rfl, rfl, rfl, rfl, rfl, rfl, rfl, rfl, rfl, rfl, rfl, rfl, rfl, trivial⟩ ?_
    refine TR.draw mixed ?_
    apply AR.more [(0, _), (1, _), (2, _), (3, _), (4, _), (5, _), (6, _), (7, _), (8, _), (9, _), (10, _), (11, _)]
    refine AR.eff [0, 1, 2, 3, 4, 5, 6, 7, 8, 9, 10, 11] 12 [0, 1, 2, 3, 4, 5, 6, 7, 8, 9, 10, 11, 12] ⟨QOne.yes rfl rfl rfl (PV.move rfl), QOne.yes rfl rfl rfl (PV.move rfl), QOne.yes rfl rfl rfl (PV.move rfl), QOne.yes rfl rfl rfl (PV.indexAddr wp_tl46 wp_tz51 (congrArg (fun a => some (Value.slice a _ _)) hg) rfl (by omega) (by omega)), QOne.yes rfl rfl rfl (PV.fieldAddr wp_tf51_0 rfl), QOne.yes rfl rfl rfl (PV.loadS rfl (own_one (i := 2) rfl hg wp_ts9 (inA_k hp))), QOne.yes rfl rfl rfl (PV.move rfl), QOne.yes rfl rfl rfl (PV.move rfl), QOne.yes rfl rfl rfl (PV.indexAddr wp_tl46 wp_tz51 (congrArg (fun a => some (Value.slice a _ _)) hg) rfl (by omega) (by omega)), QOne.yes rfl rfl rfl (PV.fieldAddr wp_tf51_1 rfl), QOne.yes rfl rfl rfl (PV.fieldAddr wp_tf49_0 rfl), QOne.yes rfl rfl rfl (PV.loadS rfl (own_one (i := 2) rfl hg wp_ts9 (inA_v hp))), trivial⟩ rfl rfl rfl rfl rfl rfl rfl (EV.call rfl Try.call34 (Ctr.pick 3 [1, 0, 2] rfl (rset_spec (l := (bgL xs 10).take z.1) (k := p.1) (v := p.2) (take_ne hlz.nd hp) (by rw [List.length_take]; omega)))) (fun _ => ?_)
    refine AR.done [0, 5, 11, 10, 4, 3, 9, 8, 1, 2, 6, 7] rfl ?_
    refine AR.last [] [0, 1, 2, 3, 4, 5, 6, 7, 8, 9, 10, 11, 12] trivial rfl rfl rfl ?_
    refine NX.sub (E' := [(6, _), (8, _), (9, _), (10, _), (27, _), (28, _), (29, _), (30, _), (33, _), (34, _), (35, _), (36, _), (37, _), (38, _), (39, _), (40, _), (41, _), (42, _), (43, _), (44, _), (46, _), (47, _), (48, _), (49, _), (50, _), (51, _), (52, _), (53, _), (54, _), (55, _), (56, _), (57, _)]) ⟨rfl, rfl, rfl, rfl, rfl, rfl, rfl, rfl, rfl, rfl, rfl, rfl, rfl, rfl, rfl, rfl, rfl, rfl, rfl, rfl, rfl, rfl, rfl, rfl, rfl, rfl, rfl, rfl, rfl, rfl, rfl, rfl, trivial⟩ ?_
    refine NX.off ?_
    refine NX.seq ?_
    refine TR.region ?_
    refine RL.move rfl rfl rfl ?_
    refine RL.bin rfl rfl rfl (BinV.add ((z.1 + 1 : Nat) : Int) (by omega) (by omega) (by omega)) rfl ?_
    refine RL.assign rfl rfl rfl ?_
    refine RL.nil ?_
    refine NX.roundP (z.1 + 1, setX p.1 p.2 z.2) ⟨by omega, by rw [begE_snoc hp, ← hz.2, setX_en]⟩ (by show (bgL xs 10).length - (z.1 + 1) < (bgL xs 10).length - z.1; omega) ⟨rfl, rfl, rfl, rfl, trivial⟩ (fun w hw => (by have h9 := (hw.to 3 [1, 0, 2] 2 [0] rfl); show St w (_ :: RfB b1 bud ((bgL xs 10).take (z.1 + 1)) :: _) _; rw [take_snoc hp]; exact h9))
  · skip
    have hi : z.1 = (bgL xs 10).length := by have := of_decide_eq_false h2; omega
    refine TR.exit ?_
    refine NX.exitThen ?_
    refine NX.exitThen ?_
    refine NX.exitHere ?_
    refine NX.seq ?_
    refine TR.seq ?_
    refine TR.region ?_
    refine RL.move rfl rfl rfl ?_
    refine RL.move rfl rfl rfl ?_
    refine RL.assign rfl rfl rfl ?_
    refine RL.assign rfl rfl rfl ?_
    refine RL.nil ?_
    refine NX.seq ?_
    refine TR.ret ?_
    have h9 := hz.2
    rw [List.take_of_length_le (by omega)] at h9
    refine NX.ret2 ⟨(b, b1, z.2), h9⟩ rfl rfl rfl rfl (fun w hw => ?_)
    have h8 := (hw.to 3 [0, 1] 1 [0] rfl)
    rw [show (bgL xs 10).take z.1 = (bgL xs 10) from List.take_of_length_le (by omega)] at h8
    exact h8
end Go.Proofs.Ythefimaaeilefaa

namespace Go.Proofs.Ythefimaaeilefaa
open Go.GL
set_option linter.unusedVariables false
theorem wq_tl22 : tySlice Try.prog 22 3 = true := by kernel_rfl
theorem wq_tp24 : tyPtr Try.prog 24 65 = true := by kernel_rfl
theorem wq_ts3 : tyScalar Try.prog 3 = true := by kernel_rfl
theorem wq_tz3 : tySize Try.prog 3 1 = true := by kernel_rfl
theorem aSet_same {β : Type} : ∀ {l : List (Ky × β)} {k : Ky} {v : β}, aGet l k = some v → aSet l k v = l
  | p :: l, k, v, h => by
    rw [aGet] at h
    rw [aSet]
    split at h
    · rename_i e; cases h; subst e; rw [if_pos rfl]
    · rename_i e; rw [if_neg e, aSet_same h]
theorem setE_inp (k : Ky) (v : List UInt8) (e : En) : (setE k v e).inp = aSet e.inp k v := by
  unfold setE
  split
  · rename_i h; exact (aSet_same h).symm
  · rfl
theorem setE_gets (k : Ky) (v : List UInt8) (e : En) : (setE k v e).gets = e.gets ∧ (setE k v e).comp = e.comp := by
  unfold setE
  split <;> exact ⟨rfl, rfl⟩
def FA (inp : List (Ky × List UInt8)) (k : Ky) : An := freshA ruleR (UR.length + 1) inp 50 k
structure Rest (inp : List (Ky × List UInt8)) (n : Nat) (X : EX) : Prop where
  bt : Bt ruleR UR X.en
  inp : X.en.inp = inp
  g0 : 0 ≤ X.en.gets
  g1 : X.en.gets ≤ n
  c : X.en.comp.length ≤ 50 * n
theorem Rest.mono {inp : List (Ky × List UInt8)} {n m : Nat} {X : EX} (h : Rest inp n X) (hm : n ≤ m) : Rest inp m X := ⟨h.bt, h.inp, h.g0, by have := h.g1; omega, by have := h.c; omega⟩
theorem Rest.begun {l : List (Ky × List UInt8)} {X : EX} (h : Rl 10 l) (hX : X.en = begE l) : Rest l 0 X := ⟨by rw [hX]; exact begE_bt h, by rw [hX, begE_is h.nd], by rw [hX, begE_is h.nd]; show (0 : Int) ≤ 0; decide, by rw [hX, begE_is h.nd]; show (0 : Int) ≤ 0; decide, by rw [hX, begE_is h.nd]; show 0 ≤ 0; decide⟩
theorem Rest.new : Rest [] 0 newX := ⟨Bt.new, rfl, by decide, by decide, by decide⟩
theorem Rest.set {inp : List (Ky × List UInt8)} {n : Nat} {X : EX} (h : Rest inp n X) (k : Ky) {v : List UInt8} (hv : v.length ≤ 4) : Rest (aSet inp k v) n (setX k v X) := by
  have h1 := setE_gets k v X.en
  refine ⟨by rw [setX_en]; exact h.bt.set k v (.of0 hv), by rw [setX_en, setE_inp, h.inp], ?_, ?_, ?_⟩
  · rw [setX_en, h1.1]; exact h.g0
  · rw [setX_en, h1.1]; exact h.g1
  · rw [setX_en, h1.2]; exact h.c
theorem Rest.comp {inp : List (Ky × List UInt8)} {n : Nat} {X : EX} (h : Rest inp n X) : Rest inp n { X with comp := [] } := ⟨h.bt.comp [], h.inp, h.g0, h.g1, Nat.zero_le _⟩
theorem UR_2 : ∀ k, k ∈ UR → k.length ≤ 2 := by decide
theorem Rest.got {inp : List (Ky × List UInt8)} {n f : Nat} {X Y : EX} {k : Ky} (h : Rest inp n X) (hk : k ∈ UR) (hf : f ≤ 50) (hY : Y.en = (getE ruleR (UR.length + 1) k f X.en).2) : Rest inp (n + 1) Y := by
  have h1 := h.bt.get (fuel := f) (d := UR.length + 1) ruleR_k (Nat.lt_succ_self _) hk
  have h2 := getE_gets (UR.length + 1) f k X.en ruleR_k (Nat.lt_succ_self _) hk h.bt
  have h3 := getE_comp (UR.length + 1) f k X.en ruleR_k hk h.bt
  have hg0 := h.g0; have hg1 := h.g1; have hc := h.c
  refine ⟨by rw [hY]; exact h1.1, by rw [hY, h1.2.1, h.inp], by rw [hY, h2]; omega, by rw [hY, h2]; omega, by rw [hY]; omega⟩
theorem getF_spec {b f : Nat} {inp : List (Ky × List UInt8)} {n : Nat} {X : EX} {k : Ky} {fz : Int} {M : List HP} {F : List Fact} (hz : fz.toNat = f) (h : Rest inp n X) (hk : k ∈ UR) (hn : n ≤ 10000) (hf : f ≤ 50) (hQ : QF X.qs ∈ F) :
    Ctr Try.prog 15 [PtV b, S k, I fz] (EngI b 1000 ruV.val X :: M) F {Y : EX // Rest inp (n + 1) Y ∧ Y.en = (getE ruleR (UR.length + 1) k f X.en).2} (fun _ => .tuple #[S (getE ruleR (UR.length + 1) k f X.en).1.s, I (getE ruleR (UR.length + 1) k f X.en).1.e]) (fun Y => EngI b 1000 ruV.val Y.1 :: M) (fun Y => QF Y.1.qs :: F) := by
  subst hz
  have h1 := h.bt.get (fuel := fz.toNat) (d := UR.length + 1) ruleR_k (Nat.lt_succ_self _) hk
  have hB := bytes_le UR_2 h1.1
  have hU : UR.length = 20 := rfl
  have hg0 := h.g0; have hg1 := h.g1; have hc := h.c
  refine Ctr.weakX (get_spec (X := X) (k := k) (fz := fz) UR_ko (by decide) ruleR_k ruV hk h.bt.w (show 0 ≤ X.en.gets from hg0) (by show X.en.gets ≤ _; omega) (by show X.en.comp.length + _ ≤ _; omega) (by omega) (by omega) hQ) (fun w hw => hw) (fun Y w hw => ?_)
  exact ⟨⟨Y.1, h.got hk hf Y.2, Y.2⟩, rfl, hw⟩
theorem getR_spec {b : Nat} {inp : List (Ky × List UInt8)} {n : Nat} {X : EX} {k : Ky} {M : List HP} {F : List Fact} (h : Rest inp n X) (hk : k ∈ UR) (hn : n ≤ 10000) (hQ : QF X.qs ∈ F) :
    Ctr Try.prog 15 [PtV b, S k, I 50] (EngI b 1000 ruV.val X :: M) F {Y : EX // Rest inp (n + 1) Y} (fun _ => .tuple #[S (FA inp k).s, I (FA inp k).e]) (fun Y => EngI b 1000 ruV.val Y.1 :: M) (fun Y => QF Y.1.qs :: F) := by
  have hU : UR.length = 20 := rfl
  have h1 := h.bt.get (fuel := 50) (d := UR.length + 1) ruleR_k (Nat.lt_succ_self _) hk
  have hfa : (getE ruleR (UR.length + 1) k 50 X.en).1 = FA inp k := by
    rw [get_fresh (fuel' := 50) ruleR_k (Nat.lt_succ_self _) hk h.bt (h1.2.2.2.2 (by omega)) (by omega), h.inp]; rfl
  refine Ctr.weakX (getF_spec (f := 50) (fz := 50) rfl h hk hn (by decide) hQ) (fun w hw => hw) (fun Y w hw => ⟨⟨Y.1, Y.2.1⟩, by rw [hfa], hw⟩)
set_option maxHeartbeats 1000000 in
theorem law_order {xs ys : List Int} {oa ob : Option Addr} {ca cb : Nat} {M : List HP} {F : List Fact} (ha : ArrF oa (ints xs) ∈ F) (hxs : IntsOk xs) (hb : ArrF ob (ints ys) ∈ F) (hys : IntsOk ys) : Ctr Try.prog 5 [.slice oa xs.length ca, .slice ob ys.length cb] M F Unit (fun _ => .bool true) (fun _ => M) (fun _ => F) := by
  refine Ctr.body Try.func5 rfl rfl ?_
  refine TR.seq ?_
  refine TR.region ?_
  refine RL.assign rfl rfl rfl ?_
  refine RL.nil ?_
  refine NX.seq ?_
  refine TR.seq ?_
  refine TR.region ?_
  refine RL.move rfl rfl rfl ?_
  refine RL.call rfl rfl Try.call20 rfl (begun_spec ha hxs (by decide)) (fun z1 => ?_)
  obtain ⟨⟨bz1, mz1, Xz1⟩, hXz1⟩ := z1
  dsimp only at hXz1 ⊢
  refine RL.move rfl rfl rfl ?_
  refine RL.extract rfl rfl rfl rfl ?_
  refine RL.extract rfl rfl rfl rfl ?_
  refine RL.assign rfl rfl rfl ?_
  refine RL.assign rfl rfl rfl ?_
  refine RL.nil ?_
  refine NX.seq ?_
  refine TR.seq ?_
  refine TR.region ?_
  refine RL.move rfl rfl rfl ?_
  refine RL.call rfl rfl Try.call20 rfl (begun_spec (.tail _ ha) hxs (by decide)) (fun z2 => ?_)
  obtain ⟨⟨bz2, mz2, Xz2⟩, hXz2⟩ := z2
  dsimp only at hXz2 ⊢
  refine RL.move rfl rfl rfl ?_
  refine RL.extract rfl rfl rfl rfl ?_
  refine RL.extract rfl rfl rfl rfl ?_
  refine RL.assign rfl rfl rfl ?_
  refine RL.assign rfl rfl rfl ?_
  refine RL.nil ?_
  refine NX.seq ?_
  refine TR.seq ?_
  refine TR.seq ?_
  refine TR.region ?_
  refine RL.move rfl rfl rfl ?_
  refine RL.bin rfl rfl rfl (BinV.eqlPtrNil wq_tp24) rfl ?_
  refine RL.move rfl rfl rfl ?_
  refine RL.move rfl rfl rfl ?_
  refine RL.bin rfl rfl rfl (BinV.eqlPtrNil wq_tp24) rfl ?_
  refine RL.pickF rfl rfl rfl rfl ?_
  refine RL.nil ?_
  refine NX.seq ?_
  refine TR.condF rfl ?_
  refine TR.skip ?_
  refine NX.seq ?_
  refine TR.seq ?_
  refine TR.seq ?_
  refine TR.region ?_
  refine RL.assign rfl rfl rfl ?_
  refine RL.nil ?_
  refine NX.seq ?_
  refine TR.block ?_
  refine TR.loopP (ι := (Nat × EX)) (fun z => z.1 ≤ 20 ∧ Rest (bgL xs 10) z.1 z.2) (fun z => [(1, .slice ob ys.length cb), (5, PtV bz1), (7, PtV bz2), (9, I (z.1 : Nat))]) (fun z => EngI bz1 1000 ruV.val Xz1 :: EngI bz2 1000 ruV.val z.2 :: M) (fun z => QF z.2.qs :: QF Xz1.qs :: F) (fun z => (20 - z.1)) (0, Xz2) ⟨Nat.zero_le _, Rest.begun (bgL_rl xs 10) hXz2⟩ ⟨rfl, rfl, rfl, rfl, trivial⟩ (fun w hw => (hw.to 4 [2, 0] 2 [0, 1] rfl)) (fun z hz => ?_)
  refine TR.seq ?_
  refine TR.seq ?_
  refine TR.region ?_
  refine RL.move rfl rfl rfl ?_
  refine RL.move rfl rfl rfl ?_
  refine RL.lenSlice rfl wq_tl22 rfl rfl ?_
  refine RL.bin rfl rfl rfl BinV.lss rfl ?_
  refine RL.move rfl rfl rfl ?_
  refine RL.part (fun h1 => ?_) (fun h1 => ?_)
  · skip
    have hl1 := of_decide_eq_true h1
    refine RL.move rfl rfl rfl ?_
    refine RL.bin rfl rfl rfl BinV.lss rfl ?_
    refine RL.pickT rfl rfl rfl rfl ?_
    refine RL.nil ?_
    refine NX.seq ?_
    refine TR.cond rfl (fun h2 => ?_) (fun h2 => ?_)
    · skip
      have hl2 := of_decide_eq_true h2
      have hi1 : z.1 < ys.length := by omega
      have hxi := hys.2 ys[z.1] (List.getElem_mem hi1)
      refine TR.openP (open_arr (.tail _ (.tail _ hb)) (ints_ne (by omega))) (fun x hx => ?_)
      refine TR.skip ?_
      refine NX.seq ?_
      refine TR.seq ?_
      refine TR.block ?_
      refine TR.region ?_
      refine RL.move rfl rfl rfl ?_
      refine RL.move rfl rfl rfl ?_
      refine RL.move rfl rfl rfl ?_
      refine RL.indexAddr rfl wq_tl22 wq_tz3 (congrArg (fun a => some (Value.slice a _ _)) hx) rfl (by omega) (by omega) rfl ?_
      refine RL.loadF rfl rfl (fun w K hF => run_loadCell1 (j := (z.1 : Int).toNat * 1) (v := I ys[z.1]) (hF (CellsF x.1 x.2 (ints ys)) (.head _)) wq_ts3 (by rw [Int.toNat_natCast, Nat.mul_one]; exact ints_get hi1)) rfl ?_
      refine RL.call rfl rfl Try.call9 rfl (around_spec (by decide) hxi.1 hxi.2) (fun _ => ?_)
      refine RL.call rfl rfl Try.call16 rfl (node_spec (n := arN ys[z.1] 10)) (fun _ => ?_)
      refine RL.call rfl rfl Try.call15 rfl (Ctr.pick 2 [1, 0] rfl (getR_spec (k := (nK (arN ys[z.1] 10))) (X := z.2) hz.2 (nK_in _) (by omega) (.tail _ (.head _)))) (fun Y => ?_)
      obtain ⟨Y, hY⟩ := Y
      dsimp only at hY ⊢
      refine RL.nil ?_
      refine NX.off ?_
      refine NX.seq ?_
      refine TR.region ?_
      refine RL.move rfl rfl rfl ?_
      refine RL.bin rfl rfl rfl (BinV.add ((z.1 + 1 : Nat) : Int) (by omega) (by omega) (by omega)) rfl ?_
      refine RL.assign rfl rfl rfl ?_
      refine RL.nil ?_
      refine NX.roundP (z.1 + 1, Y) ⟨by omega, hY⟩ (by show 20 - (z.1 + 1) < 20 - z.1; omega) ⟨rfl, rfl, rfl, rfl, trivial⟩ (fun w hw => (hw.to 2 [1, 0] 4 [0, 3] rfl))
    · skip
      refine TR.exit ?_
      refine NX.exitThen ?_
      refine NX.exitThen ?_
      refine NX.exitHere ?_
      refine NX.seq ?_
      refine TR.seq ?_
      refine TR.seq ?_
      refine TR.region ?_
      refine RL.assign rfl rfl rfl ?_
      refine RL.nil ?_
      refine NX.seq ?_
      refine TR.block ?_
      refine TR.loopP (ι := (Nat × EX × EX)) (fun q => q.1 ≤ 10 ∧ Rest (bgL xs 10) q.1 q.2.1 ∧ Rest (bgL xs 10) (20 + q.1) q.2.2) (fun q => [(5, PtV bz1), (7, PtV bz2), (10, I (q.1 : Nat))]) (fun q => EngI bz1 1000 ruV.val q.2.1 :: EngI bz2 1000 ruV.val q.2.2 :: M) (fun q => QF q.2.2.qs :: QF q.2.1.qs :: F) (fun q => (10 - q.1)) (0, Xz1, z.2) ⟨Nat.zero_le _, Rest.begun (bgL_rl xs 10) hXz1, hz.2.mono (by omega)⟩ ⟨rfl, rfl, rfl, trivial⟩ (fun w hw => (hw.to 2 [0, 1] 2 [0, 1] rfl)) (fun q hq => ?_)
      refine TR.seq ?_
      refine TR.seq ?_
      refine TR.region ?_
      refine RL.move rfl rfl rfl ?_
      refine RL.bin rfl rfl rfl BinV.lss rfl ?_
      refine RL.nil ?_
      refine NX.seq ?_
      refine TR.cond rfl (fun h3 => ?_) (fun h3 => ?_)
      · skip
        have hi1 : q.1 < 10 := by have := of_decide_eq_true h3; omega
        refine TR.skip ?_
        refine NX.seq ?_
        refine TR.seq ?_
        refine TR.block ?_
        refine TR.seq ?_
        refine TR.region ?_
        refine RL.move rfl rfl rfl ?_
        refine RL.move rfl rfl rfl ?_
        refine RL.call rfl rfl Try.call16 rfl (node_spec (n := q.1)) (fun _ => ?_)
        refine RL.call rfl rfl Try.call15 rfl (getR_spec (k := (nK q.1)) (X := q.2.1) hq.2.1 (nK_in _) (by omega) (.tail _ (.head _))) (fun Y1 => ?_)
        obtain ⟨Y1, hY1⟩ := Y1
        dsimp only at hY1 ⊢
        refine RL.move rfl rfl rfl ?_
        refine RL.extract rfl rfl rfl rfl ?_
        refine RL.extract rfl rfl rfl rfl ?_
        refine RL.assign rfl rfl rfl ?_
        refine RL.assign rfl rfl rfl ?_
        refine RL.nil ?_
        refine NX.seq ?_
        refine TR.seq ?_
        refine TR.region ?_
        refine RL.move rfl rfl rfl ?_
        refine RL.move rfl rfl rfl ?_
        refine RL.call rfl rfl Try.call16 rfl (node_spec (n := q.1)) (fun _ => ?_)
        refine RL.call rfl rfl Try.call15 rfl (Ctr.pick 2 [1, 0] rfl (getR_spec (k := (nK q.1)) (X := q.2.2) hq.2.2 (nK_in _) (by omega) (.tail _ (.head _)))) (fun Y2 => ?_)
        obtain ⟨Y2, hY2⟩ := Y2
        dsimp only at hY2 ⊢
        refine RL.move rfl rfl rfl ?_
        refine RL.extract rfl rfl rfl rfl ?_
        refine RL.extract rfl rfl rfl rfl ?_
        refine RL.assign rfl rfl rfl ?_
        refine RL.assign rfl rfl rfl ?_
        refine RL.nil ?_
        refine NX.seq ?_
        refine TR.seq ?_
        refine TR.region ?_
        refine RL.move rfl rfl rfl ?_
        refine RL.move rfl rfl rfl ?_
        refine RL.bin rfl rfl rfl (BinV.to (d := false) BinV.neqS (decide_eq_false (by simp))) rfl ?_
        refine RL.move rfl rfl rfl ?_
        refine RL.move rfl rfl rfl ?_
        refine RL.move rfl rfl rfl ?_
        refine RL.bin rfl rfl rfl (BinV.to (d := false) BinV.neq (decide_eq_false (by simp))) rfl ?_
        refine RL.pickF rfl rfl rfl rfl ?_
        refine RL.nil ?_
        refine NX.seq ?_
        refine TR.condF rfl ?_
        refine TR.skip ?_
        refine NX.off ?_
        refine NX.seq ?_
        refine TR.region ?_
        refine RL.move rfl rfl rfl ?_
        refine RL.bin rfl rfl rfl (BinV.add ((q.1 + 1 : Nat) : Int) (by omega) (by omega) (by omega)) rfl ?_
        refine RL.assign rfl rfl rfl ?_
        refine RL.nil ?_
        refine NX.roundP (q.1 + 1, Y1, Y2) ⟨by omega, hY1, hY2⟩ (by show 10 - (q.1 + 1) < 10 - q.1; omega) ⟨rfl, rfl, rfl, trivial⟩ (fun w hw => (hw.to 2 [1, 0] 4 [0, 1] rfl))
      · skip
        refine TR.exit ?_
        refine NX.exitThen ?_
        refine NX.exitThen ?_
        refine NX.exitHere ?_
        refine NX.seq ?_
        refine TR.seq ?_
        refine TR.region ?_
        refine RL.call rfl rfl Try.call17 rfl (lives_spec) (fun _ => ?_)
        refine RL.assign rfl rfl rfl ?_
        refine RL.nil ?_
        refine NX.seq ?_
        refine TR.ret ?_
        exact NX.ret1 () rfl rfl rfl (fun w hw => ((hw.to 2 [0, 1] 2 [] rfl)).tail.tail)
  · skip
    refine RL.skip rfl rfl rfl ?_
    refine RL.skip rfl rfl rfl ?_
    refine RL.pickF rfl rfl rfl rfl ?_
    refine RL.nil ?_
    refine NX.seq ?_
    refine TR.condF rfl ?_
    refine TR.exit ?_
    refine NX.exitThen ?_
    refine NX.exitThen ?_
    refine NX.exitHere ?_
    refine NX.seq ?_
    refine TR.seq ?_
    refine TR.seq ?_
    refine TR.region ?_
    refine RL.assign rfl rfl rfl ?_
    refine RL.nil ?_
    refine NX.seq ?_
    refine TR.block ?_
    refine TR.loopP (ι := (Nat × EX × EX)) (fun q => q.1 ≤ 10 ∧ Rest (bgL xs 10) q.1 q.2.1 ∧ Rest (bgL xs 10) (20 + q.1) q.2.2) (fun q => [(5, PtV bz1), (7, PtV bz2), (10, I (q.1 : Nat))]) (fun q => EngI bz1 1000 ruV.val q.2.1 :: EngI bz2 1000 ruV.val q.2.2 :: M) (fun q => QF q.2.2.qs :: QF q.2.1.qs :: F) (fun q => (10 - q.1)) (0, Xz1, z.2) ⟨Nat.zero_le _, Rest.begun (bgL_rl xs 10) hXz1, hz.2.mono (by omega)⟩ ⟨rfl, rfl, rfl, trivial⟩ (fun w hw => (hw.to 2 [0, 1] 2 [0, 1] rfl)) (fun q hq => ?_)
    refine TR.seq ?_
    refine TR.seq ?_
    refine TR.region ?_
    refine RL.move rfl rfl rfl ?_
    refine RL.bin rfl rfl rfl BinV.lss rfl ?_
    refine RL.nil ?_
    refine NX.seq ?_
    refine TR.cond rfl (fun h4 => ?_) (fun h4 => ?_)
    · skip
      have hi1 : q.1 < 10 := by have := of_decide_eq_true h4; omega
      refine TR.skip ?_
      refine NX.seq ?_
      refine TR.seq ?_
      refine TR.block ?_
      refine TR.seq ?_
      refine TR.region ?_
      refine RL.move rfl rfl rfl ?_
      refine RL.move rfl rfl rfl ?_
      refine RL.call rfl rfl Try.call16 rfl (node_spec (n := q.1)) (fun _ => ?_)
      refine RL.call rfl rfl Try.call15 rfl (getR_spec (k := (nK q.1)) (X := q.2.1) hq.2.1 (nK_in _) (by omega) (.tail _ (.head _))) (fun Y1 => ?_)
      obtain ⟨Y1, hY1⟩ := Y1
      dsimp only at hY1 ⊢
      refine RL.move rfl rfl rfl ?_
      refine RL.extract rfl rfl rfl rfl ?_
      refine RL.extract rfl rfl rfl rfl ?_
      refine RL.assign rfl rfl rfl ?_
      refine RL.assign rfl rfl rfl ?_
      refine RL.nil ?_
      refine NX.seq ?_
      refine TR.seq ?_
      refine TR.region ?_
      refine RL.move rfl rfl rfl ?_
      refine RL.move rfl rfl rfl ?_
      refine RL.call rfl rfl Try.call16 rfl (node_spec (n := q.1)) (fun _ => ?_)
      refine RL.call rfl rfl Try.call15 rfl (Ctr.pick 2 [1, 0] rfl (getR_spec (k := (nK q.1)) (X := q.2.2) hq.2.2 (nK_in _) (by omega) (.tail _ (.head _)))) (fun Y2 => ?_)
      obtain ⟨Y2, hY2⟩ := Y2
      dsimp only at hY2 ⊢
      refine RL.move rfl rfl rfl ?_
      refine RL.extract rfl rfl rfl rfl ?_
      refine RL.extract rfl rfl rfl rfl ?_
      refine RL.assign rfl rfl rfl ?_
      refine RL.assign rfl rfl rfl ?_
      refine RL.nil ?_
      refine NX.seq ?_
      refine TR.seq ?_
      refine TR.region ?_
      refine RL.move rfl rfl rfl ?_
      refine RL.move rfl rfl rfl ?_
      refine RL.bin rfl rfl rfl (BinV.to (d := false) BinV.neqS (decide_eq_false (by simp))) rfl ?_
      refine RL.move rfl rfl rfl ?_
      refine RL.move rfl rfl rfl ?_
      refine RL.move rfl rfl rfl ?_
      refine RL.bin rfl rfl rfl (BinV.to (d := false) BinV.neq (decide_eq_false (by simp))) rfl ?_
      refine RL.pickF rfl rfl rfl rfl ?_
      refine RL.nil ?_
      refine NX.seq ?_
      refine TR.condF rfl ?_
      refine TR.skip ?_
      refine NX.off ?_
      refine NX.seq ?_
      refine TR.region ?_
      refine RL.move rfl rfl rfl ?_
      refine RL.bin rfl rfl rfl (BinV.add ((q.1 + 1 : Nat) : Int) (by omega) (by omega) (by omega)) rfl ?_
      refine RL.assign rfl rfl rfl ?_
      refine RL.nil ?_
      refine NX.roundP (q.1 + 1, Y1, Y2) ⟨by omega, hY1, hY2⟩ (by show 10 - (q.1 + 1) < 10 - q.1; omega) ⟨rfl, rfl, rfl, trivial⟩ (fun w hw => (hw.to 2 [1, 0] 4 [0, 1] rfl))
    · skip
      refine TR.exit ?_
      refine NX.exitThen ?_
      refine NX.exitThen ?_
      refine NX.exitHere ?_
      refine NX.seq ?_
      refine TR.seq ?_
      refine TR.region ?_
      refine RL.call rfl rfl Try.call17 rfl (lives_spec) (fun _ => ?_)
      refine RL.assign rfl rfl rfl ?_
      refine RL.nil ?_
      refine NX.seq ?_
      refine TR.ret ?_
      exact NX.ret1 () rfl rfl rfl (fun w hw => ((hw.to 2 [0, 1] 2 [] rfl)).tail.tail)
end Go.Proofs.Ythefimaaeilefaa

namespace Go.Proofs.Ythefimaaeilefaa
open Go.ChangeShapes Go.WideShapes Go.ChangeAt Go.RowKit Go.GL Go.GL.Tree
theorem memoOrder_params : Try.f5.params = #[22, 22] := by kernel_rfl
set_option maxRecDepth 100000 in
theorem memoOrder_lifted (os : Os) (started : os.Started) (H : Type) (enc : TypeId × Value → H) :
    ReturnsInHanded {} Try.checked os 5 .any (Rows.memoOrderSpec.pre6 enc Try.prog Try.f5 Rows.memoOrderRow.domain false) (Rows.memoOrderSpec.post enc Try.prog Try.f5 false true false false) := by
  refine returnsInHanded_of_change (C := Try.checked) own_ started (by kernel_rfl) Try.func5
    (ChangeSpec.witness6 (enc := enc) (C := Try.checked) false ⟨#[], #[.slice none 0 0, .slice none 0 0], []⟩ 8 (by kernel_rfl) (by kernel_rfl) (by kernel_rfl) (by kernel_rfl)) ?_
  intro W base args ds gs before hval0 hW _ _
  have hval : ∀ (j : Nat) t v, Try.f5.params[j]? = some t → args[j]? = some v → Value.okWide Try.prog W .any base t v := hval0
  have hW' := hW
  obtain ⟨p, q, hA0, hV, rfl, hfz, hnd⟩ := hW
  have hA : DataW.TrodAll enc Try.prog W 0 (fun _ => true) true Try.f5.params.toList args.toList ds p := hA0
  rw [memoOrder_params] at hA hval
  obtain ⟨v0, vs0, d0, ds0, p0, q0, hargs, rfl, rfl, h0, r0⟩ := trodAll_cons hA
  obtain ⟨v1, vs1, d1, ds1, p1, q1, rfl, rfl, rfl, h1, r1⟩ := trodAll_cons r0
  obtain ⟨rfl, rfl, rfl⟩ := trodAll_nil r1
  obtain rfl : args = #[v0, v1] := by cases args; simp_all
  obtain ⟨oa0, ca0, xs0, rfl, hxa0, hxl0, hxm0, hxr0⟩ := in_ints1 sl22 i64_3 one3 (hval 0 22 v0 rfl rfl) h0
  have hok0 : IntsOk xs0 := ⟨by simp [maxLen] at hxm0; omega, hxr0⟩
  obtain ⟨oa1, ca1, xs1, rfl, hxa1, hxl1, hxm1, hxr1⟩ := in_ints1 sl22 i64_3 one3 (hval 1 22 v1 rfl rfl) h1
  have hok1 : IntsOk xs1 := ⟨by simp [maxLen] at hxm1; omega, hxr1⟩
  have hwalk := law_run (W := W) (law_order (xs := xs0) (ys := xs1) (oa := oa0) (ob := oa1) (ca := ca0) (cb := ca1) (M := []) (F := [OldF W, ArrF oa0 (ints xs0), ArrF oa1 (ints xs1)]) (.tail _ (.head _)) hok0 (.tail _ (.tail _ (.head _))) hok1) (fun φ hφ => by
      rcases List.mem_cons.1 hφ with e | hφ
      · subst e; exact hxa0
      rcases List.mem_cons.1 hφ with e | hφ
      · subst e; exact hxa1
      cases hφ)
  exact hwalk.mono fun e W' ⟨he, hb⟩ => ⟨_, he, law_post (tb := 4) laidOut_ (by kernel_rfl) rfl (by kernel_rfl) (by kernel_rfl) rfl hW' hb⟩
theorem memoOrder_holds : Rows.MemoOrderSaid :=
  OpenClaim.holds_of_wide 5 Try.f5 rfl rfl rfl rfl rfl rfl rfl ⟨rfl, rfl, rfl, rfl, rfl⟩ rfl rfl rfl rfl rfl (by kernel_rfl) Try.func5 (by kernel_rfl)
    (of_decide_eq_true (by kernel_rfl)) (by unfold Func.isWrapper; first | (rw [if_pos (by decide +kernel)]; kernel_rfl) | (rw [if_neg (by decide +kernel)]; exact ⟨rfl, rfl⟩))
    (fun os started H enc _ => memoOrder_lifted os started H enc)
end Go.Proofs.Ythefimaaeilefaa
