/- Lemmas and walks for the proof of FreshJ: texts one behind the other. No condition. -/
import Derived.Laws.StructEq
import Derived.Test.YthefimaaeilefaaPfrb
set_option linter.unusedVariables false
set_option linter.unusedSimpArgs false
namespace Go.Proofs.Ythefimaaeilefaa
open Go.GL
set_option linter.unusedVariables false
theorem we_bs35_1_0 (x0 : List UInt8) : BuildSV Try.prog 35 9 1 [(0, S x0)] [S x0] := fun w => by kernel_rfl
theorem we_bv71_0_1 (x0 : List UInt8) (x1 : Int) : BuildV Try.prog 71 [(0, S x0), (1, .int .i64 x1)] (.agg #[S x0, .int .i64 x1]) := fun w => by kernel_rfl
theorem we_ni35 : noInt Try.prog 35 = true := by kernel_rfl
theorem we_te9 : tyElem Try.prog 9 1 16 = true := by kernel_rfl
theorem we_tf65_1 : fieldOff Try.prog 65 1 1 = true := by kernel_rfl
theorem we_tf65_4 : fieldOff Try.prog 65 4 4 = true := by kernel_rfl
theorem we_tf65_6 : fieldOff Try.prog 65 6 6 = true := by kernel_rfl
theorem we_tf65_7 : fieldOff Try.prog 65 7 7 = true := by kernel_rfl
theorem we_tf87_0 : fieldOff Try.prog 87 0 0 = true := by kernel_rfl
theorem we_tf91_0 : fieldOff Try.prog 91 0 0 = true := by kernel_rfl
theorem we_tf91_3 : fieldOff Try.prog 91 3 3 = true := by kernel_rfl
theorem we_tl35 : tySlice Try.prog 35 9 = true := by kernel_rfl
theorem we_ts106 : tyScalar Try.prog 106 = true := by kernel_rfl
theorem we_ts24 : tyScalar Try.prog 24 = true := by kernel_rfl
theorem we_ts3 : tyScalar Try.prog 3 = true := by kernel_rfl
theorem we_ts35 : tyScalar Try.prog 35 = true := by kernel_rfl
theorem we_ts4 : tyScalar Try.prog 4 = true := by kernel_rfl
theorem we_ts59 : tyScalar Try.prog 59 = true := by kernel_rfl
theorem we_ts88 : tyScalar Try.prog 88 = true := by kernel_rfl
theorem we_ts9 : tyScalar Try.prog 9 = true := by kernel_rfl
theorem we_tz71 : tySize Try.prog 71 2 = true := by kernel_rfl
theorem FF0 {fs : List FM} {own : Nat} {x : FM} {w : World} {K : List Nat} (hx : fs[own]? = some x) (ht : x.f.tr = []) (h : (FF (own + 1) fs).p w K) : (FF own fs).p w K := fun i z hi hz => by
  by_cases e : i = own
  · subst e; rw [hx] at hz; cases hz; rw [ht]; exact .inl rfl
  · exact h i z (by omega) hz
theorem FF1 {fs : List FM} {own : Nat} {x : FM} {w : World} {K : List Nat} (hx : fs[own]? = some x) (ht : ArrAt w K x.oa (trC x.f.tr)) (h : (FF (own + 1) fs).p w K) : (FF own fs).p w K := fun i z hi hz => by
  by_cases e : i = own
  · subst e; rw [hx] at hz; cases hz; exact ht
  · exact h i z (by omega) hz
theorem FF2 {fs : List FM} {own : Nat} {x : FM} {f : FM → FM} {w : World} {K : List Nat} (hx : fs[own]? = some x) (h1 : (f x).oa = x.oa) (h2 : (f x).f.tr = x.f.tr) (ht : ArrAt w K x.oa (trC x.f.tr)) (h : (FF (own + 1) fs).p w K) : (FF own (upd fs own f)).p w K := fun i z hi hz => by
  rw [upd_get] at hz
  by_cases e : own = i
  · subst e; rw [if_pos rfl, hx] at hz; cases hz; rw [h1, h2]; exact ht
  · rw [if_neg e] at hz; exact h i z (by omega) hz
theorem own_en {Y : EX} {own : Nat} {a : An} {k : Ky} : ({ Y with comp := Y.comp ++ [k], fs := upd Y.fs own (FM.up fun f => { f with own := a }) } : EX).en = { setOwn Y.en own a with comp := Y.en.comp ++ [k] } := by
  show (⟨Y.inp, _, Y.comp ++ [k], Y.gets, Y.fuel, Y.out, (upd Y.fs own (FM.up _)).map FM.f⟩ : En) = _
  rw [up_map]; rfl
theorem comp_out {ob : Ky → Nat → En → An × En} {r : Ru} {k : Ky} {own : Nat} {e e' : En} {a : An} (h0 : ¬ (e.out = true ∨ e.fuel = 0)) (hr : runG ob own r { e with fuel := e.fuel - 1 } = (a, e')) (ho : e'.out = true) : compG ob r k own e = e' := by
  unfold compG; rw [if_neg h0, hr]; exact if_pos ho
theorem comp_go {ob : Ky → Nat → En → An × En} {r : Ru} {k : Ky} {own : Nat} {e e' : En} {a : An} (h0 : ¬ (e.out = true ∨ e.fuel = 0)) (hr : runG ob own r { e with fuel := e.fuel - 1 } = (a, e')) (ho : ¬ e'.out = true) : compG ob r k own e = { setOwn e' own a with comp := e'.comp ++ [k] } := by
  unfold compG; rw [if_neg h0, hr]; exact if_neg ho
theorem KpB.upC {X : EX} (own : Nat) (f : FM → FM) {c : List Ky} : KpB own X { X with comp := c, fs := upd X.fs own f } := ⟨fun i x hi hx => ⟨x, by
  show (upd X.fs own f)[i]? = some x
  rw [upd_get, if_neg (by omega)]; exact hx, rfl, rfl, rfl, rfl, rfl⟩, fun _ _ _ _ => rfl⟩
set_option maxHeartbeats 1000000 in
theorem compute_spec {b : Nat} {bud : Int} {X : EX} {M : List HP} {F : List Fact} {x : FM} {own : Nat} {k : Ky} {rule : Ky → Ru} {U : List Ky} {d : Nat} (hU : ∀ k, k ∈ U → KO k ∧ k.length ≤ 100) (hUl : U.length ≤ 1000) (hr : ∀ k, k ∈ U → RuK U k (rule k)) (V : Fnv Try.prog U rule) (hob : ObC b bud V.val rule U d) (hX : XOk rule U d X) (hk : k ∈ U) (hx : X.fs[own]? = some x) (hxk : x.f.key = k) (hxt : x.f.tr = []) (hxo : x.oa = none) (hxc : x.ca = 0) (hQ : QF X.qs ∈ F) (hFF : FF (own + 1) X.fs ∈ F) : Ctr Try.prog 42 [PtV b, PtV x.ptr] (EngB b bud V.val X :: M) F {Y : EX // Y.en = compG (fun k b e => obt rule d k (some b) e) (rule k) k own X.en ∧ KpB own X Y ∧ ∃ y, Y.fs[own]? = some y ∧ y.ptr = x.ptr} (fun _ => .tuple #[]) (fun Y => EngB b bud V.val Y.1 :: M) (fun Y => QF Y.1.qs :: FF own Y.1.fs :: F) := by
  refine Ctr.body Try.func42 rfl rfl ?_
  refine TR.seq ?_
  refine TR.region ?_
  refine RL.box1 rfl rfl rfl rfl (fun b1 => ?_)
  refine RL.box1 rfl rfl rfl rfl (fun b2 => ?_)
  refine RL.nil ?_
  refine NX.seq ?_
  refine TR.seq ?_
  refine TR.seq ?_
  subst hxk
  refine TR.weak (fun w hw => St.keep (St.keep hw)) ?_
  refine TR.open (fun w hw => (St.exOpen (show St w (Ex _ :: _) _ from hw))) (fun ic => ?_)
  refine TR.region ?_
  refine RL.loadF rfl rfl (fun w K hF => run_loadCell1 (j := 0) (hF (CellsF b1 0 [PtV b]) (.head _)) we_ts24 rfl) rfl ?_
  refine RL.nilCheck rfl rfl rfl ?_
  refine RL.fieldAddr rfl we_tf65_7 rfl rfl ?_
  refine RL.load1 0 rfl we_ts4 rfl rfl rfl rfl ?_
  refine RL.move rfl rfl rfl ?_
  refine RL.part (fun h3 => ?_) (fun h3 => ?_)
  · skip
    have hst : X.en.out = true ∨ X.en.fuel = 0 := .inl h3
    refine RL.skip rfl rfl rfl ?_
    refine RL.skip rfl rfl rfl ?_
    refine RL.skip rfl rfl rfl ?_
    refine RL.skip rfl rfl rfl ?_
    refine RL.skip rfl rfl rfl ?_
    refine RL.pickT rfl rfl rfl rfl ?_
    refine RL.nil ?_
    refine NX.seq ?_
    refine TR.condT rfl ?_
    refine TR.seq ?_
    refine TR.region ?_
    refine RL.loadF rfl rfl (fun w K hF => run_loadCell1 (j := 0) (hF (CellsF b1 0 [PtV b]) (.head _)) we_ts24 rfl) rfl ?_
    refine RL.nilCheck rfl rfl rfl ?_
    refine RL.fieldAddr rfl we_tf65_7 rfl rfl ?_
    refine RL.store1 0 rfl we_ts4 rfl rfl rfl rfl rfl ?_
    refine RL.nil ?_
    refine NX.seq ?_
    refine TR.ret ?_
    refine NX.retThen ?_
    exact NX.ret0 (⟨{ X with out := true }, by show _ = compG _ _ _ _ _; unfold compG; rw [if_pos hst]; rfl, KpB.of rfl rfl, x, hx, rfl⟩ : {Y : EX // Y.en = compG (fun k b e => obt rule d k (some b) e) (rule x.f.key) x.f.key own X.en ∧ KpB own X Y ∧ ∃ y, Y.fs[own]? = some y ∧ y.ptr = x.ptr}) rfl rfl (fun w hw => ((St.engClose ({ X with out := true }) ic rfl rfl rfl rfl rfl rfl rfl rfl rfl rfl (hw.to 8 [0, 1, 2, 3, 4, 5, 6, 7] 2 [] rfl)).derive (ψ := FF own X.fs) (fun K hf => FF0 hx hxt (hf (FF (own + 1) X.fs) hFF))).derive (ψ := QF X.qs) (fun K hf => hf _ (.tail _ hQ)))
  · skip
    have ho0 : X.out = false := h3
    have hsu := hX.su
    refine RL.loadF rfl rfl (fun w K hF => run_loadCell1 (j := 0) (hF (CellsF b1 0 [PtV b]) (.head _)) we_ts24 rfl) rfl ?_
    refine RL.nilCheck rfl rfl rfl ?_
    refine RL.fieldAddr rfl we_tf65_6 rfl rfl ?_
    refine RL.load1 0 rfl we_ts3 rfl rfl rfl rfl ?_
    refine RL.bin rfl rfl rfl BinV.eql rfl ?_
    refine RL.pickF rfl rfl rfl rfl ?_
    refine RL.nil ?_
    refine NX.seq ?_
    refine TR.cond rfl (fun h4 => ?_) (fun h4 => ?_)
    · skip
      have hst : X.en.out = true ∨ X.en.fuel = 0 := .inr (by show X.fuel = 0; have := of_decide_eq_true h4; omega)
      refine TR.seq ?_
      refine TR.region ?_
      refine RL.loadF rfl rfl (fun w K hF => run_loadCell1 (j := 0) (hF (CellsF b1 0 [PtV b]) (.head _)) we_ts24 rfl) rfl ?_
      refine RL.nilCheck rfl rfl rfl ?_
      refine RL.fieldAddr rfl we_tf65_7 rfl rfl ?_
      refine RL.store1 0 rfl we_ts4 rfl rfl rfl rfl rfl ?_
      refine RL.nil ?_
      refine NX.seq ?_
      refine TR.ret ?_
      refine NX.retThen ?_
      exact NX.ret0 (⟨{ X with out := true }, by show _ = compG _ _ _ _ _; unfold compG; rw [if_pos hst]; rfl, KpB.of rfl rfl, x, hx, rfl⟩ : {Y : EX // Y.en = compG (fun k b e => obt rule d k (some b) e) (rule x.f.key) x.f.key own X.en ∧ KpB own X Y ∧ ∃ y, Y.fs[own]? = some y ∧ y.ptr = x.ptr}) rfl rfl (fun w hw => ((St.engClose ({ X with out := true }) ic rfl rfl rfl rfl rfl rfl rfl rfl rfl rfl (hw.to 8 [0, 1, 2, 3, 4, 5, 6, 7] 2 [] rfl)).derive (ψ := FF own X.fs) (fun K hf => FF0 hx hxt (hf (FF (own + 1) X.fs) hFF))).derive (ψ := QF X.qs) (fun K hf => hf _ (.tail _ hQ)))
    · skip
      have hf0 : X.fuel ≠ 0 := by have := of_decide_eq_false h4; omega
      have hst : ¬ (X.en.out = true ∨ X.en.fuel = 0) := fun e => e.elim (fun e => by rw [show X.en.out = false from ho0] at e; cases e) hf0
      have hx1 : ({ X with fuel := X.fuel - 1 } : EX).fs[own]? = some x := hx
      refine TR.skip ?_
      refine NX.seq ?_
      refine TR.seq ?_
      refine TR.region ?_
      refine RL.loadF rfl rfl (fun w K hF => run_loadCell1 (j := 0) (hF (CellsF b1 0 [PtV b]) (.head _)) we_ts24 rfl) rfl ?_
      refine RL.nilCheck rfl rfl rfl ?_
      refine RL.fieldAddr rfl we_tf65_6 rfl rfl ?_
      refine RL.load1 0 rfl we_ts3 rfl rfl rfl rfl ?_
      refine RL.bin rfl rfl rfl (BinV.sub ((X.fuel - 1 : Nat) : Int) (by omega) (by omega) (by omega)) rfl ?_
      refine RL.nilCheck rfl rfl rfl ?_
      refine RL.fieldAddr rfl we_tf65_6 rfl rfl ?_
      refine RL.store1 0 rfl we_ts3 rfl rfl rfl rfl rfl ?_
      refine RL.nil ?_
      refine NX.seq ?_
      refine TR.seq ?_
      refine TR.region ?_
      refine RL.ofGV rfl rfl GV.makeMap (fun b5 => ?_)
      refine RL.alloc1 rfl (Try.zeroValue106) rfl rfl (fun b6 => ?_)
      refine RL.store1 0 rfl we_ts106 rfl rfl rfl rfl rfl ?_
      refine RL.weak (fun w hw => OwnSl.nil_new 103 3 (St.keep hw)) ?_
      refine RL.weak (fun w hw => St.engClose (({ X with fuel := X.fuel - 1 } : EX)) ic rfl rfl rfl rfl rfl rfl rfl rfl rfl rfl (show St w (_ :: _ :: _ :: _ :: _ :: _ :: _ :: _ :: _) _ from hw.toM 10 [2, 3, 4, 5, 6, 7, 8, 9, 0, 1] rfl)) ?_
      have hX1 : XOk rule U d ({ X with fuel := X.fuel - 1 } : EX) := ⟨hX.wk.same rfl rfl rfl, hX.dep, by show X.comp.length + (X.fuel - 1) ≤ _; have := hX.su; omega⟩
      refine RL.pick 3 [0, 2, 1] rfl ?_
      rw [show (OwnSl 103 3 none 0 0 [] : HP) = OwnSl 103 3 x.oa x.f.tr.length x.ca (trC x.f.tr) from by rw [hxt, hxo, hxc]; rfl, show ([] : KV) = knC x.f.tr from by rw [hxt]; rfl]
      refine RL.nil ?_
      refine NX.seq ?_
      refine TR.seq ?_
      refine TR.sub (E' := [(2, _), (3, _), (4, _)]) ⟨rfl, rfl, rfl, trivial⟩ ?_
      refine TR.draw mixed ?_
      apply AR.more [(0, _), (1, _), (2, _), (3, _), (4, _), (5, _), (6, _), (7, _), (8, _)]
      refine AR.eff [0, 1, 2, 3, 4, 5, 6, 7, 8] 9 [0, 1, 2, 3, 4, 5, 6, 7, 8, 9, 10, 11, 12, 13, 14] ⟨QOne.yes rfl rfl rfl (PV.loadF rfl (fun w K hF => run_loadCell1 (j := 0) (hF (CellsF b1 0 [PtV b]) (.tail _ (.head _))) we_ts24 rfl)), QOne.yes rfl rfl rfl (PV.nilCheck rfl), QOne.yes rfl rfl rfl (PV.fieldAddr we_tf65_1 rfl), QOne.yes rfl rfl rfl (PV.loadS rfl (eng_f (i := 0) rfl we_ts59)), QOne.yes rfl rfl rfl (PV.loadF rfl (fun w K hF => run_loadCell1 (j := 0) (hF (CellsF b2 0 [PtV x.ptr]) (.tail _ (.tail _ (.head _)))) we_ts88 rfl)), QOne.yes rfl rfl rfl (PV.nilCheck rfl), QOne.yes rfl rfl rfl (PV.fieldAddr we_tf91_0 rfl), QOne.yes rfl rfl rfl (PV.loadS rfl (eng_key (i := 0) rfl hx1 we_ts9)), QOne.yes rfl rfl rfl (PV.makeFunc (fs := []) (fv := []) (cs := [_, _, _]) rfl rfl), trivial⟩ rfl rfl rfl rfl rfl rfl rfl (EV.callV (fst := []) (cap := []) rfl rfl V.enter (call_spec (kb := b5) (kc := b6) (ec := b1) (fc := b2) hU hUl hr V hob hX1 hk hx1 (.tail _ (.tail _ (.tail _ hQ))) (.tail _ (.tail _ (.tail _ hFF))) (.head _) (.tail _ (.head _)) (.tail _ (.tail _ (.head _))))) (fun q => ?_)
      obtain ⟨⟨a, Y, y⟩, ⟨hq1, hq1b⟩, hXY, hy, hyp⟩ := q
      dsimp only at hq1 hq1b hXY hy hyp
      have hrw := run_wk (obt_wob hr d) (hr _ hk) (e := ({ X with fuel := X.fuel - 1 } : EX).en) (own := own) (by rw [en_len]; exact (List.getElem?_eq_some_iff.1 hx1).1) hX1.wk
      rw [hq1] at hrw
      obtain ⟨f9, hf1, hyk, _⟩ := hrw.2.kp own x.f (en_at hx1)
      rw [en_at hy] at hf1
      cases hf1
      have hyb : (Y.fs.map fB)[own]? = some (Box x.ptr 91 y.cs) := by rw [← hyp]; exact fb_at hy
      have hysu := hXY.su
      dsimp only
      refine AR.done [3, 7, 8, 6, 2, 1, 5, 4, 0] rfl ?_
      apply AR.more [(10, _), (11, _), (12, _), (13, _), (14, _)]
      refine AR.last [10, 11, 12, 13, 14] [0, 1, 2, 3, 4, 5, 6, 7, 8, 9, 10, 11, 12, 13, 14] ⟨QOne.yes rfl rfl rfl (PV.move rfl), QOne.yes rfl rfl rfl (PV.extract rfl rfl), QOne.yes rfl rfl rfl (PV.extract rfl rfl), QOne.yes rfl rfl rfl (PV.assign rfl), QOne.yes rfl rfl rfl (PV.assign rfl), trivial⟩ rfl rfl rfl ?_
      refine NX.sub (E' := [(2, _), (3, _), (5, _), (6, _)]) ⟨rfl, rfl, rfl, rfl, trivial⟩ ?_
      refine NX.seq ?_
      refine TR.seq ?_
      refine TR.open (fun w hw => (St.exOpen (show St w (Ex _ :: _) _ from hw))) (fun ic => ?_)
      refine TR.region ?_
      refine RL.loadF rfl rfl (fun w K hF => run_loadCell1 (j := 0) (hF (CellsF b1 0 [PtV b]) (.tail _ (.tail _ (.tail _ (.head _))))) we_ts24 rfl) rfl ?_
      refine RL.nilCheck rfl rfl rfl ?_
      refine RL.fieldAddr rfl we_tf65_7 rfl rfl ?_
      refine RL.load1 0 rfl we_ts4 rfl rfl rfl rfl ?_
      refine RL.not rfl rfl rfl ?_
      refine RL.nil ?_
      refine NX.seq ?_
      refine TR.cond rfl (fun h7 => ?_) (fun h7 => ?_)
      · skip
        have h46 := h7
        refine TR.seq ?_
        refine TR.region ?_
        refine RL.loadF rfl rfl (fun w K hF => run_loadCell1 (j := 0) (hF (CellsF b2 0 [PtV x.ptr]) (.tail _ (.tail _ (.tail _ (.tail _ (.head _)))))) we_ts88 rfl) rfl ?_
        refine RL.move rfl rfl rfl ?_
        refine RL.move rfl rfl rfl ?_
        refine RL.build rfl rfl (we_bv71_0_1 _ _) rfl ?_
        refine RL.nilCheck rfl rfl rfl ?_
        refine RL.fieldAddr rfl we_tf91_3 rfl rfl ?_
        refine RL.fieldAddr rfl we_tf87_0 rfl rfl ?_
        refine RL.ofEV rfl rfl (EV.storeAl (vs := [_, _]) 6 (own) rfl rfl rfl hyb we_tz71 rfl (Nat.le_of_ble_eq_true rfl) rfl) ?_
        refine RL.nil ?_
        refine NX.seq ?_
        refine TR.sub (E' := [(2, _), (3, _)]) ⟨rfl, rfl, trivial⟩ ?_
        refine TR.draw mixed ?_
        apply AR.more [(0, _), (1, _), (2, _), (3, _), (4, _), (5, _), (6, _), (7, _), (8, _)]
        refine AR.eff [0, 1, 2, 3, 4, 5, 6, 7, 8] 9 [0, 1, 2, 3, 4, 5, 6, 7, 8, 9, 10, 11, 12, 13] ⟨QOne.yes rfl rfl rfl (PV.loadF rfl (fun w K hF => run_loadCell1 (j := 0) (hF (CellsF b1 0 [PtV b]) (.tail _ (.tail _ (.tail _ (.head _))))) we_ts24 rfl)), QOne.yes rfl rfl rfl (PV.loadF rfl (fun w K hF => run_loadCell1 (j := 0) (hF (CellsF b1 0 [PtV b]) (.tail _ (.tail _ (.tail _ (.head _))))) we_ts24 rfl)), QOne.yes rfl rfl rfl (PV.nilCheck rfl), QOne.yes rfl rfl rfl (PV.fieldAddr we_tf65_4 rfl), QOne.yes rfl rfl rfl (PV.load1 0 we_ts35 rfl rfl rfl), QOne.yes rfl rfl rfl (PV.loadF rfl (fun w K hF => run_loadCell1 (j := 0) (hF (CellsF b2 0 [PtV x.ptr]) (.tail _ (.tail _ (.tail _ (.tail _ (.head _)))))) we_ts88 rfl)), QOne.yes rfl rfl rfl (PV.nilCheck rfl), QOne.yes rfl rfl rfl (PV.fieldAddr we_tf91_0 rfl), QOne.yes rfl rfl rfl (PV.loadS rfl (al_one (i := 6) (j := own) rfl (set_at hyb) we_ts9 rfl)), trivial⟩ rfl rfl rfl rfl rfl rfl rfl (EV.buildSlice rfl (we_bs35_1_0 _)) (fun b8 => ?_)
        refine AR.done [8, 7, 6, 5] rfl ?_
        refine AR.eff [0, 1, 2, 3, 4] 10 [0, 1, 2, 3, 4, 5, 6, 7, 8, 9, 10, 11, 12, 13] ⟨QOne.yes rfl rfl rfl (PV.loadF rfl (fun w K hF => run_loadCell1 (j := 0) (hF (CellsF b1 0 [PtV b]) (.tail _ (.tail _ (.tail _ (.head _))))) we_ts24 rfl)), QOne.yes rfl rfl rfl (PV.loadF rfl (fun w K hF => run_loadCell1 (j := 0) (hF (CellsF b1 0 [PtV b]) (.tail _ (.tail _ (.tail _ (.head _))))) we_ts24 rfl)), QOne.yes rfl rfl rfl (PV.nilCheck rfl), QOne.yes rfl rfl rfl (PV.fieldAddr we_tf65_4 rfl), QOne.yes rfl rfl rfl (PV.load1 1 we_ts35 rfl rfl rfl), trivial⟩ rfl rfl rfl rfl rfl rfl rfl (EV.ofGV (GV.append (j := 5) we_tl35 we_ni35 we_te9 rfl rfl rfl (src_box (i := 0) rfl rfl rfl) (by omega) (by omega))) (fun y1 => ?_)
        refine AR.done [4, 3, 2, 1] rfl ?_
        apply AR.more [(11, _), (12, _)]
        refine AR.eff [0, 11, 12] 13 [0, 1, 2, 3, 4, 5, 6, 7, 8, 9, 10, 11, 12, 13] ⟨QOne.yes rfl rfl rfl (PV.loadF rfl (fun w K hF => run_loadCell1 (j := 0) (hF (CellsF b1 0 [PtV b]) (.tail _ (.tail _ (.tail _ (.head _))))) we_ts24 rfl)), QOne.yes rfl rfl rfl (PV.nilCheck rfl), QOne.yes rfl rfl rfl (PV.fieldAddr we_tf65_4 rfl), trivial⟩ rfl rfl rfl rfl rfl rfl rfl (EV.store1 1 we_ts35 rfl rfl rfl rfl rfl) (fun _ => ?_)
        refine AR.done [12, 0, 11] rfl ?_
        refine AR.last [] [0, 1, 2, 3, 4, 5, 6, 7, 8, 9, 10, 11, 12, 13] trivial rfl rfl rfl ?_
        refine NX.sub (E' := []) trivial ?_
        have hYo : ¬ Y.out = true := by have := h46; simpa using this
        refine NX.end0 (⟨({ Y with comp := Y.comp ++ [x.f.key], fs := upd Y.fs own (FM.up fun f => { f with own := a }) } : EX), own_en.trans (comp_go hst hq1 hYo).symm, KpB.trans (KpB.trans (KpB.of (X := X) (Y := ({ X with fuel := X.fuel - 1 } : EX)) rfl rfl) hq1b) (KpB.upC own _), FM.up (fun f => { f with own := a }) y, by show (upd Y.fs own _)[own]? = _; rw [upd_get, if_pos rfl, hy]; rfl, hyp⟩ : {Y : EX // Y.en = compG (fun k b e => obt rule d k (some b) e) (rule x.f.key) x.f.key own X.en ∧ KpB own X Y ∧ ∃ y, Y.fs[own]? = some y ∧ y.ptr = x.ptr}) rfl rfl (fun w hw => ?_)
        have h0 : St w (EngB b bud V.val ({ Y with comp := Y.comp ++ [x.f.key], fs := upd Y.fs own (FM.up fun f => { f with own := a }) } : EX) :: OwnSl 103 3 y.oa y.f.tr.length y.ca (trC y.f.tr) :: M) (QF Y.qs :: FF (own + 1) Y.fs :: F) := St.engClose ({ Y with comp := Y.comp ++ [x.f.key], fs := upd Y.fs own (FM.up fun f => { f with own := a }) } : EX) (⟨ic.ib, ic.qb, ic.ab, y1.1, y1.2, ic.so, ic.sc⟩ : EH) (by rw [show ({ Y with comp := Y.comp ++ [x.f.key], fs := upd Y.fs own (FM.up fun f => { f with own := a }) } : EX).fs.length = Y.fs.length from upd_len _ _ _, show ({ Y with comp := Y.comp ++ [x.f.key], fs := upd Y.fs own (FM.up fun f => { f with own := a }) } : EX).comp.length = Y.comp.length + 1 from by show (Y.comp ++ [x.f.key]).length = _; rw [List.length_append]; rfl] <;> rfl) rfl rfl (up_at (fun f : Fr => { f with own := a }) (fun _ => rfl) 0 Y.fs own).symm (by show _ = (Y.comp ++ [x.f.key]).length; rw [List.length_append]; rfl) (by show _ = (Y.comp ++ [x.f.key]).map (S ·); rw [List.map_append, ← hyk]; rfl) (upd_len _ _ _).symm (up_st (FM.up fun f => { f with own := a }) (fun _ => rfl) Y.fs own).symm (by show _ = (upd Y.fs own _).map fB; rw [upd_map_set fB Y.fs own _ hy]; exact congrArg _ (by unfold fB FM.up FM.cs; rw [hyp]; rfl)) rfl ((hw.to 11 [1, 2, 3, 4, 5, 6, 7, 8, 10] 5 [0, 1] rfl))
        have h1 := St.keepSl h0.swap
        exact (h1.derive (ψ := FF own ({ Y with comp := Y.comp ++ [x.f.key], fs := upd Y.fs own (FM.up fun f => { f with own := a }) } : EX).fs) (fun K hf => FF2 hy rfl rfl (hf (ArrF y.oa (trC y.f.tr)) (.head _)) (hf (FF (own + 1) Y.fs) (.tail _ (.tail _ (.head _)))))).to 0 [] 4 [2, 0] rfl
      · skip
        have h46 := h7
        refine TR.skip ?_
        have hYo : Y.out = true := by have := h46; simpa using this
        refine NX.end0 (⟨Y, (comp_out hst hq1 hYo).symm, KpB.trans (KpB.of (X := X) (Y := ({ X with fuel := X.fuel - 1 } : EX)) rfl rfl) hq1b, y, hy, hyp⟩ : {Y : EX // Y.en = compG (fun k b e => obt rule d k (some b) e) (rule x.f.key) x.f.key own X.en ∧ KpB own X Y ∧ ∃ y, Y.fs[own]? = some y ∧ y.ptr = x.ptr}) rfl rfl (fun w hw => ?_)
        have h1 := St.keepSl (show St w (OwnSl 103 3 y.oa y.f.tr.length y.ca (trC y.f.tr) :: EngB b bud V.val Y :: M) _ from St.swap (St.engClose (Y) ic rfl rfl rfl rfl rfl rfl rfl rfl rfl rfl (hw.to 10 [0, 1, 2, 3, 4, 5, 6, 7, 9] 5 [0, 1] rfl)))
        exact (h1.derive (ψ := FF own Y.fs) (fun K hf => FF1 hy (hf (ArrF y.oa (trC y.f.tr)) (.head _)) (hf (FF (own + 1) Y.fs) (.tail _ (.tail _ (.head _)))))).to 0 [] 4 [2, 0] rfl
end Go.Proofs.Ythefimaaeilefaa

namespace Go.GL
namespace Tree
end Tree
open Tree
theorem TreesAt.at {w K} : ∀ {ts : List Tree} {cs : List Value} {k : Nat} (h : k < ts.length), TreesAt w K ts cs → cs[k * 4]? = some (I ts[k].id)
  | t :: ts, cs, 0, h, ⟨a, len, cap, rest, h1, _, _⟩ => by rw [h1]; rfl
  | t :: ts, cs, k + 1, h, ⟨a, len, cap, rest, h1, _, h3⟩ => by
    have := TreesAt.at (k := k) (by simpa using h) h3
    rw [h1, show (k + 1) * 4 = 4 + k * 4 from by omega, List.getElem?_append_right (by simp)]
    simpa using this
namespace Tree
theorem Small.zero {d : Nat} (h : 1 ≤ d) : Small d (.node 0 0 [] []) := by
  cases d with
  | zero => omega
  | succ d => exact ⟨Nat.zero_le _, Nat.zero_le _, fun _ => rfl, fun k hk => by cases hk⟩
theorem Small.pos {d : Nat} {t : Tree} (h : Small d t) : 1 ≤ d := by
  cases d with
  | zero => exact h.elim
  | succ d => omega
theorem Small.get {d : Nat} : ∀ {is : List Int} {t : Tree} {p : Nat} {k : Tree} {q : Nat}, Small d t → t.get is p = some (k, q) → Small d k
  | [], t, p, k, q, h, e => by
    rw [Tree.get] at e
    simp only [Option.some.injEq, Prod.mk.injEq] at e
    rw [← e.1]; exact h
  | i :: is, t, p, k, q, h, e => by
    rw [Tree.get] at e
    split at e
    · cases e
    · split at e
      · rename_i u hu
        cases d with
        | zero => exact h.elim
        | succ d => exact (Small.get (h.kid (List.mem_of_getElem? hu)) e).mono (by omega)
      · cases e
end Tree
def isI64t (P : Program) (t : TypeId) : Bool := match P.underlying t with | some (.int .i64) => true | _ => false
theorem isI64t_is {P : Program} {t : TypeId} (h : isI64t P t = true) : P.underlying t = some (.int .i64) := by
  unfold isI64t at h
  split at h
  · rename_i he; exact he
  · cases h
theorem part_int {P : Program} {w : World} {t off : Nat} {cs : Array Value} {v : Value} (h : P.underlying t = some (.int .i64)) (hv : cs[off]? = some v) : (part t cs off).run P w = .ok v w := by
  simp [part, isAgg, run_underlying h, hv]
theorem part_str {P : Program} {w : World} {t off : Nat} {cs : Array Value} {v : Value} (h : P.underlying t = some .string) (hv : cs[off]? = some v) : (part t cs off).run P w = .ok v w := by
  simp [part, isAgg, run_underlying h, hv]
namespace Tree
end Tree
theorem CellsAt.sub {w : World} {K : List Nat} {b off o : Nat} {cs vs : List Value} (h : CellsAt w K b off cs) (hs : ∀ j v, vs[j]? = some v → cs[o + j]? = some v) : CellsAt w K b (off + o) vs :=
  ⟨h.1, h.2.1, fun j v hv => by rw [Nat.add_assoc]; exact h.2.2 _ v (hs j v hv)⟩
def Lf (T e b : Nat) (l : List Tree) : HP := Ex (ι := Option Addr × Nat) fun i => [Box b T [.slice i.1 l.length i.2], OwnSl e 3 i.1 l.length i.2 (toks 0 l)]
end Go.GL

namespace Go.GL
set_option linter.unusedVariables false
theorem S_inj2 {a b : List UInt8} : ((⟨a.toArray⟩ : ByteArray).toList == (⟨b.toArray⟩ : ByteArray).toList) = decide (a = b) := by
  rw [S_toList, S_toList]
  by_cases h : a = b
  · subst h; simp
  · simp [h]
def anOk (P : Program) (t : Nat) : Bool := match (P.fieldsOf t).toList with
  | [f0, f1] => (decide (f0.name ≠ "_") && decide (f1.name ≠ "_")) && (Nat.beq f0.offset 0 && Nat.beq f1.offset 1) && (tyStr P f0.type && isI64t P f1.type)
  | _ => false
theorem run_equalIn_an {P : Program} {t : Nat} (hf : anOk P t = true) (hu : P.underlying t = some (.struct (P.fieldsOf t))) (hh : P.stoodInHeld t = false) (w : World) (a a' : Int) (c c' : List UInt8) :
    (Op.equalIn 10000 t (.agg #[S c, I a]) (.agg #[S c', I a'])).run P w = .ok (decide (c = c' ∧ a = a')) w := by
  rw [run_equalIn_agg w 9999 t _ _ hu hh]
  unfold anOk at hf
  split at hf
  · rename_i f0 f1 he
    simp only [Bool.and_eq_true, decide_eq_true_eq] at hf
    obtain ⟨⟨⟨n0, n1⟩, ⟨o0, o1⟩⟩, ⟨t0, t1⟩⟩ := hf
    have o0 := Nat.eq_of_beq_eq_true o0
    have o1 := Nat.eq_of_beq_eq_true o1
    have t0 := tyStr_underlying t0
    have t1 := isI64t_is t1
    have e1 : ∀ b b' : Int, ((Op.equalIn 9999 f1.type (I b) (I b')).run P w) = .ok (b == b') w := fun b b' => run_equalIn_int w 9998 f1.type .i64 .i64 b b' t1
    have e0 : ∀ c c' : List UInt8, ((Op.equalIn 9999 f0.type (S c) (S c')).run P w) = .ok (decide (c = c')) w := fun c c' => by rw [← S_inj2]; exact run_equalIn_string w 9998 f0.type _ _ t0
    have p0 : ∀ a c, (part f0.type #[S c, I a] f0.offset).run P w = .ok (S c) w := fun a c => part_str t0 (by rw [o0]; rfl)
    have p1 : ∀ a c, (part f1.type #[S c, I a] f1.offset).run P w = .ok (I a) w := fun a c => part_int t1 (by rw [o1]; rfl)
    rw [he]
    by_cases h0 : c = c' <;> by_cases h1 : a = a' <;> simp [Op.eqFields, n0, n1, p0, p1, e0, e1, h0, h1]
  · cases hf
theorem BinV.neqAn {P : Program} {t : Nat} (hf : anOk P t = true) (hu : P.underlying t = some (.struct (P.fieldsOf t))) (hh : P.stoodInHeld t = false) (hg : P.eqGuardType P.depth t = false) (x y : An) :
    BinV P .neq t (anV x) (anV y) (.bool (decide (x ≠ y))) := by
  refine ⟨fun w => ?_, fun ox oy w => run_eqGuard_agg w .neq t ox oy _ _ hg⟩
  show (binOp .neq t (.agg #[S x.s, I x.e]) (.agg #[S y.s, I y.e])).run P w = _
  rw [run_neq_struct, run_equalIn_an hf hu hh]
  show Result.ok (Value.bool (!decide (x.s = y.s ∧ x.e = y.e))) w = _
  congr 2
  rw [Bool.eq_iff_iff]
  simp only [Bool.not_eq_true', decide_eq_false_iff_not, decide_eq_true_eq]
  constructor
  · rintro h rfl; exact h ⟨rfl, rfl⟩
  · rintro h ⟨h1, h2⟩; apply h; cases x; cases y; simp_all
theorem box_agg {P : Program} {M : List HP} {F : List Fact} {i b bt off t : Nat} {cs vs : List Value} (hi : M[i]? = some (Box b bt cs)) (hT : tyAgg P t vs.length = true) (hx : ∀ k v, vs[k]? = some v → cs[off + k]? = some v) : ∀ w, St w M F → Reads P w t ⟨b, off, none⟩ (.agg vs.toArray) := fun w hw =>
  run_loadVar_agg hT rfl fun k v hv => by
    rw [addr_add]
    rw [cell_of_box (hw.heap hi)]; simpa using hx k v hv
theorem eng_q {P : Program} {M : List HP} {F : List Fact} {i j b t off : Nat} {bud : Int} {fv v : Value} {X : EX} {k : Ky} {x : QM} (hi : M[i]? = some (EngB b bud fv X)) (hq : X.qs[j]? = some (k, x)) (hT : tyScalar P t = true) (hv : x.cs[off]? = some v) : ∀ w, St w M F → Reads P w t ⟨x.ptr, off, none⟩ v := fun w hw => by
  obtain ⟨h, h1⟩ := (hw.front hi).exOpen
  exact al_one (i := 7) (j := j) rfl (qb_at hq) hT hv w h1
section
variable {ob : Ky → Nat → En → An × En} {own : Nat} {e : En} {k : Ky} {a : An} {T : Tr}
theorem hold_stop (h : (ob k own e).1 ≠ a ∨ (ob k own e).2.out = true) : holdG ob own ((k, a) :: T) e = (false, (ob k own e).2) := by rw [holdG, if_pos h]
theorem hold_next (h1 : ¬ (ob k own e).1 ≠ a) (h2 : (ob k own e).2.out = false) : holdG ob own ((k, a) :: T) e = holdG ob own T (ob k own e).2 := by
  rw [holdG, if_neg]
  rintro (h | h)
  · exact h1 h
  · rw [h2] at h; cases h
end
theorem trC_ne {t : Tr} {i : Nat} {p : Ky × An} (h : t[i]? = some p) : trC t ≠ [] := by
  cases t with
  | nil => simp at h
  | cons q l => simp [trC]
end Go.GL

namespace Go.Proofs.Ythefimaaeilefaa
open Go.GL
set_option linter.unusedVariables false
theorem wf_ta103 : tyAgg Try.prog 103 3 = true := by kernel_rfl
theorem wf_ta71 : tyAgg Try.prog 71 2 = true := by kernel_rfl
theorem wf_tf103_0 : fieldOff Try.prog 103 0 0 = true := by kernel_rfl
theorem wf_tf103_1 : fieldOff Try.prog 103 1 1 = true := by kernel_rfl
theorem wf_tf65_7 : fieldOff Try.prog 65 7 7 = true := by kernel_rfl
theorem wf_tf87_1 : fieldOff Try.prog 87 1 2 = true := by kernel_rfl
theorem wf_tl85 : tySlice Try.prog 85 103 = true := by kernel_rfl
theorem wf_ts4 : tyScalar Try.prog 4 = true := by kernel_rfl
theorem wf_ts85 : tyScalar Try.prog 85 = true := by kernel_rfl
theorem wf_ts9 : tyScalar Try.prog 9 = true := by kernel_rfl
theorem wf_tz103 : tySize Try.prog 103 3 = true := by kernel_rfl
theorem anOk_ : anOk Try.prog 71 = true := by kernel_rfl
theorem anUnd_ : Try.prog.underlying 71 = some (.struct (Try.prog.fieldsOf 71)) := by kernel_rfl
theorem anHeld_ : Try.prog.stoodInHeld 71 = false := by kernel_rfl
theorem anGrd_ : Try.prog.eqGuardType Try.prog.depth 71 = false := by kernel_rfl
set_option maxHeartbeats 1000000 in
theorem holds_spec {b : Nat} {bud : Int} {fv : Value} {X : EX} {M : List HP} {F : List Fact} {q : QM} {j own : Nat} {kq : Ky} {f : FM} {rule : Ky → Ru} {U : List Ky} {d : Nat} (hU : ∀ k, k ∈ U → KO k ∧ k.length ≤ 100) (hUl : U.length ≤ 1000) (hr : ∀ k, k ∈ U → RuK U k (rule k)) (hob : ObC b bud fv rule U d) (hX : XOk rule U d X) (hq : X.qs[j]? = some (kq, q)) (hf : X.fs[own]? = some f) (hQ : QF X.qs ∈ F) (hFF : FF (own + 1) X.fs ∈ F) : Ctr Try.prog 41 [PtV b, PtV q.ptr, PtV f.ptr] (EngB b bud fv X :: M) F {Y : EX // Y.en = (holdG (fun k b e => obt rule d k (some b) e) own q.q.tr X.en).2 ∧ Kp X Y} (fun _ => .bool (holdG (fun k b e => obt rule d k (some b) e) own q.q.tr X.en).1) (fun Y => EngB b bud fv Y.1 :: M) (fun Y => QF Y.1.qs :: FF (own + 1) Y.1.fs :: F) := by
  refine Ctr.body Try.func41 rfl rfl ?_
  refine TR.seq ?_
  refine TR.region ?_
  refine RL.assign rfl rfl rfl ?_
  refine RL.nil ?_
  refine NX.seq ?_
  refine TR.seq ?_
  refine TR.seq ?_
  refine TR.region ?_
  refine RL.move rfl rfl rfl ?_
  refine RL.nilCheck rfl rfl rfl ?_
  refine RL.fieldAddr rfl wf_tf87_1 rfl rfl ?_
  refine RL.loadS rfl rfl (eng_q (i := 0) rfl hq wf_ts85 rfl) rfl ?_
  refine RL.lenSlice rfl wf_tl85 rfl rfl ?_
  refine RL.move rfl rfl rfl ?_
  refine RL.nil ?_
  refine NX.seq ?_
  refine TR.block ?_
  have hqt := hX.wk.qs (kq, q.q) (List.mem_map.2 ⟨(kq, q), List.mem_of_getElem? hq, rfl⟩)
  have hqtl : q.q.tr.length ≤ U.length := hqt.len
  refine TR.weak (fun w hw => ((hw.derive (ψ := ArrF q.oa (trC q.q.tr)) (fun K hf => hf (QF X.qs) hQ (kq, q) (List.mem_of_getElem? hq))).derive (ψ := FF (own + 1) X.fs) (fun K hf => hf (FF (own + 1) X.fs) (.tail _ hFF))).derive (ψ := QF X.qs) (fun K hf => hf (QF X.qs) (.tail _ (.tail _ hQ)))) ?_
  refine TR.loopP (ι := (Nat × EX)) (fun z => z.1 ≤ q.q.tr.length ∧ holdG (fun k b e => obt rule d k (some b) e) own (q.q.tr.drop z.1) z.2.en = holdG (fun k b e => obt rule d k (some b) e) own q.q.tr X.en ∧ Kp X z.2 ∧ XOk rule U d z.2) (fun z => [(0, PtV b), (2, PtV f.ptr), (12, .slice q.oa q.q.tr.length q.ca), (13, I (q.q.tr.length : Nat)), (14, I (z.1 : Nat))]) (fun z => EngB b bud fv z.2 :: M) (fun z => QF z.2.qs :: FF (own + 1) z.2.fs :: ArrF q.oa (trC q.q.tr) :: F) (fun z => q.q.tr.length - z.1) (0, X) ⟨Nat.zero_le _, rfl, Kp.refl X, hX⟩ ⟨rfl, rfl, rfl, rfl, rfl, trivial⟩ (fun w hw => hw) (fun z hz => ?_)
  refine TR.seq ?_
  refine TR.region ?_
  refine RL.bin rfl rfl rfl BinV.lss rfl ?_
  refine RL.nil ?_
  refine NX.seq ?_
  refine TR.seq ?_
  refine TR.cond rfl (fun h1 => ?_) (fun h1 => ?_)
  · skip
    have hlt : z.1 < q.q.tr.length := by have := of_decide_eq_true h1; omega
    obtain ⟨p, hp⟩ : ∃ p, q.q.tr[z.1]? = some p := ⟨_, List.getElem?_eq_getElem hlt⟩
    have hdr : q.q.tr.drop z.1 = p :: q.q.tr.drop (z.1 + 1) := by
      rw [List.drop_eq_getElem_cons hlt]
      congr 1
      exact (List.getElem?_eq_some_iff.1 hp).2
    have hpk : p.1 ∈ U := hqt.mem p (List.mem_of_getElem? hp)
    obtain ⟨f2, hf2, hfp, _⟩ := hz.2.2.1.kp own f hf
    refine TR.openP (open_arr (oa := q.oa) (xs := trC q.q.tr) (.tail _ (.tail _ (.head _))) (trC_ne hp)) (fun pa hpa => ?_)
    refine TR.skip ?_
    refine NX.seq ?_
    refine TR.seq ?_
    refine TR.block ?_
    refine TR.seq ?_
    refine TR.region ?_
    refine RL.indexAddr rfl wf_tl85 wf_tz103 (congrArg (fun a => some (Value.slice a _ _)) hpa) rfl (by omega) (by omega) rfl ?_
    refine RL.loadF rfl rfl (fun w K hF => run_tr (hF (CellsF pa.1 pa.2 (trC q.q.tr)) (.head _)) wf_ta103 hp) rfl ?_
    refine RL.allocA rfl (Try.zeroValue103) rfl (fun b2 => ?_)
    refine RL.storeA 0 rfl rfl rfl rfl wf_tz103 rfl rfl ?_
    refine RL.nil ?_
    refine NX.seq ?_
    refine TR.seq ?_
    refine TR.sub (E' := [(0, _), (2, _), (8, _), (12, _), (13, _), (14, _), (15, _), (16, _), (17, _)]) ⟨rfl, rfl, rfl, rfl, rfl, rfl, rfl, rfl, rfl, trivial⟩ ?_
    refine TR.draw mixed ?_
    apply AR.more [(0, _), (1, _), (2, _), (3, _), (5, _), (6, _)]
    refine AR.eff [0, 1, 2, 3, 5, 6] 4 [0, 1, 2, 3, 4, 5, 6, 7, 8, 9, 10, 11, 12, 13] ⟨QOne.yes rfl rfl rfl (PV.move rfl), QOne.yes rfl rfl rfl (PV.fieldAddr wf_tf103_0 rfl), QOne.yes rfl rfl rfl (PV.load1 0 wf_ts9 rfl rfl rfl), QOne.yes rfl rfl rfl (PV.move rfl), QOne.yes rfl rfl rfl (PV.fieldAddr wf_tf103_1 rfl), QOne.yes rfl rfl rfl (PV.loadS rfl (box_agg (vs := [_, _]) (i := 0) rfl wf_ta71 (agg2 rfl rfl))), trivial⟩ rfl rfl rfl rfl rfl rfl rfl (EV.call rfl Try.call31 (Ctr.pick 2 [1, 0] rfl (hob hz.2.2.2 hpk (.inr ⟨own, f2, rfl, hf2, by rw [hfp]⟩) (.tail _ (.head _))))) (fun Y => ?_)
    obtain ⟨Y, hYe, hYk⟩ := Y
    dsimp only
    have hYw := obt_wk hr d p.1 (some own) z.2.en hpk hz.2.2.2.wk
    rw [← hYe] at hYw
    have hYok := hz.2.2.2.kq hYw.1 hYw.2
    refine AR.done [0, 2, 3, 1] rfl ?_
    cases h3 : decide ((obt rule d p.1 (some own) z.2.en).1 ≠ p.2)
    · skip
      have heq := of_decide_eq_false h3
      apply AR.more [(7, _), (8, .bool false), (9, _), (10, _), (11, _), (12, _), (13, _)]
      refine AR.last [5, 6, 7, 8, 9, 10, 11, 12, 13] [0, 1, 2, 3, 4, 5, 6, 7, 8, 9, 10, 11, 12, 13] ⟨QOne.yes rfl rfl rfl (PV.fieldAddr wf_tf103_1 rfl), QOne.yes rfl rfl rfl (PV.loadS rfl (box_agg (vs := [_, _]) (i := 1) rfl wf_ta71 (agg2 rfl rfl))), QOne.yes rfl rfl rfl (PV.bin rfl rfl (BinV.neqAn anOk_ anUnd_ anHeld_ anGrd_ _ _)), QOne.yes rfl rfl rfl (PV.cast (congrArg Value.bool h3) (PV.move rfl)), QOne.yes rfl rfl rfl (PV.move rfl), QOne.yes rfl rfl rfl (PV.nilCheck rfl), QOne.yes rfl rfl rfl (PV.fieldAddr wf_tf65_7 rfl), QOne.yes rfl rfl rfl (PV.loadS rfl (eng_out (i := 0) rfl wf_ts4)), QOne.yes rfl rfl rfl (PV.pickF rfl rfl), trivial⟩ rfl rfl rfl ?_
      refine NX.sub (E' := [(0, _), (2, _), (8, _), (12, _), (13, _), (14, _), (15, _), (16, _), (17, _), (18, _), (19, _), (20, _), (21, _), (22, _), (23, _), (24, _), (25, _), (26, _), (27, _), (28, _), (29, _), (30, _), (31, _)]) ⟨rfl, rfl, rfl, rfl, rfl, rfl, rfl, rfl, rfl, rfl, rfl, rfl, rfl, rfl, rfl, rfl, rfl, rfl, rfl, rfl, rfl, rfl, rfl, trivial⟩ ?_
      refine NX.seq ?_
      refine TR.cond rfl (fun h4 => ?_) (fun h4 => ?_)
      · skip
        have hyo : (obt rule d p.1 (some own) z.2.en).2.out = true := by rw [← hYe]; exact h4
        refine TR.seq ?_
        refine TR.region ?_
        refine RL.assign rfl rfl rfl ?_
        refine RL.nil ?_
        refine NX.seq ?_
        refine TR.ret ?_
        refine NX.retBlock ?_
        refine NX.retThen ?_
        refine NX.retThen ?_
        refine NX.retBlock ?_
        refine NX.retThen ?_
        have hst := hold_stop (ob := (fun k b e => obt rule d k (some b) e)) (own := own) (T := q.q.tr.drop (z.1 + 1)) (a := p.2) (.inr hyo)
        rw [show ((p.1, p.2) :: q.q.tr.drop (z.1 + 1) : Tr) = q.q.tr.drop z.1 from hdr.symm, hz.2.1] at hst
        refine NX.ret1 (⟨Y, by rw [hst]; exact hYe, hz.2.2.1.trans hYk⟩ : {Y : EX // Y.en = (holdG (fun k b e => obt rule d k (some b) e) own q.q.tr X.en).2 ∧ Kp X Y}) rfl rfl (by rw [hst]) (fun w hw => ?_)
        exact ((hw.to 2 [0] 0 [] rfl).derive (ψ := FF (own + 1) Y.fs) (fun K hf => FF.keep hYk (hf (FF (own + 1) z.2.fs) (.tail _ (.tail _ (.tail _ (.tail _ (.head _)))))) (hf (FF z.2.fs.length Y.fs) (.tail _ (.head _))))).to 0 [] 7 [1, 0] rfl
      · skip
        have hyo : Y.out = false := h4
        refine TR.skip ?_
        refine NX.off ?_
        refine NX.seq ?_
        refine TR.region ?_
        refine RL.bin rfl rfl rfl (BinV.add _ rfl (by omega) (by omega)) rfl ?_
        refine RL.move rfl rfl rfl ?_
        refine RL.nil ?_
        have hnx := hold_next (ob := (fun k b e => obt rule d k (some b) e)) (own := own) (T := q.q.tr.drop (z.1 + 1)) (a := p.2) heq (by rw [← hYe]; exact hyo)
        rw [show ((p.1, p.2) :: q.q.tr.drop (z.1 + 1) : Tr) = q.q.tr.drop z.1 from hdr.symm, hz.2.1] at hnx
        refine NX.roundP (z.1 + 1, Y) ⟨by omega, by show holdG _ own (q.q.tr.drop (z.1 + 1)) Y.en = _; rw [hYe]; exact hnx.symm, hz.2.2.1.trans hYk, hYok⟩ (by show q.q.tr.length - (z.1 + 1) < q.q.tr.length - z.1; omega) ⟨rfl, rfl, rfl, rfl, rfl, trivial⟩ (fun w hw => (((hw.to 2 [0] 0 [] rfl).derive (ψ := FF (own + 1) Y.fs) (fun K hf => FF.keep hYk (hf (FF (own + 1) z.2.fs) (.tail _ (.tail _ (.tail _ (.tail _ (.head _)))))) (hf (FF z.2.fs.length Y.fs) (.tail _ (.head _))))).to 0 [] 7 [1, 0, 6] rfl))
    · skip
      have hne := of_decide_eq_true h3
      apply AR.more [(7, _), (8, .bool true), (9, undef), (10, undef), (11, undef), (12, undef), (13, .bool true)]
      refine AR.last [5, 6, 7, 8, 9, 10, 11, 12, 13] [0, 1, 2, 3, 4, 5, 6, 7, 8, 9, 10, 11, 12, 13] ⟨QOne.yes rfl rfl rfl (PV.fieldAddr wf_tf103_1 rfl), QOne.yes rfl rfl rfl (PV.loadS rfl (box_agg (vs := [_, _]) (i := 1) rfl wf_ta71 (agg2 rfl rfl))), QOne.yes rfl rfl rfl (PV.bin rfl rfl (BinV.neqAn anOk_ anUnd_ anHeld_ anGrd_ _ _)), QOne.yes rfl rfl rfl (PV.cast (congrArg Value.bool h3) (PV.move rfl)), QOne.no rfl rfl rfl, QOne.no rfl rfl rfl, QOne.no rfl rfl rfl, QOne.no rfl rfl rfl, QOne.yes rfl rfl rfl (PV.pickT rfl rfl), trivial⟩ rfl rfl rfl ?_
      refine NX.sub (E' := [(0, _), (2, _), (8, _), (12, _), (13, _), (14, _), (15, _), (16, _), (17, _), (18, _), (19, _), (20, _), (21, _), (22, _), (23, _), (24, _), (25, _), (26, _), (27, _), (28, _), (29, _), (30, _), (31, _)]) ⟨rfl, rfl, rfl, rfl, rfl, rfl, rfl, rfl, rfl, rfl, rfl, rfl, rfl, rfl, rfl, rfl, rfl, rfl, rfl, rfl, rfl, rfl, rfl, trivial⟩ ?_
      refine NX.seq ?_
      refine TR.condT rfl ?_
      refine TR.seq ?_
      refine TR.region ?_
      refine RL.assign rfl rfl rfl ?_
      refine RL.nil ?_
      refine NX.seq ?_
      refine TR.ret ?_
      refine NX.retBlock ?_
      refine NX.retThen ?_
      refine NX.retThen ?_
      refine NX.retBlock ?_
      refine NX.retThen ?_
      have hst := hold_stop (ob := (fun k b e => obt rule d k (some b) e)) (own := own) (T := q.q.tr.drop (z.1 + 1)) (a := p.2) (.inl hne)
      rw [show ((p.1, p.2) :: q.q.tr.drop (z.1 + 1) : Tr) = q.q.tr.drop z.1 from hdr.symm, hz.2.1] at hst
      refine NX.ret1 (⟨Y, by rw [hst]; exact hYe, hz.2.2.1.trans hYk⟩ : {Y : EX // Y.en = (holdG (fun k b e => obt rule d k (some b) e) own q.q.tr X.en).2 ∧ Kp X Y}) rfl rfl (by rw [hst]) (fun w hw => ?_)
      exact ((hw.to 2 [0] 0 [] rfl).derive (ψ := FF (own + 1) Y.fs) (fun K hf => FF.keep hYk (hf (FF (own + 1) z.2.fs) (.tail _ (.tail _ (.tail _ (.tail _ (.head _)))))) (hf (FF z.2.fs.length Y.fs) (.tail _ (.head _))))).to 0 [] 7 [1, 0] rfl
  · skip
    have h15 := h1
    refine TR.exit ?_
    refine NX.exitThen ?_
    refine NX.exitThen ?_
    refine NX.exitHere ?_
    refine NX.seq ?_
    refine TR.seq ?_
    refine TR.region ?_
    refine RL.assign rfl rfl rfl ?_
    refine RL.nil ?_
    refine NX.seq ?_
    refine TR.ret ?_
    have hge := of_decide_eq_false h15
    have hdn : q.q.tr.drop z.1 = [] := List.drop_of_length_le (by omega)
    have hzz := hz.2.1
    rw [hdn] at hzz
    refine NX.ret1 (⟨z.2, by rw [← hzz]; rfl, hz.2.2.1⟩ : {Y : EX // Y.en = (holdG (fun k b e => obt rule d k (some b) e) own q.q.tr X.en).2 ∧ Kp X Y}) rfl rfl (by rw [← hzz]; rfl) (fun w hw => (hw.to 1 [0] 3 [0, 1] rfl))
end Go.Proofs.Ythefimaaeilefaa

namespace Go.GL
set_option linter.unusedVariables false
section
variable {rule : Ky → Ru} {d : Nat} {k : Ky} {by_ : Option Nat} {e : En}
theorem ob_out (h : e.out = true) : obt rule (d + 1) k by_ e = (fuelA, e) := by rw [obt, if_pos h]
theorem ob_inp {s : List UInt8} (h : ¬ e.out = true) (hi : aGet e.inp k = some s) : obt rule (d + 1) k by_ e = (⟨s, 0⟩, e) := by rw [obt, if_neg h, hi]
theorem ob_hit {i : Nat} (h : ¬ e.out = true) (hi : aGet e.inp k = none) (hx : frIdx e.st k = some i) : obt rule (d + 1) k by_ e = (cycA, hit e by_ i) := by rw [obt, if_neg h, hi]; simp only; rw [hx]
theorem ob_ok {q : Qy} (h : ¬ e.out = true) (hi : aGet e.inp k = none) (hx : frIdx e.st k = none) (hq : okOf e.qs k = some q) : obt rule (d + 1) k by_ e = (q.ans, touch e k q) := by rw [obt, if_neg h, hi]; simp only; rw [hx]; simp only; rw [hq]
theorem ob_go (h : ¬ e.out = true) (hi : aGet e.inp k = none) (hx : frIdx e.st k = none) (hq : okOf e.qs k = none) : obt rule (d + 1) k by_ e = leave by_ e.st.length (visit (fun k b e => obt rule d k (some b) e) (rule k) k e) := by rw [obt, if_neg h, hi]; simp only; rw [hx]; simp only; rw [hq]
end
section
variable {ob : Ky → Nat → En → An × En} {r : Ru} {k : Ky} {e : En}
theorem visit_new (h : aGet e.qs k = none) : visit ob r k e = compG ob r k e.st.length (push e k) := by unfold visit; rw [h]
theorem visit_hold {q : Qy} (h : aGet e.qs k = some q) (ht : (holdG ob e.st.length q.tr (push e k)).1 = true) : visit ob r k e = setFr (holdG ob e.st.length q.tr (push e k)).2 e.st.length q.own q.tr := by unfold visit; rw [h]; exact if_pos ht
theorem visit_comp {q : Qy} (h : aGet e.qs k = some q) (ht : (holdG ob e.st.length q.tr (push e k)).1 = false) : visit ob r k e = compG ob r k e.st.length (holdG ob e.st.length q.tr (push e k)).2 := by unfold visit; rw [h]; exact if_neg (by rw [ht]; decide)
theorem leave_out {by_ : Option Nat} {own : Nat} (h : e.out = true) : leave by_ own e = (fuelA, e) := if_pos h
theorem leave_cyc {by_ : Option Nat} {own : Nat} (h : ¬ e.out = true) (hl : lowOf e own < own) : leave by_ own e = (cycA, bump e by_ (lowOf e own)) := by unfold leave; rw [if_neg h, if_pos hl]
theorem leave_end {by_ : Option Nat} {own : Nat} (h : ¬ e.out = true) (hl : ¬ lowOf e own < own) : leave by_ own e = settle own e := by unfold leave; rw [if_neg h, if_neg hl]
end
theorem hit_cases {X : EX} {by_ : Option Nat} {bv : Value} {k : Ky} (h : ByV X by_ bv) : frIdx (X.fs.map FM.f) k = none ∨ (∃ i x, by_ = some i ∧ bv = PtV x.ptr ∧ X.fs[i]? = some x ∧ frIdx (X.fs.map FM.f) k = some i) ∨ ∃ i bi x y, bi ≠ i ∧ by_ = some bi ∧ bv = PtV x.ptr ∧ X.fs[bi]? = some x ∧ X.fs[i]? = some y ∧ frIdx (X.fs.map FM.f) k = some i := by
  cases hx : frIdx (X.fs.map FM.f) k with
  | none => exact .inl rfl
  | some i =>
    right
    obtain ⟨f, hf, _⟩ := frIdx_some hx
    rw [List.getElem?_map] at hf
    obtain ⟨y, hy, _⟩ := Option.map_eq_some_iff.1 hf
    rcases h with ⟨_, _, h0⟩ | ⟨b, x, h1, h2, h3⟩
    · rw [h0] at hy; simp at hy
    · by_cases e : b = i
      · subst e; exact .inl ⟨b, x, h1, h3, h2, rfl⟩
      · exact .inr ⟨i, b, x, y, e, h1, h3, h2, hy, rfl⟩
theorem at_push {fs : List FM} {k : Ky} {x : FM} (h : frIdx (fs.map FM.f) k = none) (hx : x.f.key = k) : kvSet (atC 0 fs) k (I ((fs.length : Nat) : Int)) = atC 0 (fs ++ [x]) := by
  rw [atC_append, kvSet_new]
  · rw [Nat.zero_add, atC, atC, hx]
  · intro p hp e
    have h1 : p.1 ∈ (atC 0 fs).map Prod.fst := List.mem_map_of_mem (f := Prod.fst) hp
    rw [atC_keys, e] at h1
    obtain ⟨y, hy, hye⟩ := List.mem_map.1 h1
    exact frIdx_none h y.f (List.mem_map_of_mem (f := FM.f) hy) hye
def newF (b : Nat) (k : Ky) (n : Nat) : FM := ⟨b, ⟨k, n, false, nilA, []⟩, none, 0⟩
theorem push_en {X : EX} {b : Nat} {k : Ky} : ({ X with fs := X.fs ++ [newF b k X.fs.length] } : EX).en = push X.en k := by
  show (⟨X.inp, _, X.comp, X.gets, X.fuel, X.out, (X.fs ++ [_]).map FM.f⟩ : En) = _
  rw [List.map_append]
  unfold push
  rw [en_len]; rfl
theorem okOf_1 {X : EX} {k : Ky} {q : QM} (h : aGet X.qs k = some q) (ho : q.q.ok = true) : okOf X.en.qs k = some q.q := by
  unfold okOf
  rw [show X.en.qs = X.qs.map (fun p => (p.1, p.2.q)) from rfl, aGet_map (fun p : QM => p.q), h]
  exact if_pos ho
theorem okOf_2 {X : EX} {k : Ky} {q : QM} (h : aGet X.qs k = some q) (ho : ¬ q.q.ok = true) : okOf X.en.qs k = none := by
  unfold okOf
  rw [show X.en.qs = X.qs.map (fun p => (p.1, p.2.q)) from rfl, aGet_map (fun p : QM => p.q), h]
  exact if_neg ho
theorem okOf_3 {X : EX} {k : Ky} (h : aGet X.qs k = none) : okOf X.en.qs k = none := by
  unfold okOf
  rw [show X.en.qs = X.qs.map (fun p => (p.1, p.2.q)) from rfl, aGet_map (fun p : QM => p.q), h]; rfl
theorem en_qs {X : EX} {k : Ky} {o : Option QM} (h : aGet X.qs k = o) : aGet X.en.qs k = o.map fun x => x.q := by
  rw [show X.en.qs = X.qs.map (fun p => (p.1, p.2.q)) from rfl, aGet_map (fun p : QM => p.q), h]
def useQ (X : EX) (q : QM) : QM := ⟨q.ptr, { q.q with used := X.gets }, q.oa, q.ca⟩
theorem touch_en {X : EX} {k : Ky} {q : QM} : ({ X with qs := aSet X.qs k (useQ X q) } : EX).en = touch X.en k q.q := by
  show (⟨X.inp, (aSet X.qs k (useQ X q)).map (fun p => (p.1, p.2.q)), X.comp, X.gets, X.fuel, X.out, X.fs.map FM.f⟩ : En) = _
  rw [aSet_map (fun p : QM => p.q)]; rfl
theorem qsC_same {qs : List (Ky × QM)} {k : Ky} {q v : QM} (h : aGet qs k = some q) (hp : v.ptr = q.ptr) : qsC qs = qsC (aSet qs k v) := by
  obtain ⟨j, h1, h2⟩ := aGet_at h
  rw [h2 v]
  unfold qsC
  rw [List.map_set]
  refine List.ext_getElem? fun i => ?_
  rw [List.getElem?_set]
  split
  · rename_i e; subst e
    have hl := (List.getElem?_eq_some_iff.1 h1).1
    rw [if_pos (by rw [List.length_map]; exact hl), List.getElem?_map, h1, hp]; rfl
  · rfl
def hitF (i : Nat) (lo : Nat) (me : Bool) (f : Fr) : Fr := { f with low := min (min f.low lo) i, self := f.self || me }
theorem hit_en {X : EX} {b i : Nat} {y : FM} (hy : X.fs[i]? = some y) : ({ X with fs := upd X.fs b (FM.up (hitF i y.f.low (decide (i = b)))) } : EX).en = hit X.en (some b) i := by
  show (⟨X.inp, _, X.comp, X.gets, X.fuel, X.out, (upd X.fs b (FM.up _)).map FM.f⟩ : En) = _
  rw [up_map]
  unfold hit
  simp only
  rw [en_at hy]; rfl
def lowF (m : Nat) (f : Fr) : Fr := { f with low := min f.low m }
theorem bump_en {X : EX} {b m : Nat} : ({ X with fs := upd X.fs b (FM.up (lowF m)) } : EX).en = bump X.en (some b) m := by
  show (⟨X.inp, _, X.comp, X.gets, X.fuel, X.out, (upd X.fs b (FM.up _)).map FM.f⟩ : En) = _
  rw [up_map]; rfl
def takeF (q : QM) (y : FM) : FM := ⟨y.ptr, { y.f with own := q.q.own, tr := q.q.tr }, q.oa, q.ca⟩
theorem setFr_en {X : EX} {b : Nat} {q : QM} : ({ X with fs := upd X.fs b (takeF q) } : EX).en = setFr X.en b q.q.own q.q.tr := by
  show (⟨X.inp, _, X.comp, X.gets, X.fuel, X.out, (upd X.fs b (takeF q)).map FM.f⟩ : En) = _
  rw [upd_map_com FM.f (takeF q) (fun f => { f with own := q.q.own, tr := q.q.tr }) (fun _ => rfl)]; rfl
theorem FF.take {fs : List FM} {own : Nat} {q : QM} {w : World} {K : List Nat} (ht : ArrAt w K q.oa (trC q.q.tr)) (h : (FF (own + 1) fs).p w K) : (FF own (upd fs own (takeF q))).p w K := fun i z hi hz => by
  rw [upd_get] at hz
  by_cases e : own = i
  · subst e
    rw [if_pos rfl] at hz
    obtain ⟨y, hy, rfl⟩ := Option.map_eq_some_iff.1 hz
    exact ht
  · rw [if_neg e] at hz; exact h i z (by omega) hz
theorem Kp.set {X : EX} {k : Ky} {v : QM} (h : frIdx (X.fs.map FM.f) k = none) : Kp X { X with qs := aSet X.qs k v } := ⟨fun i x hx => ⟨x, hx, rfl, rfl, rfl, rfl, rfl⟩, fun i x hx => by
  show aGet (aSet X.qs k v) _ = _
  rw [aGet_set, if_neg]
  intro e
  exact frIdx_none h x.f (List.mem_map_of_mem (f := FM.f) (List.mem_of_getElem? hx)) e.symm⟩
theorem Kp.settle {X Z Y : EX} (h : Kp X Z) (hl : Y.fs = Z.fs.take X.fs.length) (hn : (Z.fs.map fun x => x.f.key).Nodup) (hq : ∀ k', (∀ (i : Nat) x, X.fs.length ≤ i → Z.fs[i]? = some x → x.f.key ≠ k') → aGet Y.qs k' = aGet Z.qs k') : Kp X Y := ⟨fun i x hx => by
  have hi := (List.getElem?_eq_some_iff.1 hx).1
  obtain ⟨y, a1, a2⟩ := h.kp i x hx
  exact ⟨y, by rw [hl, List.getElem?_take, if_pos hi]; exact a1, a2⟩, fun i x hx => by
  have hi := (List.getElem?_eq_some_iff.1 hx).1
  obtain ⟨y, a1, a2, a3, a4, a5, a6⟩ := h.kp i x hx
  rw [← h.qk i x hx]
  refine hq _ fun j z hj hz e => ?_
  have b1 : (Z.fs.map fun x => x.f.key)[j]? = some x.f.key := by rw [List.getElem?_map, hz]; exact congrArg some e
  have b2 : (Z.fs.map fun x => x.f.key)[i]? = some x.f.key := by rw [List.getElem?_map, a1]; exact congrArg some a6
  have := (List.getElem?_inj (List.getElem?_eq_some_iff.1 b1).1 hn).1 (b1.trans b2.symm)
  omega⟩
theorem wk_nd {U : List Ky} {X : EX} (h : Wk U X.en) : (X.fs.map fun x => x.f.key).Nodup := by
  have := h.nd
  rwa [show X.en.st.map Fr.key = X.fs.map (fun x => x.f.key) from by show (X.fs.map FM.f).map Fr.key = _; rw [List.map_map]; rfl] at this
end Go.GL

namespace Go.Proofs.Ythefimaaeilefaa
open Go.GL
set_option linter.unusedVariables false
theorem wg_bs62_1_0 (x0 : Option Addr) : BuildSV Try.prog 62 88 1 [(0, .pointer x0)] [.pointer x0] := fun w => by kernel_rfl
theorem wg_bv71_0 (x0 : List UInt8) : BuildV Try.prog 71 [(0, S x0)] (.agg #[S x0, .int .i64 0]) := fun w => by kernel_rfl
theorem wg_bv71_1 (x1 : Int) : BuildV Try.prog 71 [(1, .int .i64 x1)] (.agg #[S [], .int .i64 x1]) := fun w => by kernel_rfl
theorem wg_bv91_0_1 (x0 : List UInt8) (x1 : Int) : BuildV Try.prog 91 [(0, S x0), (1, .int .i64 x1)] (.agg #[S x0, .int .i64 x1, .bool false, S [], .int .i64 0, .slice none 0 0, .bool false, .bool false, .int .i64 0]) := fun w => by kernel_rfl
theorem wg_ni62 : noInt Try.prog 62 = true := by kernel_rfl
theorem wg_ta71 : tyAgg Try.prog 71 2 = true := by kernel_rfl
theorem wg_te88 : tyElem Try.prog 88 1 8 = true := by kernel_rfl
theorem wg_tf65_2 : fieldOff Try.prog 65 2 2 = true := by kernel_rfl
theorem wg_tf65_3 : fieldOff Try.prog 65 3 3 = true := by kernel_rfl
theorem wg_tf65_5 : fieldOff Try.prog 65 5 5 = true := by kernel_rfl
theorem wg_tf65_7 : fieldOff Try.prog 65 7 7 = true := by kernel_rfl
theorem wg_tf65_8 : fieldOff Try.prog 65 8 8 = true := by kernel_rfl
theorem wg_tf65_9 : fieldOff Try.prog 65 9 9 = true := by kernel_rfl
theorem wg_tf87_0 : fieldOff Try.prog 87 0 0 = true := by kernel_rfl
theorem wg_tf87_1 : fieldOff Try.prog 87 1 2 = true := by kernel_rfl
theorem wg_tf87_3 : fieldOff Try.prog 87 3 4 = true := by kernel_rfl
theorem wg_tf87_4 : fieldOff Try.prog 87 4 5 = true := by kernel_rfl
theorem wg_tf91_1 : fieldOff Try.prog 91 1 1 = true := by kernel_rfl
theorem wg_tf91_2 : fieldOff Try.prog 91 2 2 = true := by kernel_rfl
theorem wg_tf91_3 : fieldOff Try.prog 91 3 3 = true := by kernel_rfl
theorem wg_tl62 : tySlice Try.prog 62 88 = true := by kernel_rfl
theorem wg_tm60 : tyMap Try.prog 60 9 9 = true := by kernel_rfl
theorem wg_tm61 : tyMap Try.prog 61 9 81 = true := by kernel_rfl
theorem wg_tm63 : tyMap Try.prog 63 9 3 = true := by kernel_rfl
theorem wg_tp81 : tyPtr Try.prog 81 87 = true := by kernel_rfl
theorem wg_tp88 : tyPtr Try.prog 88 91 = true := by kernel_rfl
theorem wg_ts3 : tyScalar Try.prog 3 = true := by kernel_rfl
theorem wg_ts4 : tyScalar Try.prog 4 = true := by kernel_rfl
theorem wg_ts60 : tyScalar Try.prog 60 = true := by kernel_rfl
theorem wg_ts61 : tyScalar Try.prog 61 = true := by kernel_rfl
theorem wg_ts62 : tyScalar Try.prog 62 = true := by kernel_rfl
theorem wg_ts63 : tyScalar Try.prog 63 = true := by kernel_rfl
theorem wg_ts85 : tyScalar Try.prog 85 = true := by kernel_rfl
theorem wg_ts88 : tyScalar Try.prog 88 = true := by kernel_rfl
theorem wg_tz3 : tySize Try.prog 3 1 = true := by kernel_rfl
theorem wg_tz4 : tySize Try.prog 4 1 = true := by kernel_rfl
theorem wg_tz71 : tySize Try.prog 71 2 = true := by kernel_rfl
theorem wg_tz85 : tySize Try.prog 85 1 = true := by kernel_rfl
theorem wg_tz88 : tySize Try.prog 88 1 = true := by kernel_rfl
theorem wg_tz91 : tySize Try.prog 91 9 = true := by kernel_rfl
theorem compute_spec2 {b : Nat} {bud : Int} {X : EX} {M : List HP} {F : List Fact} {x : FM} {own fp : Nat} {k : Ky} {rule : Ky → Ru} {U : List Ky} {d : Nat} (hU : ∀ k, k ∈ U → KO k ∧ k.length ≤ 100) (hUl : U.length ≤ 1000) (hr : ∀ k, k ∈ U → RuK U k (rule k)) (V : Fnv Try.prog U rule) (hob : ObC b bud V.val rule U d) (hX : XOk rule U d X) (hk : k ∈ U) (hx : X.fs[own]? = some x) (hxp : x.ptr = fp) (hxk : x.f.key = k) (hxt : x.f.tr = []) (hxo : x.oa = none) (hxc : x.ca = 0) (hQ : QF X.qs ∈ F) (hFF : FF (own + 1) X.fs ∈ F) :
    Ctr Try.prog 42 [PtV b, PtV fp] (EngB b bud V.val X :: M) F {Y : EX // Y.en = compG (fun k b e => obt rule d k (some b) e) (rule k) k own X.en ∧ KpB own X Y ∧ ∃ y, Y.fs[own]? = some y ∧ y.ptr = fp} (fun _ => .tuple #[]) (fun Y => EngB b bud V.val Y.1 :: M) (fun Y => QF Y.1.qs :: FF own Y.1.fs :: F) := by
  subst hxp
  exact compute_spec hU hUl hr V hob hX hk hx hxk hxt hxo hxc hQ hFF
theorem min_cast3 (a b c : Nat) : ((min (min a b) c : Nat) : Int) = min (min (a : Int) (b : Int)) (c : Int) := by omega
theorem min_cast2 (a b : Nat) : ((min a b : Nat) : Int) = min (a : Int) (b : Int) := by omega
theorem FF.up2 {fs : List FM} {n b : Nat} {f : FM → FM} {w : World} {K : List Nat} (hb : b < n) (h : (FF n fs).p w K) : (FF n (upd fs b f)).p w K := fun i x hi hx => by
  rw [upd_get, if_neg (by omega)] at hx
  exact h i x hi hx
set_option maxRecDepth 8000 in
set_option maxHeartbeats 2000000 in
theorem obtain_step {b : Nat} {bud : Int} {X : EX} {M : List HP} {F : List Fact} {k : Ky} {by_ : Option Nat} {bv : Value} {rule : Ky → Ru} {U : List Ky} {d : Nat} (hU : ∀ k, k ∈ U → KO k ∧ k.length ≤ 100) (hUl : U.length ≤ 1000) (hr : ∀ k, k ∈ U → RuK U k (rule k)) (V : Fnv Try.prog U rule) (hob : ObC b bud V.val rule U d) (hX : XOk rule U (d + 1) X) (hk : k ∈ U) (hby : ByV X by_ bv) (hQ : QF X.qs ∈ F) : Ctr Try.prog 31 [PtV b, S k, bv] (EngB b bud V.val X :: M) F {Y : EX // Y.en = (obt rule (d + 1) k by_ X.en).2 ∧ Kp X Y} (fun _ => anV (obt rule (d + 1) k by_ X.en).1) (fun Y => EngB b bud V.val Y.1 :: M) (fun Y => QF Y.1.qs :: FF X.fs.length Y.1.fs :: F) := by
  refine Ctr.body Try.func31 rfl rfl ?_
  refine TR.seq ?_
  refine TR.region ?_
  refine RL.allocA rfl (Try.zeroValue71) rfl (fun b1 => ?_)
  refine RL.nil ?_
  refine NX.seq ?_
  refine TR.seq ?_
  refine TR.seq ?_
  refine TR.pick 2 [1, 0] rfl ?_
  refine TR.open (fun w hw => (St.exOpen (show St w (Ex _ :: _) _ from hw))) (fun ic => ?_)
  have hfl := hX.wk.len
  rw [en_len] at hfl
  refine TR.region ?_
  refine RL.move rfl rfl rfl ?_
  refine RL.nilCheck rfl rfl rfl ?_
  refine RL.fieldAddr rfl wg_tf65_7 rfl rfl ?_
  refine RL.load1 0 rfl wg_ts4 rfl rfl rfl rfl ?_
  refine RL.nil ?_
  refine NX.seq ?_
  refine TR.cond rfl (fun h2 => ?_) (fun h2 => ?_)
  · skip
    have h17 : X.en.out = true := h2
    refine TR.seq ?_
    refine TR.region ?_
    refine RL.build rfl rfl (wg_bv71_1 _) rfl ?_
    refine RL.storeA 8 rfl rfl rfl rfl wg_tz71 rfl rfl ?_
    refine RL.nil ?_
    refine NX.seq ?_
    refine TR.ret ?_
    refine NX.retThen ?_
    have hlaw := ob_out (rule := rule) (d := d) (k := k) (by_ := by_) (e := X.en) h17
    refine NX.retC (j := 8) (⟨X, by rw [hlaw] <;> exact rfl, Kp.refl X⟩ : {Y : EX // Y.en = (obt rule (d + 1) k by_ X.en).2 ∧ Kp X Y}) rfl rfl rfl wg_ta71 (by rw [hlaw] <;> rfl) (fun w hw => ?_)
    exact ((St.engClose (X) ic rfl rfl rfl rfl rfl rfl rfl rfl rfl rfl (hw.to 9 [0, 1, 2, 3, 4, 5, 6, 7] 0 [] rfl)).derive (ψ := FF X.fs.length (X).fs) (fun K hf => FF.none (Nat.le_refl _))).derive (ψ := QF (X).qs) (fun K hf => hf (QF X.qs) (.tail _ hQ))
  · skip
    have ho : ¬ X.en.out = true := by show ¬ X.out = true; rw [h2]; decide
    refine TR.skip ?_
    refine NX.seq ?_
    refine TR.seq ?_
    refine TR.seq ?_
    refine TR.region ?_
    refine RL.move rfl rfl rfl ?_
    refine RL.nilCheck rfl rfl rfl ?_
    refine RL.fieldAddr rfl wg_tf65_2 rfl rfl ?_
    refine RL.load1 0 rfl wg_ts60 rfl rfl rfl rfl ?_
    refine RL.move rfl rfl rfl ?_
    rcases hin : aGet X.inp k with _ | sv
    · skip
      refine RL.val rfl rfl rfl (PV.cast (by rw [inC_get, hin] <;> rfl) (PV.lookupC 1 wg_tm60 rfl rfl (hU k hk).1 rfl Try.zeroValue9)).2 ?_
      refine RL.move rfl rfl rfl ?_
      refine RL.extract rfl rfl rfl rfl ?_
      refine RL.extract rfl rfl rfl rfl ?_
      refine RL.assign rfl rfl rfl ?_
      refine RL.assign rfl rfl rfl ?_
      refine RL.nil ?_
      refine NX.seq ?_
      refine TR.seq ?_
      refine TR.region ?_
      refine RL.move rfl rfl rfl ?_
      refine RL.nil ?_
      refine NX.seq ?_
      refine TR.condF rfl ?_
      refine TR.skip ?_
      refine NX.seq ?_
      refine TR.seq ?_
      refine TR.seq ?_
      refine TR.region ?_
      refine RL.move rfl rfl rfl ?_
      refine RL.nilCheck rfl rfl rfl ?_
      refine RL.fieldAddr rfl wg_tf65_9 rfl rfl ?_
      refine RL.load1 0 rfl wg_ts63 rfl rfl rfl rfl ?_
      refine RL.move rfl rfl rfl ?_
      rcases hit_cases (k := k) hby with hat | ⟨i, x, rfl, rfl, hx, hat⟩ | ⟨i, bi, x, y, hbi, rfl, rfl, hx, hy, hat⟩
      · skip
        refine RL.val rfl rfl rfl (PV.cast (by rw [atC_get, hat] <;> rfl) (PV.lookupC 3 wg_tm63 rfl rfl (hU k hk).1 rfl Try.zeroValue3)).2 ?_
        refine RL.move rfl rfl rfl ?_
        refine RL.extract rfl rfl rfl rfl ?_
        refine RL.extract rfl rfl rfl rfl ?_
        refine RL.assign rfl rfl rfl ?_
        refine RL.assign rfl rfl rfl ?_
        refine RL.nil ?_
        refine NX.seq ?_
        refine TR.seq ?_
        refine TR.region ?_
        refine RL.move rfl rfl rfl ?_
        refine RL.nil ?_
        refine NX.seq ?_
        refine TR.condF rfl ?_
        refine TR.skip ?_
        refine NX.seq ?_
        refine TR.seq ?_
        refine TR.region ?_
        refine RL.move rfl rfl rfl ?_
        refine RL.nilCheck rfl rfl rfl ?_
        refine RL.fieldAddr rfl wg_tf65_3 rfl rfl ?_
        refine RL.load1 0 rfl wg_ts61 rfl rfl rfl rfl ?_
        refine RL.move rfl rfl rfl ?_
        rcases hqs : aGet X.qs k with _ | q
        · skip
          refine RL.val rfl rfl rfl (PV.cast (by rw [qsC_get, hqs] <;> rfl) (PV.lookup 2 wg_tm61 rfl rfl (hU k hk).1 rfl Try.zeroValue81)).2 ?_
          refine RL.assign rfl rfl rfl ?_
          refine RL.nil ?_
          refine NX.seq ?_
          refine TR.seq ?_
          refine TR.seq ?_
          refine TR.region ?_
          refine RL.move rfl rfl rfl ?_
          refine RL.bin rfl rfl rfl (BinV.neqPtrNil wg_tp81) rfl ?_
          refine RL.move rfl rfl rfl ?_
          refine RL.skip rfl rfl rfl ?_
          refine RL.skip rfl rfl rfl ?_
          refine RL.skip rfl rfl rfl ?_
          refine RL.skip rfl rfl rfl ?_
          refine RL.pickF rfl rfl rfl rfl ?_
          refine RL.nil ?_
          refine NX.seq ?_
          refine TR.condF rfl ?_
          refine TR.skip ?_
          refine NX.seq ?_
          refine TR.seq ?_
          have hno : okOf X.en.qs k = none := okOf_3 hqs
          refine TR.region ?_
          refine RL.move rfl rfl rfl ?_
          refine RL.nilCheck rfl rfl rfl ?_
          refine RL.fieldAddr rfl wg_tf65_8 rfl rfl ?_
          refine RL.load1 0 rfl wg_ts62 rfl rfl rfl rfl ?_
          refine RL.lenSlice rfl wg_tl62 rfl rfl ?_
          refine RL.assign rfl rfl rfl ?_
          refine RL.nil ?_
          refine NX.seq ?_
          refine TR.seq ?_
          refine TR.region ?_
          refine RL.move rfl rfl rfl ?_
          refine RL.move rfl rfl rfl ?_
          refine RL.build rfl rfl (wg_bv91_0_1 _ _) rfl ?_
          refine RL.boxA rfl rfl rfl (fun b3 => ?_)
          refine RL.assign rfl rfl rfl ?_
          refine RL.nil ?_
          refine NX.seq ?_
          refine TR.seq ?_
          refine TR.region ?_
          refine RL.move rfl rfl rfl ?_
          refine RL.move rfl rfl rfl ?_
          refine RL.nilCheck rfl rfl rfl ?_
          refine RL.fieldAddr rfl wg_tf65_8 rfl rfl ?_
          refine RL.load1 1 rfl wg_ts62 rfl rfl rfl rfl ?_
          refine RL.move rfl rfl rfl ?_
          refine RL.buildSlice rfl rfl (wg_bs62_1_0 _) rfl (fun b4 => ?_)
          refine RL.ofGV rfl rfl (GV.append (j := 7) wg_tl62 wg_ni62 wg_te88 rfl rfl rfl (src_box (i := 0) rfl rfl rfl) (by omega) (by omega)) (fun ys => ?_)
          refine RL.nilCheck rfl rfl rfl ?_
          refine RL.fieldAddr rfl wg_tf65_8 rfl rfl ?_
          refine RL.store1 2 rfl wg_ts62 rfl rfl rfl rfl rfl ?_
          refine RL.nil ?_
          refine NX.seq ?_
          refine TR.seq ?_
          refine TR.region ?_
          refine RL.move rfl rfl rfl ?_
          refine RL.nilCheck rfl rfl rfl ?_
          refine RL.fieldAddr rfl wg_tf65_9 rfl rfl ?_
          refine RL.load1 2 rfl wg_ts63 rfl rfl rfl rfl ?_
          refine RL.move rfl rfl rfl ?_
          refine RL.move rfl rfl rfl ?_
          refine RL.ofEV rfl rfl (EV.mapUpdate 5 wg_tm63 rfl rfl rfl (hU k hk).1 rfl) ?_
          refine RL.weak (M' := EngB b bud V.val ({ X with fs := X.fs ++ [newF b3 k X.fs.length] } : EX) :: Box b1 71 [S [], I 0] :: M) (F' := F) (fun w hw => ?_) ?_
          · have h1 := St.alSnoc (show St w (fB (newF b3 k X.fs.length) :: Al (X.fs.map fB) :: _) F from hw.toM 11 [1, 8, 2, 3, 4, 5, 6, 7, 9, 10] rfl)
            refine St.engClose ({ X with fs := X.fs ++ [newF b3 k X.fs.length] } : EX) (⟨ic.ib, ic.qb, ic.ab, ic.co, ic.cc, ys.1, ys.2⟩ : EH) (show _ = [I bud, V.val, .map (some ic.ib), .map (some ic.qb), .slice ic.co X.comp.length ic.cc, I X.gets, I (X.fuel : Nat), .bool X.out, .slice ys.1 ({ X with fs := X.fs ++ [newF b3 k X.fs.length] } : EX).fs.length ys.2, .map (some ic.ab)] from by rw [show ({ X with fs := X.fs ++ [newF b3 k X.fs.length] } : EX).fs.length = X.fs.length + 1 from List.length_append] <;> rfl) rfl rfl (at_push hat rfl) rfl rfl (show _ = ({ X with fs := X.fs ++ [newF b3 k X.fs.length] } : EX).fs.length from List.length_append.symm) (by show _ = stC (X.fs ++ [_]); unfold stC; rw [List.map_append]; rfl) (by show _ = (X.fs ++ [_]).map fB; rw [List.map_append]; rfl) rfl (show St w (_ :: _ :: _ :: _ :: _ :: _ :: _ :: _ :: Box b1 71 [S [], I 0] :: M) F from h1.toM 9 [1, 2, 3, 4, 5, 6, 0, 7, 8] rfl)
          have hX1 : XOk rule U d ({ X with fs := X.fs ++ [newF b3 k X.fs.length] } : EX) := ⟨by rw [push_en]; exact push_wk hX.wk hk hat, by show U.length + 1 ≤ (X.fs ++ [_]).length + d; rw [List.length_append]; have := hX.dep; simp only [List.length_cons, List.length_nil]; omega, hX.su⟩
          have hn1 : ({ X with fs := X.fs ++ [newF b3 k X.fs.length] } : EX).fs[X.fs.length]? = some (newF b3 k X.fs.length) := by show (X.fs ++ [_])[X.fs.length]? = _; rw [List.getElem?_append_right (Nat.le_refl _), Nat.sub_self]; rfl
          have hlp : ({ X with fs := X.fs ++ [newF b3 k X.fs.length] } : EX).fs.length = X.fs.length + 1 := List.length_append
          refine RL.weak (fun w hw => hw.derive (ψ := FF (X.fs.length + 1) ({ X with fs := X.fs ++ [newF b3 k X.fs.length] } : EX).fs) (fun K hf => FF.none (by rw [hlp]; exact Nat.le_refl _))) ?_
          refine RL.nil ?_
          refine NX.seq ?_
          refine TR.cut (ι := {Z : EX // Z.en = visit (fun k b e => obt rule d k (some b) e) (rule k) k X.en ∧ Kp X Z ∧ ∃ z, Z.fs[X.fs.length]? = some z ∧ z.ptr = b3}) (fun _ => [(0, PtV b), (1, S k), (2, bv), (6, PtV b1), (12, I ((X.fs.length : Nat) : Int)), (13, PtV b3)]) (fun Z => EngB b bud V.val Z.1 :: Box b1 71 [S [], I 0] :: M) (fun Z => QF Z.1.qs :: FF X.fs.length Z.1.fs :: F) ?_ (fun ⟨Z, hZe, hZk, z, hz, hzp⟩ => ?_)
          · skip
            refine TR.seq ?_
            refine TR.region ?_
            refine RL.move rfl rfl rfl ?_
            refine RL.bin rfl rfl rfl (BinV.neqPtrNil wg_tp81) rfl ?_
            refine RL.move rfl rfl rfl ?_
            refine RL.skip rfl rfl rfl ?_
            refine RL.skip rfl rfl rfl ?_
            refine RL.skip rfl rfl rfl ?_
            refine RL.skip rfl rfl rfl ?_
            refine RL.pickF rfl rfl rfl rfl ?_
            refine RL.nil ?_
            refine NX.seq ?_
            refine TR.condF rfl ?_
            refine TR.region ?_
            refine RL.move rfl rfl rfl ?_
            refine RL.move rfl rfl rfl ?_
            refine RL.call rfl rfl Try.call42 rfl (compute_spec (X := ({ X with fs := X.fs ++ [newF b3 k X.fs.length] } : EX)) (x := (newF b3 k X.fs.length)) (own := X.fs.length) hU hUl hr V hob hX1 hk hn1 rfl rfl rfl rfl (.tail _ hQ) (.head _)) (fun Z => ?_)
            obtain ⟨Z, hZe0, hZb, hZp⟩ := Z
            dsimp only
            refine RL.nil ?_
            have hZv : Z.en = visit (fun k b e => obt rule d k (some b) e) (rule k) k X.en := (hZe0.trans (by rw [push_en]; exact ((visit_new (en_qs hqs)).trans (by rw [en_len])).symm))
            have hZk : Kp X Z := KpB.kp0 (X' := ({ X with fs := X.fs ++ [newF b3 k X.fs.length] } : EX)) (x := (newF b3 k X.fs.length)) hZb rfl rfl
            refine NX.meet (⟨Z, hZv, hZk, hZp⟩ : {Z : EX // Z.en = visit (fun k b e => obt rule d k (some b) e) (rule k) k X.en ∧ Kp X Z ∧ ∃ z, Z.fs[X.fs.length]? = some z ∧ z.ptr = b3}) ⟨rfl, rfl, rfl, rfl, rfl, rfl, trivial⟩ (fun w hw => (hw.to 2 [0, 1] 3 [0, 1] rfl))
          dsimp only
          have hvw := visit_wk (obt_wob hr d) (hr k hk) hk hat hX.wk
          rw [← hZe] at hvw
          have hZo : XOk rule U d Z := by
            have h1 : XOk rule U d ({ X with fs := X.fs ++ [newF b3 k X.fs.length] } : EX) := hX1
            exact h1.kr (i := X.en.st.length) hvw.1 (by rw [push_en]; exact hvw.2)
          have hzl : X.fs.length < Z.fs.length := (List.getElem?_eq_some_iff.1 hz).1
          have hzbx : (Z.fs.map fB)[X.fs.length]? = some (Box b3 91 z.cs) := by rw [← hzp]; exact fb_at hz
          refine TR.seq ?_
          refine TR.seq ?_
          refine TR.open (fun w hw => (St.exOpen (show St w (Ex _ :: _) _ from hw))) (fun ic => ?_)
          refine TR.region ?_
          refine RL.move rfl rfl rfl ?_
          refine RL.nilCheck rfl rfl rfl ?_
          refine RL.fieldAddr rfl wg_tf65_7 rfl rfl ?_
          refine RL.load1 0 rfl wg_ts4 rfl rfl rfl rfl ?_
          refine RL.nil ?_
          refine NX.seq ?_
          refine TR.cond rfl (fun h6 => ?_) (fun h6 => ?_)
          · skip
            have h157 : Z.en.out = true := h6
            refine TR.seq ?_
            refine TR.region ?_
            refine RL.build rfl rfl (wg_bv71_1 _) rfl ?_
            refine RL.storeA 8 rfl rfl rfl rfl wg_tz71 rfl rfl ?_
            refine RL.nil ?_
            refine NX.seq ?_
            refine TR.ret ?_
            refine NX.retThen ?_
            have hlaw : obt rule (d + 1) k by_ X.en = (fuelA, Z.en) := (ob_go (rule := rule) (d := d) (k := k) (by_ := by_) (e := X.en) ho hin hat hno).trans (by rw [← hZe, en_len]; exact leave_out (by_ := by_) (own := X.fs.length) h157)
            refine NX.retC (j := 8) (⟨Z, by rw [hlaw], hZk⟩ : {Y : EX // Y.en = (obt rule (d + 1) k by_ X.en).2 ∧ Kp X Y}) rfl rfl rfl wg_ta71 (by rw [hlaw] <;> rfl) (fun w hw => St.engClose (Z) ic rfl rfl rfl rfl rfl rfl rfl rfl rfl rfl (hw.to 9 [0, 1, 2, 3, 4, 5, 6, 7] 2 [0, 1] rfl))
          · skip
            have h157 : ¬ Z.en.out = true := by show ¬ Z.out = true; rw [h6]; decide
            refine TR.skip ?_
            refine NX.seq ?_
            refine TR.seq ?_
            refine TR.seq ?_
            refine TR.region ?_
            refine RL.move rfl rfl rfl ?_
            refine RL.nilCheck rfl rfl rfl ?_
            refine RL.fieldAddr rfl wg_tf91_1 rfl rfl ?_
            refine RL.loadS rfl rfl (al_one (i := 6) (j := X.fs.length) rfl hzbx wg_ts3 rfl) rfl ?_
            refine RL.move rfl rfl rfl ?_
            refine RL.bin rfl rfl rfl BinV.lss rfl ?_
            refine RL.nil ?_
            refine NX.seq ?_
            refine TR.cond rfl (fun h7 => ?_) (fun h7 => ?_)
            · skip
              have hlow : z.f.low < X.fs.length := by have := of_decide_eq_true h7; omega
              refine TR.seq ?_
              obtain ⟨bi, x, hbe, hx, hbv⟩ : ∃ bi x, by_ = some bi ∧ X.fs[bi]? = some x ∧ bv = PtV x.ptr := hby.elim (fun h => by rw [h.2.2] at hlow; simp at hlow) id
              subst hbe
              subst hbv
              obtain ⟨zb, hzb, hzbp, _⟩ := hZk.kp bi x hx
              have hbil : bi < X.fs.length := (List.getElem?_eq_some_iff.1 hx).1
              have hzbb : (Z.fs.map fB)[bi]? = some (Box x.ptr 91 zb.cs) := by rw [← hzbp]; exact fb_at hzb
              refine TR.sub (E' := [(0, _), (2, _), (6, _), (12, _), (13, _)]) ⟨rfl, rfl, rfl, rfl, rfl, trivial⟩ ?_
              refine TR.draw mixed ?_
              apply AR.more [(0, _), (1, _), (2, _), (3, _), (4, _), (5, _), (6, _), (7, _), (8, _), (9, _), (10, _), (11, _)]
              refine AR.eff [0, 1, 2, 3, 4, 5, 6, 7, 8, 9, 10, 11] 12 [0, 1, 2, 3, 4, 5, 6, 7, 8, 9, 10, 11, 12] ⟨QOne.yes rfl rfl rfl (PV.move rfl), QOne.yes rfl rfl rfl (PV.move rfl), QOne.yes rfl rfl rfl (PV.nilCheck rfl), QOne.yes rfl rfl rfl (PV.fieldAddr wg_tf91_1 rfl), QOne.yes rfl rfl rfl (PV.loadS rfl (al_one (i := 6) (j := bi) rfl hzbb wg_ts3 rfl)), QOne.yes rfl rfl rfl (PV.move rfl), QOne.yes rfl rfl rfl (PV.nilCheck rfl), QOne.yes rfl rfl rfl (PV.fieldAddr wg_tf91_1 rfl), QOne.yes rfl rfl rfl (PV.loadS rfl (al_one (i := 6) (j := X.fs.length) rfl hzbx wg_ts3 rfl)), QOne.yes rfl rfl rfl (PV.min rfl rfl), QOne.yes rfl rfl rfl (PV.nilCheck rfl), QOne.yes rfl rfl rfl (PV.fieldAddr wg_tf91_1 rfl), trivial⟩ rfl rfl rfl rfl rfl rfl rfl (EV.storeAl (vs := [_]) 6 (bi) rfl rfl rfl hzbb wg_tz3 rfl (Nat.le_of_ble_eq_true rfl) rfl) (fun _ => ?_)
              refine AR.done [11, 9, 0, 1, 2, 3, 4, 5, 6, 7, 8, 10] rfl ?_
              refine AR.last [] [0, 1, 2, 3, 4, 5, 6, 7, 8, 9, 10, 11, 12] trivial rfl rfl rfl ?_
              refine NX.sub (E' := [(0, _), (6, _), (12, _)]) ⟨rfl, rfl, rfl, trivial⟩ ?_
              refine NX.seq ?_
              refine TR.seq ?_
              refine TR.region ?_
              refine RL.build rfl rfl (wg_bv71_1 _) rfl ?_
              refine RL.storeA 8 rfl rfl rfl rfl wg_tz71 rfl rfl ?_
              refine RL.nil ?_
              refine NX.seq ?_
              refine TR.ret ?_
              refine NX.retThen ?_
              have hlv := leave_cyc (by_ := some bi) (own := X.fs.length) h157 (by rw [lowOf_is (en_at hz)]; exact hlow)
              rw [lowOf_is (en_at hz)] at hlv
              have hlaw : obt rule (d + 1) k (some bi) X.en = (cycA, bump Z.en (some bi) z.f.low) := (ob_go (rule := rule) (d := d) (k := k) (by_ := (some bi)) (e := X.en) ho hin hat hno).trans (by rw [← hZe, en_len]; exact hlv)
              refine NX.retC (j := 8) (⟨{ Z with fs := upd Z.fs bi (FM.up (lowF z.f.low)) }, by rw [hlaw]; exact bump_en, hZk.trans (Kp.up bi (lowF z.f.low) (fun _ => rfl) (fun _ => rfl))⟩ : {Y : EX // Y.en = (obt rule (d + 1) k (some bi) X.en).2 ∧ Kp X Y}) rfl rfl rfl wg_ta71 (by rw [hlaw] <;> rfl) (fun w hw => ?_)
              exact ((St.engClose ({ Z with fs := upd Z.fs bi (FM.up (lowF z.f.low)) }) ic (by rw [show ({ Z with fs := upd Z.fs bi (FM.up (lowF z.f.low)) } : EX).fs.length = Z.fs.length from upd_len _ _ _] <;> rfl) rfl rfl (up_at (lowF z.f.low) (fun _ => rfl) 0 Z.fs bi).symm rfl rfl (upd_len _ _ _).symm (up_st (FM.up (lowF z.f.low)) (fun _ => rfl) Z.fs bi).symm (by show _ = (upd Z.fs bi (FM.up (lowF z.f.low))).map fB; rw [upd_map_set fB Z.fs bi _ hzb]; exact congrArg _ (by show _ = (Box zb.ptr 91 [S zb.f.key, I ((min zb.f.low z.f.low : Nat) : Int), .bool zb.f.self, S zb.f.own.s, I zb.f.own.e, .slice zb.oa zb.f.tr.length zb.ca, .bool false, .bool false, I 0] : HP); rw [min_cast2, hzbp] <;> rfl)) rfl (hw.to 9 [0, 1, 2, 3, 4, 5, 6, 7] 2 [0, 1] rfl)).derive (ψ := FF X.fs.length ({ Z with fs := upd Z.fs bi (FM.up (lowF z.f.low)) }).fs) (fun K hf => FF.up2 (by omega) (hf (FF X.fs.length Z.fs) (.tail _ (.head _))))).to 0 [] 3 [1, 0] rfl
            · skip
              have hlow : ¬ z.f.low < X.fs.length := by have := of_decide_eq_false h7; omega
              refine TR.skip ?_
              refine NX.seq ?_
              refine TR.seq ?_
              refine TR.region ?_
              refine RL.weak (fun w hw => St.engClose (Z) ic rfl rfl rfl rfl rfl rfl rfl rfl rfl rfl (show St w (_ :: _ :: _ :: _ :: _ :: _ :: _ :: _ :: _) _ from hw.toM 9 [0, 1, 2, 3, 4, 5, 6, 7, 8] rfl)) ?_
              refine RL.move rfl rfl rfl ?_
              refine RL.move rfl rfl rfl ?_
              refine RL.call rfl rfl Try.call43 rfl (settle_spec (rule := rule) hU hUl hZo.wk hz hzl (wk_nd hZo.wk) (.head _) (.tail _ (.head _))) (fun Y => ?_)
              obtain ⟨Y, hYe, hYf, hYq⟩ := Y
              dsimp only
              refine RL.storeA 1 rfl rfl rfl rfl wg_tz71 rfl rfl ?_
              refine RL.nil ?_
              refine NX.seq ?_
              refine TR.ret ?_
              have hlaw : obt rule (d + 1) k by_ X.en = Go.GL.settle X.fs.length Z.en := (ob_go (rule := rule) (d := d) (k := k) (by_ := by_) (e := X.en) ho hin hat hno).trans (by rw [← hZe, en_len]; exact leave_end (by_ := by_) (own := X.fs.length) h157 (by rw [lowOf_is (en_at hz)]; exact hlow))
              refine NX.retC (j := 1) (⟨Y, by rw [hlaw]; exact hYe, hZk.settle hYf (wk_nd hZo.wk) hYq⟩ : {Y : EX // Y.en = (obt rule (d + 1) k by_ X.en).2 ∧ Kp X Y}) rfl rfl rfl wg_ta71 (by rw [hlaw] <;> rfl) (fun w hw => ?_)
              exact ((hw.to 2 [0] 0 [] rfl).derive (ψ := FF X.fs.length Y.fs) (fun K hf => FF.none (by rw [hYf, List.length_take]; omega))).to 0 [] 4 [1, 0] rfl
        · skip
          obtain ⟨jq, hjq, hset⟩ := aGet_at hqs
          refine RL.val rfl rfl rfl (PV.cast (by rw [qsC_get, hqs] <;> rfl) (PV.lookup 2 wg_tm61 rfl rfl (hU k hk).1 rfl Try.zeroValue81)).2 ?_
          refine RL.assign rfl rfl rfl ?_
          refine RL.nil ?_
          refine NX.seq ?_
          refine TR.seq ?_
          refine TR.seq ?_
          refine TR.region ?_
          refine RL.move rfl rfl rfl ?_
          refine RL.bin rfl rfl rfl (BinV.neqPtrNil wg_tp81) rfl ?_
          refine RL.move rfl rfl rfl ?_
          refine RL.move rfl rfl rfl ?_
          refine RL.nilCheck rfl rfl rfl ?_
          refine RL.fieldAddr rfl wg_tf87_3 rfl rfl ?_
          refine RL.loadS rfl rfl (al_one (i := 7) (j := jq) rfl (qb_at hjq) wg_ts4 rfl) rfl ?_
          refine RL.pickT rfl rfl rfl rfl ?_
          refine RL.nil ?_
          refine NX.seq ?_
          refine TR.cond rfl (fun h8 => ?_) (fun h8 => ?_)
          · skip
            have hok : q.q.ok = true := h8
            refine TR.seq ?_
            refine TR.region ?_
            refine RL.move rfl rfl rfl ?_
            refine RL.move rfl rfl rfl ?_
            refine RL.nilCheck rfl rfl rfl ?_
            refine RL.fieldAddr rfl wg_tf65_5 rfl rfl ?_
            refine RL.load1 0 rfl wg_ts3 rfl rfl rfl rfl ?_
            refine RL.nilCheck rfl rfl rfl ?_
            refine RL.fieldAddr rfl wg_tf87_4 rfl rfl ?_
            refine RL.ofEV rfl rfl (EV.storeAl (vs := [_]) 7 (jq) rfl rfl rfl (qb_at hjq) wg_tz3 rfl (Nat.le_of_ble_eq_true rfl) rfl) ?_
            refine RL.nil ?_
            refine NX.seq ?_
            refine TR.seq ?_
            refine TR.region ?_
            refine RL.move rfl rfl rfl ?_
            refine RL.call rfl rfl Try.call40 rfl (Ctr.pick 9 [7, 0, 1, 2, 3, 4, 5, 6, 8] rfl (answer_spec (x := useQ X q) (set_at (qb_at hjq)))) (fun _ => ?_)
            refine RL.storeA 8 rfl rfl rfl rfl wg_tz71 rfl rfl ?_
            refine RL.nil ?_
            refine NX.seq ?_
            refine TR.ret ?_
            refine NX.retThen ?_
            have hlaw := ob_ok (rule := rule) (d := d) (k := k) (by_ := by_) (e := X.en) ho hin hat (okOf_1 hqs hok)
            refine NX.retC (j := 8) (⟨{ X with qs := aSet X.qs k (useQ X q) }, by rw [hlaw] <;> exact touch_en, Kp.set hat⟩ : {Y : EX // Y.en = (obt rule (d + 1) k by_ X.en).2 ∧ Kp X Y}) rfl rfl rfl wg_ta71 (by rw [hlaw] <;> rfl) (fun w hw => ?_)
            exact ((St.engClose ({ X with qs := aSet X.qs k (useQ X q) }) ic rfl rfl (qsC_same hqs rfl) rfl rfl rfl rfl rfl rfl (by show _ = (aSet X.qs k (useQ X q)).map qB; rw [hset, List.map_set]; rfl) (hw.to 9 [1, 2, 3, 4, 5, 6, 7, 0] 0 [] rfl)).derive (ψ := FF X.fs.length ({ X with qs := aSet X.qs k (useQ X q) }).fs) (fun K hf => FF.none (Nat.le_refl _))).derive (ψ := QF ({ X with qs := aSet X.qs k (useQ X q) }).qs) (fun K hf => QF.set (v := useQ X q) (hf (QF X.qs) (.tail _ hQ)) (hf (QF X.qs) (.tail _ hQ) (k, q) (List.mem_of_getElem? hjq)))
          · skip
            have hno : okOf X.en.qs k = none := okOf_2 hqs (by rw [h8]; decide)
            refine TR.skip ?_
            refine NX.seq ?_
            refine TR.seq ?_
            refine TR.region ?_
            refine RL.move rfl rfl rfl ?_
            refine RL.nilCheck rfl rfl rfl ?_
            refine RL.fieldAddr rfl wg_tf65_8 rfl rfl ?_
            refine RL.load1 0 rfl wg_ts62 rfl rfl rfl rfl ?_
            refine RL.lenSlice rfl wg_tl62 rfl rfl ?_
            refine RL.assign rfl rfl rfl ?_
            refine RL.nil ?_
            refine NX.seq ?_
            refine TR.seq ?_
            refine TR.region ?_
            refine RL.move rfl rfl rfl ?_
            refine RL.move rfl rfl rfl ?_
            refine RL.build rfl rfl (wg_bv91_0_1 _ _) rfl ?_
            refine RL.boxA rfl rfl rfl (fun b9 => ?_)
            refine RL.assign rfl rfl rfl ?_
            refine RL.nil ?_
            refine NX.seq ?_
            refine TR.seq ?_
            refine TR.region ?_
            refine RL.move rfl rfl rfl ?_
            refine RL.move rfl rfl rfl ?_
            refine RL.nilCheck rfl rfl rfl ?_
            refine RL.fieldAddr rfl wg_tf65_8 rfl rfl ?_
            refine RL.load1 1 rfl wg_ts62 rfl rfl rfl rfl ?_
            refine RL.move rfl rfl rfl ?_
            refine RL.buildSlice rfl rfl (wg_bs62_1_0 _) rfl (fun b10 => ?_)
            refine RL.ofGV rfl rfl (GV.append (j := 7) wg_tl62 wg_ni62 wg_te88 rfl rfl rfl (src_box (i := 0) rfl rfl rfl) (by omega) (by omega)) (fun ys => ?_)
            refine RL.nilCheck rfl rfl rfl ?_
            refine RL.fieldAddr rfl wg_tf65_8 rfl rfl ?_
            refine RL.store1 2 rfl wg_ts62 rfl rfl rfl rfl rfl ?_
            refine RL.nil ?_
            refine NX.seq ?_
            refine TR.seq ?_
            refine TR.region ?_
            refine RL.move rfl rfl rfl ?_
            refine RL.nilCheck rfl rfl rfl ?_
            refine RL.fieldAddr rfl wg_tf65_9 rfl rfl ?_
            refine RL.load1 2 rfl wg_ts63 rfl rfl rfl rfl ?_
            refine RL.move rfl rfl rfl ?_
            refine RL.move rfl rfl rfl ?_
            refine RL.ofEV rfl rfl (EV.mapUpdate 5 wg_tm63 rfl rfl rfl (hU k hk).1 rfl) ?_
            refine RL.weak (M' := EngB b bud V.val ({ X with fs := X.fs ++ [newF b9 k X.fs.length] } : EX) :: Box b1 71 [S [], I 0] :: M) (F' := F) (fun w hw => ?_) ?_
            · have h1 := St.alSnoc (show St w (fB (newF b9 k X.fs.length) :: Al (X.fs.map fB) :: _) F from hw.toM 11 [1, 8, 2, 3, 4, 5, 6, 7, 9, 10] rfl)
              refine St.engClose ({ X with fs := X.fs ++ [newF b9 k X.fs.length] } : EX) (⟨ic.ib, ic.qb, ic.ab, ic.co, ic.cc, ys.1, ys.2⟩ : EH) (show _ = [I bud, V.val, .map (some ic.ib), .map (some ic.qb), .slice ic.co X.comp.length ic.cc, I X.gets, I (X.fuel : Nat), .bool X.out, .slice ys.1 ({ X with fs := X.fs ++ [newF b9 k X.fs.length] } : EX).fs.length ys.2, .map (some ic.ab)] from by rw [show ({ X with fs := X.fs ++ [newF b9 k X.fs.length] } : EX).fs.length = X.fs.length + 1 from List.length_append] <;> rfl) rfl rfl (at_push hat rfl) rfl rfl (show _ = ({ X with fs := X.fs ++ [newF b9 k X.fs.length] } : EX).fs.length from List.length_append.symm) (by show _ = stC (X.fs ++ [_]); unfold stC; rw [List.map_append]; rfl) (by show _ = (X.fs ++ [_]).map fB; rw [List.map_append]; rfl) rfl (show St w (_ :: _ :: _ :: _ :: _ :: _ :: _ :: _ :: Box b1 71 [S [], I 0] :: M) F from h1.toM 9 [1, 2, 3, 4, 5, 6, 0, 7, 8] rfl)
            have hX1 : XOk rule U d ({ X with fs := X.fs ++ [newF b9 k X.fs.length] } : EX) := ⟨by rw [push_en]; exact push_wk hX.wk hk hat, by show U.length + 1 ≤ (X.fs ++ [_]).length + d; rw [List.length_append]; have := hX.dep; simp only [List.length_cons, List.length_nil]; omega, hX.su⟩
            have hn1 : ({ X with fs := X.fs ++ [newF b9 k X.fs.length] } : EX).fs[X.fs.length]? = some (newF b9 k X.fs.length) := by show (X.fs ++ [_])[X.fs.length]? = _; rw [List.getElem?_append_right (Nat.le_refl _), Nat.sub_self]; rfl
            have hlp : ({ X with fs := X.fs ++ [newF b9 k X.fs.length] } : EX).fs.length = X.fs.length + 1 := List.length_append
            refine RL.weak (fun w hw => hw.derive (ψ := FF (X.fs.length + 1) ({ X with fs := X.fs ++ [newF b9 k X.fs.length] } : EX).fs) (fun K hf => FF.none (by rw [hlp]; exact Nat.le_refl _))) ?_
            refine RL.nil ?_
            refine NX.seq ?_
            refine TR.cut (ι := {Z : EX // Z.en = visit (fun k b e => obt rule d k (some b) e) (rule k) k X.en ∧ Kp X Z ∧ ∃ z, Z.fs[X.fs.length]? = some z ∧ z.ptr = b9}) (fun _ => [(0, PtV b), (1, S k), (2, bv), (6, PtV b1), (12, I ((X.fs.length : Nat) : Int)), (13, PtV b9)]) (fun Z => EngB b bud V.val Z.1 :: Box b1 71 [S [], I 0] :: M) (fun Z => QF Z.1.qs :: FF X.fs.length Z.1.fs :: F) ?_ (fun ⟨Z, hZe, hZk, z, hz, hzp⟩ => ?_)
            · skip
              refine TR.seq ?_
              refine TR.region ?_
              refine RL.move rfl rfl rfl ?_
              refine RL.bin rfl rfl rfl (BinV.neqPtrNil wg_tp81) rfl ?_
              refine RL.move rfl rfl rfl ?_
              refine RL.move rfl rfl rfl ?_
              refine RL.move rfl rfl rfl ?_
              refine RL.move rfl rfl rfl ?_
              refine RL.call rfl rfl Try.call41 rfl (holds_spec (X := ({ X with fs := X.fs ++ [newF b9 k X.fs.length] } : EX)) (q := q) (f := (newF b9 k X.fs.length)) (own := X.fs.length) hU hUl hr hob hX1 hjq hn1 (.tail _ hQ) (.head _)) (fun Y => ?_)
              obtain ⟨Y, hYe, hYk⟩ := Y
              dsimp only
              refine RL.pickT rfl rfl rfl rfl ?_
              refine RL.nil ?_
              refine NX.seq ?_
              refine TR.cond rfl (fun h12 => ?_) (fun h12 => ?_)
              · skip
                have h134 := h12
                have hq1 := hYk.qk X.fs.length _ hn1
                have hq2 : aGet Y.qs k = some q := hq1.trans hqs
                obtain ⟨jq2, hjq2, _⟩ := aGet_at hq2
                obtain ⟨y, hy, hyp, hyoa, hyca, hytr, hyk⟩ := hYk.kp X.fs.length _ hn1
                have hyb : (Y.fs.map fB)[X.fs.length]? = some (Box b9 91 y.cs) := by rw [← show y.ptr = b9 from hyp]; exact fb_at hy
                refine TR.open (fun w hw => (St.exOpen (show St w (Ex _ :: _) _ from hw))) (fun ic => ?_)
                refine TR.sub (E' := [(0, _), (1, _), (2, _), (6, _), (7, _), (8, _), (9, _), (10, _), (11, _), (12, _), (13, _), (14, _), (15, _), (16, _), (17, _), (19, _), (20, _), (21, _), (22, _), (23, _), (24, _), (25, _), (26, _), (27, _), (28, _), (31, _), (32, _), (33, _), (34, _), (35, _), (36, _), (37, _), (38, _), (39, _), (40, _), (79, _), (80, _), (81, _), (82, _), (83, _), (84, _), (85, _), (86, _), (87, _), (88, _), (89, _), (90, _), (91, _), (92, _), (102, _), (103, _), (104, _), (105, _), (106, _), (107, _), (108, _), (109, _), (110, _), (111, _), (112, _), (113, _), (114, _), (115, _), (116, _), (117, _), (118, _), (119, _), (120, _), (121, _), (122, _), (123, _), (124, _), (125, _), (126, _), (127, _), (128, _), (129, _), (130, _), (131, _), (132, _), (133, _), (134, _)]) ⟨rfl, rfl, rfl, rfl, rfl, rfl, rfl, rfl, rfl, rfl, rfl, rfl, rfl, rfl, rfl, rfl, rfl, rfl, rfl, rfl, rfl, rfl, rfl, rfl, rfl, rfl, rfl, rfl, rfl, rfl, rfl, rfl, rfl, rfl, rfl, rfl, rfl, rfl, rfl, rfl, rfl, rfl, rfl, rfl, rfl, rfl, rfl, rfl, rfl, rfl, rfl, rfl, rfl, rfl, rfl, rfl, rfl, rfl, rfl, rfl, rfl, rfl, rfl, rfl, rfl, rfl, rfl, rfl, rfl, rfl, rfl, rfl, rfl, rfl, rfl, rfl, rfl, rfl, rfl, rfl, rfl, rfl, trivial⟩ ?_
                refine TR.draw mixed ?_
                apply AR.more [(0, _), (1, _), (2, _), (3, _), (4, _), (5, _), (6, _), (7, _), (8, _), (9, _), (10, _), (11, _), (12, _)]
                refine AR.eff [0, 1, 2, 3, 4, 5, 6, 7, 8, 9, 10, 11, 12] 13 [0, 1, 2, 3, 4, 5, 6, 7, 8, 9, 10, 11, 12, 13, 14, 15, 16, 17] ⟨QOne.yes rfl rfl rfl (PV.move rfl), QOne.yes rfl rfl rfl (PV.move rfl), QOne.yes rfl rfl rfl (PV.move rfl), QOne.yes rfl rfl rfl (PV.nilCheck rfl), QOne.yes rfl rfl rfl (PV.fieldAddr wg_tf87_0 rfl), QOne.yes rfl rfl rfl (PV.loadS rfl (al_agg (vs := [_, _]) (off := 0) (i := 7) (j := jq2) rfl (qb_at hjq2) wg_ta71 (agg2 rfl rfl))), QOne.yes rfl rfl rfl (PV.move rfl), QOne.yes rfl rfl rfl (PV.nilCheck rfl), QOne.yes rfl rfl rfl (PV.fieldAddr wg_tf87_1 rfl), QOne.yes rfl rfl rfl (PV.loadS rfl (al_one (i := 7) (j := jq2) rfl (qb_at hjq2) wg_ts85 rfl)), QOne.yes rfl rfl rfl (PV.nilCheck rfl), QOne.yes rfl rfl rfl (PV.fieldAddr wg_tf91_3 rfl), QOne.yes rfl rfl rfl (PV.fieldAddr wg_tf87_0 rfl), trivial⟩ rfl rfl rfl rfl rfl rfl rfl (EV.storeAl (vs := [_, _]) 6 (X.fs.length) rfl rfl rfl hyb wg_tz71 rfl (Nat.le_of_ble_eq_true rfl) rfl) (fun _ => ?_)
                refine AR.done [12, 5, 0, 2, 3, 4, 9, 8, 11, 10, 7, 6] rfl ?_
                apply AR.more [(14, _), (15, _), (16, _)]
                refine AR.eff [1, 14, 15, 16] 17 [0, 1, 2, 3, 4, 5, 6, 7, 8, 9, 10, 11, 12, 13, 14, 15, 16, 17] ⟨QOne.yes rfl rfl rfl (PV.move rfl), QOne.yes rfl rfl rfl (PV.nilCheck rfl), QOne.yes rfl rfl rfl (PV.fieldAddr wg_tf91_3 rfl), QOne.yes rfl rfl rfl (PV.fieldAddr wg_tf87_1 rfl), trivial⟩ rfl rfl rfl rfl rfl rfl rfl (EV.storeAl (vs := [_]) 6 (X.fs.length) rfl rfl rfl (set_at hyb) wg_tz85 rfl (Nat.le_of_ble_eq_true rfl) rfl) (fun _ => ?_)
                refine AR.done [16, 1, 15, 14] rfl ?_
                refine AR.last [] [0, 1, 2, 3, 4, 5, 6, 7, 8, 9, 10, 11, 12, 13, 14, 15, 16, 17] trivial rfl rfl rfl ?_
                refine NX.sub (E' := [(0, _), (1, _), (2, _), (6, _), (7, _), (8, _), (9, _), (10, _), (11, _), (12, _), (13, _), (14, _), (15, _), (16, _), (17, _), (19, _), (20, _), (21, _), (22, _), (23, _), (24, _), (25, _), (26, _), (27, _), (28, _), (31, _), (32, _), (33, _), (34, _), (35, _), (36, _), (37, _), (38, _), (39, _), (40, _), (79, _), (80, _), (81, _), (82, _), (83, _), (84, _), (85, _), (86, _), (87, _), (88, _), (89, _), (90, _), (91, _), (92, _), (102, _), (103, _), (104, _), (105, _), (106, _), (107, _), (108, _), (109, _), (110, _), (111, _), (112, _), (113, _), (114, _), (115, _), (116, _), (117, _), (118, _), (119, _), (120, _), (121, _), (122, _), (123, _), (124, _), (125, _), (126, _), (127, _), (128, _), (129, _), (130, _), (131, _), (132, _), (133, _), (134, _)]) ⟨rfl, rfl, rfl, rfl, rfl, rfl, rfl, rfl, rfl, rfl, rfl, rfl, rfl, rfl, rfl, rfl, rfl, rfl, rfl, rfl, rfl, rfl, rfl, rfl, rfl, rfl, rfl, rfl, rfl, rfl, rfl, rfl, rfl, rfl, rfl, rfl, rfl, rfl, rfl, rfl, rfl, rfl, rfl, rfl, rfl, rfl, rfl, rfl, rfl, rfl, rfl, rfl, rfl, rfl, rfl, rfl, rfl, rfl, rfl, rfl, rfl, rfl, rfl, rfl, rfl, rfl, rfl, rfl, rfl, rfl, rfl, rfl, rfl, rfl, rfl, rfl, rfl, rfl, rfl, rfl, rfl, rfl, trivial⟩ ?_
                have hZv : ({ Y with fs := upd Y.fs X.fs.length (takeF q) } : EX).en = visit (fun k b e => obt rule d k (some b) e) (rule k) k X.en := by
                  rw [setFr_en, hYe, push_en]
                  exact ((visit_hold (en_qs hqs) (by rw [← push_en (b := b9), en_len]; exact h134)).trans (by rw [en_len])).symm
                refine NX.meet (⟨{ Y with fs := upd Y.fs X.fs.length (takeF q) }, hZv, KpB.kp0 (X' := ({ X with fs := X.fs ++ [newF b9 k X.fs.length] } : EX)) ((hYk.b _).trans (KpB.up _ _)) rfl rfl, takeF q y, by show (upd Y.fs _ _)[X.fs.length]? = _; rw [upd_get, if_pos rfl, hy]; rfl, hyp⟩ : {Z : EX // Z.en = visit (fun k b e => obt rule d k (some b) e) (rule k) k X.en ∧ Kp X Z ∧ ∃ z, Z.fs[X.fs.length]? = some z ∧ z.ptr = b9}) ⟨rfl, rfl, rfl, rfl, rfl, rfl, trivial⟩ (fun w hw => ((St.engClose ({ Y with fs := upd Y.fs X.fs.length (takeF q) }) ic (by rw [show ({ Y with fs := upd Y.fs X.fs.length (takeF q) } : EX).fs.length = Y.fs.length from upd_len _ _ _] <;> rfl) rfl rfl (upd_atC (takeF q) (fun _ => rfl) 0 Y.fs X.fs.length).symm rfl rfl (upd_len _ _ _).symm (up_st (takeF q) (fun _ => rfl) Y.fs X.fs.length).symm (by show _ = (upd Y.fs X.fs.length (takeF q)).map fB; rw [upd_map_set fB Y.fs X.fs.length _ hy, List.set_set]; exact congrArg _ (by unfold fB takeF FM.cs; rw [show y.ptr = b9 from hyp]; rfl)) rfl (hw.to 9 [0, 1, 2, 3, 4, 5, 6, 7, 8] 3 [0, 1] rfl)).derive (ψ := FF X.fs.length ({ Y with fs := upd Y.fs X.fs.length (takeF q) } : EX).fs) (fun K hf => FF.take (hf (QF Y.qs) (.head _) (k, q) (List.mem_of_getElem? hjq2)) (hf (FF (X.fs.length + 1) Y.fs) (.tail _ (.head _))))).to 0 [] 3 [1, 0] rfl)
              · skip
                have h134 := h12
                obtain ⟨y, hy, hyp, hyoa, hyca, hytr, hyk⟩ := hYk.kp X.fs.length _ hn1
                have hYw := hold_wk (obt_wob hr d) (own := X.fs.length) q.q.tr (e := ({ X with fs := X.fs ++ [newF b9 k X.fs.length] } : EX).en) (hX1.wk.qs (k, q.q) (List.mem_map.2 ⟨(k, q), List.mem_of_getElem? hjq, rfl⟩)).mem hX1.wk
                rw [← hYe] at hYw
                have hYok := hX1.kq hYw.1 hYw.2
                refine TR.region ?_
                refine RL.move rfl rfl rfl ?_
                refine RL.move rfl rfl rfl ?_
                refine RL.call rfl rfl Try.call42 rfl (compute_spec2 (X := Y) (x := y) (own := X.fs.length) hU hUl hr V hob hYok hk hy hyp hyk hytr hyoa hyca (.head _) (.tail _ (.head _))) (fun Z => ?_)
                obtain ⟨Z, hZe0, hZb, hZp⟩ := Z
                dsimp only
                refine RL.nil ?_
                have hZv : Z.en = visit (fun k b e => obt rule d k (some b) e) (rule k) k X.en := (hZe0.trans (by rw [hYe, push_en]; exact ((visit_comp (en_qs hqs) (by rw [← push_en (b := b9), en_len]; exact h134)).trans (by rw [en_len])).symm))
                have hZk : Kp X Z := KpB.kp0 (X' := ({ X with fs := X.fs ++ [newF b9 k X.fs.length] } : EX)) (x := (newF b9 k X.fs.length)) ((hYk.b _).trans hZb) rfl rfl
                refine NX.meet (⟨Z, hZv, hZk, hZp⟩ : {Z : EX // Z.en = visit (fun k b e => obt rule d k (some b) e) (rule k) k X.en ∧ Kp X Z ∧ ∃ z, Z.fs[X.fs.length]? = some z ∧ z.ptr = b9}) ⟨rfl, rfl, rfl, rfl, rfl, rfl, trivial⟩ (fun w hw => (hw.to 2 [0, 1] 5 [0, 1] rfl))
            dsimp only
            have hvw := visit_wk (obt_wob hr d) (hr k hk) hk hat hX.wk
            rw [← hZe] at hvw
            have hZo : XOk rule U d Z := by
              have h1 : XOk rule U d ({ X with fs := X.fs ++ [newF b9 k X.fs.length] } : EX) := hX1
              exact h1.kr (i := X.en.st.length) hvw.1 (by rw [push_en]; exact hvw.2)
            have hzl : X.fs.length < Z.fs.length := (List.getElem?_eq_some_iff.1 hz).1
            have hzbx : (Z.fs.map fB)[X.fs.length]? = some (Box b9 91 z.cs) := by rw [← hzp]; exact fb_at hz
            refine TR.seq ?_
            refine TR.seq ?_
            refine TR.open (fun w hw => (St.exOpen (show St w (Ex _ :: _) _ from hw))) (fun ic => ?_)
            refine TR.region ?_
            refine RL.move rfl rfl rfl ?_
            refine RL.nilCheck rfl rfl rfl ?_
            refine RL.fieldAddr rfl wg_tf65_7 rfl rfl ?_
            refine RL.load1 0 rfl wg_ts4 rfl rfl rfl rfl ?_
            refine RL.nil ?_
            refine NX.seq ?_
            refine TR.cond rfl (fun h13 => ?_) (fun h13 => ?_)
            · skip
              have h157 : Z.en.out = true := h13
              refine TR.seq ?_
              refine TR.region ?_
              refine RL.build rfl rfl (wg_bv71_1 _) rfl ?_
              refine RL.storeA 8 rfl rfl rfl rfl wg_tz71 rfl rfl ?_
              refine RL.nil ?_
              refine NX.seq ?_
              refine TR.ret ?_
              refine NX.retThen ?_
              have hlaw : obt rule (d + 1) k by_ X.en = (fuelA, Z.en) := (ob_go (rule := rule) (d := d) (k := k) (by_ := by_) (e := X.en) ho hin hat hno).trans (by rw [← hZe, en_len]; exact leave_out (by_ := by_) (own := X.fs.length) h157)
              refine NX.retC (j := 8) (⟨Z, by rw [hlaw], hZk⟩ : {Y : EX // Y.en = (obt rule (d + 1) k by_ X.en).2 ∧ Kp X Y}) rfl rfl rfl wg_ta71 (by rw [hlaw] <;> rfl) (fun w hw => St.engClose (Z) ic rfl rfl rfl rfl rfl rfl rfl rfl rfl rfl (hw.to 9 [0, 1, 2, 3, 4, 5, 6, 7] 2 [0, 1] rfl))
            · skip
              have h157 : ¬ Z.en.out = true := by show ¬ Z.out = true; rw [h13]; decide
              refine TR.skip ?_
              refine NX.seq ?_
              refine TR.seq ?_
              refine TR.seq ?_
              refine TR.region ?_
              refine RL.move rfl rfl rfl ?_
              refine RL.nilCheck rfl rfl rfl ?_
              refine RL.fieldAddr rfl wg_tf91_1 rfl rfl ?_
              refine RL.loadS rfl rfl (al_one (i := 6) (j := X.fs.length) rfl hzbx wg_ts3 rfl) rfl ?_
              refine RL.move rfl rfl rfl ?_
              refine RL.bin rfl rfl rfl BinV.lss rfl ?_
              refine RL.nil ?_
              refine NX.seq ?_
              refine TR.cond rfl (fun h14 => ?_) (fun h14 => ?_)
              · skip
                have hlow : z.f.low < X.fs.length := by have := of_decide_eq_true h14; omega
                refine TR.seq ?_
                obtain ⟨bi, x, hbe, hx, hbv⟩ : ∃ bi x, by_ = some bi ∧ X.fs[bi]? = some x ∧ bv = PtV x.ptr := hby.elim (fun h => by rw [h.2.2] at hlow; simp at hlow) id
                subst hbe
                subst hbv
                obtain ⟨zb, hzb, hzbp, _⟩ := hZk.kp bi x hx
                have hbil : bi < X.fs.length := (List.getElem?_eq_some_iff.1 hx).1
                have hzbb : (Z.fs.map fB)[bi]? = some (Box x.ptr 91 zb.cs) := by rw [← hzbp]; exact fb_at hzb
                refine TR.sub (E' := [(0, _), (2, _), (6, _), (12, _), (13, _)]) ⟨rfl, rfl, rfl, rfl, rfl, trivial⟩ ?_
                refine TR.draw mixed ?_
                apply AR.more [(0, _), (1, _), (2, _), (3, _), (4, _), (5, _), (6, _), (7, _), (8, _), (9, _), (10, _), (11, _)]
                refine AR.eff [0, 1, 2, 3, 4, 5, 6, 7, 8, 9, 10, 11] 12 [0, 1, 2, 3, 4, 5, 6, 7, 8, 9, 10, 11, 12] ⟨QOne.yes rfl rfl rfl (PV.move rfl), QOne.yes rfl rfl rfl (PV.move rfl), QOne.yes rfl rfl rfl (PV.nilCheck rfl), QOne.yes rfl rfl rfl (PV.fieldAddr wg_tf91_1 rfl), QOne.yes rfl rfl rfl (PV.loadS rfl (al_one (i := 6) (j := bi) rfl hzbb wg_ts3 rfl)), QOne.yes rfl rfl rfl (PV.move rfl), QOne.yes rfl rfl rfl (PV.nilCheck rfl), QOne.yes rfl rfl rfl (PV.fieldAddr wg_tf91_1 rfl), QOne.yes rfl rfl rfl (PV.loadS rfl (al_one (i := 6) (j := X.fs.length) rfl hzbx wg_ts3 rfl)), QOne.yes rfl rfl rfl (PV.min rfl rfl), QOne.yes rfl rfl rfl (PV.nilCheck rfl), QOne.yes rfl rfl rfl (PV.fieldAddr wg_tf91_1 rfl), trivial⟩ rfl rfl rfl rfl rfl rfl rfl (EV.storeAl (vs := [_]) 6 (bi) rfl rfl rfl hzbb wg_tz3 rfl (Nat.le_of_ble_eq_true rfl) rfl) (fun _ => ?_)
                refine AR.done [11, 9, 0, 1, 2, 3, 4, 5, 6, 7, 8, 10] rfl ?_
                refine AR.last [] [0, 1, 2, 3, 4, 5, 6, 7, 8, 9, 10, 11, 12] trivial rfl rfl rfl ?_
                refine NX.sub (E' := [(0, _), (6, _), (12, _)]) ⟨rfl, rfl, rfl, trivial⟩ ?_
                refine NX.seq ?_
                refine TR.seq ?_
                refine TR.region ?_
                refine RL.build rfl rfl (wg_bv71_1 _) rfl ?_
                refine RL.storeA 8 rfl rfl rfl rfl wg_tz71 rfl rfl ?_
                refine RL.nil ?_
                refine NX.seq ?_
                refine TR.ret ?_
                refine NX.retThen ?_
                have hlv := leave_cyc (by_ := some bi) (own := X.fs.length) h157 (by rw [lowOf_is (en_at hz)]; exact hlow)
                rw [lowOf_is (en_at hz)] at hlv
                have hlaw : obt rule (d + 1) k (some bi) X.en = (cycA, bump Z.en (some bi) z.f.low) := (ob_go (rule := rule) (d := d) (k := k) (by_ := (some bi)) (e := X.en) ho hin hat hno).trans (by rw [← hZe, en_len]; exact hlv)
                refine NX.retC (j := 8) (⟨{ Z with fs := upd Z.fs bi (FM.up (lowF z.f.low)) }, by rw [hlaw]; exact bump_en, hZk.trans (Kp.up bi (lowF z.f.low) (fun _ => rfl) (fun _ => rfl))⟩ : {Y : EX // Y.en = (obt rule (d + 1) k (some bi) X.en).2 ∧ Kp X Y}) rfl rfl rfl wg_ta71 (by rw [hlaw] <;> rfl) (fun w hw => ?_)
                exact ((St.engClose ({ Z with fs := upd Z.fs bi (FM.up (lowF z.f.low)) }) ic (by rw [show ({ Z with fs := upd Z.fs bi (FM.up (lowF z.f.low)) } : EX).fs.length = Z.fs.length from upd_len _ _ _] <;> rfl) rfl rfl (up_at (lowF z.f.low) (fun _ => rfl) 0 Z.fs bi).symm rfl rfl (upd_len _ _ _).symm (up_st (FM.up (lowF z.f.low)) (fun _ => rfl) Z.fs bi).symm (by show _ = (upd Z.fs bi (FM.up (lowF z.f.low))).map fB; rw [upd_map_set fB Z.fs bi _ hzb]; exact congrArg _ (by show _ = (Box zb.ptr 91 [S zb.f.key, I ((min zb.f.low z.f.low : Nat) : Int), .bool zb.f.self, S zb.f.own.s, I zb.f.own.e, .slice zb.oa zb.f.tr.length zb.ca, .bool false, .bool false, I 0] : HP); rw [min_cast2, hzbp] <;> rfl)) rfl (hw.to 9 [0, 1, 2, 3, 4, 5, 6, 7] 2 [0, 1] rfl)).derive (ψ := FF X.fs.length ({ Z with fs := upd Z.fs bi (FM.up (lowF z.f.low)) }).fs) (fun K hf => FF.up2 (by omega) (hf (FF X.fs.length Z.fs) (.tail _ (.head _))))).to 0 [] 3 [1, 0] rfl
              · skip
                have hlow : ¬ z.f.low < X.fs.length := by have := of_decide_eq_false h14; omega
                refine TR.skip ?_
                refine NX.seq ?_
                refine TR.seq ?_
                refine TR.region ?_
                refine RL.weak (fun w hw => St.engClose (Z) ic rfl rfl rfl rfl rfl rfl rfl rfl rfl rfl (show St w (_ :: _ :: _ :: _ :: _ :: _ :: _ :: _ :: _) _ from hw.toM 9 [0, 1, 2, 3, 4, 5, 6, 7, 8] rfl)) ?_
                refine RL.move rfl rfl rfl ?_
                refine RL.move rfl rfl rfl ?_
                refine RL.call rfl rfl Try.call43 rfl (settle_spec (rule := rule) hU hUl hZo.wk hz hzl (wk_nd hZo.wk) (.head _) (.tail _ (.head _))) (fun Y => ?_)
                obtain ⟨Y, hYe, hYf, hYq⟩ := Y
                dsimp only
                refine RL.storeA 1 rfl rfl rfl rfl wg_tz71 rfl rfl ?_
                refine RL.nil ?_
                refine NX.seq ?_
                refine TR.ret ?_
                have hlaw : obt rule (d + 1) k by_ X.en = Go.GL.settle X.fs.length Z.en := (ob_go (rule := rule) (d := d) (k := k) (by_ := by_) (e := X.en) ho hin hat hno).trans (by rw [← hZe, en_len]; exact leave_end (by_ := by_) (own := X.fs.length) h157 (by rw [lowOf_is (en_at hz)]; exact hlow))
                refine NX.retC (j := 1) (⟨Y, by rw [hlaw]; exact hYe, hZk.settle hYf (wk_nd hZo.wk) hYq⟩ : {Y : EX // Y.en = (obt rule (d + 1) k by_ X.en).2 ∧ Kp X Y}) rfl rfl rfl wg_ta71 (by rw [hlaw] <;> rfl) (fun w hw => ?_)
                exact ((hw.to 2 [0] 0 [] rfl).derive (ψ := FF X.fs.length Y.fs) (fun K hf => FF.none (by rw [hYf, List.length_take]; omega))).to 0 [] 4 [1, 0] rfl
      · skip
        refine RL.val rfl rfl rfl (PV.cast (show _ = Value.tuple #[I ((i : Nat) : Int), .bool true] from by rw [atC_get, hat]; show Value.tuple #[I ((0 + i : Nat) : Int), .bool true] = _; rw [Nat.zero_add]) (PV.lookupC 3 wg_tm63 rfl rfl (hU k hk).1 rfl Try.zeroValue3)).2 ?_
        refine RL.move rfl rfl rfl ?_
        refine RL.extract rfl rfl rfl rfl ?_
        refine RL.extract rfl rfl rfl rfl ?_
        refine RL.assign rfl rfl rfl ?_
        refine RL.assign rfl rfl rfl ?_
        refine RL.nil ?_
        refine NX.seq ?_
        refine TR.seq ?_
        refine TR.region ?_
        refine RL.move rfl rfl rfl ?_
        refine RL.nil ?_
        refine NX.seq ?_
        refine TR.condT rfl ?_
        refine TR.seq ?_
        have hil : i < X.fs.length := (List.getElem?_eq_some_iff.1 hx).1
        refine TR.openP (fun w hw => own_at (i := 5) rfl (st_ne hx) hw) (fun gs hgs => ?_)
        refine TR.sub (E' := [(0, _), (1, _), (2, _), (6, _), (9, _)]) ⟨rfl, rfl, rfl, rfl, rfl, trivial⟩ ?_
        refine TR.draw mixed ?_
        apply AR.more [(0, _), (1, _), (2, _), (3, _), (4, _), (5, _), (6, _), (7, _), (8, _), (9, _), (10, _), (11, _), (12, _), (13, _), (14, _), (15, _), (16, _), (17, _), (18, _)]
        refine AR.eff [0, 1, 2, 3, 4, 5, 6, 7, 8, 9, 10, 11, 12, 13, 14, 15, 16, 17, 18] 19 [0, 1, 2, 3, 4, 5, 6, 7, 8, 9, 10, 11, 12, 13, 14, 15, 16, 17, 18, 19] ⟨QOne.yes rfl rfl rfl (PV.move rfl), QOne.yes rfl rfl rfl (PV.move rfl), QOne.yes rfl rfl rfl (PV.nilCheck rfl), QOne.yes rfl rfl rfl (PV.fieldAddr wg_tf91_1 rfl), QOne.yes rfl rfl rfl (PV.loadS rfl (al_one (i := 6) (j := i) rfl (fb_at hx) wg_ts3 rfl)), QOne.yes rfl rfl rfl (PV.move rfl), QOne.yes rfl rfl rfl (PV.nilCheck rfl), QOne.yes rfl rfl rfl (PV.fieldAddr wg_tf65_8 rfl), QOne.yes rfl rfl rfl (PV.load1 0 wg_ts62 rfl rfl rfl), QOne.yes rfl rfl rfl (PV.move rfl), QOne.yes rfl rfl rfl (PV.indexAddr wg_tl62 wg_tz88 (congrArg (fun a => some (Value.slice a _ _)) hgs) rfl (by omega) (by omega)), QOne.yes rfl rfl rfl (PV.loadS rfl (own_one (i := 5) rfl hgs wg_ts88 (show (stC X.fs)[0 + ((i : Nat) : Int).toNat * 1]? = some (PtV x.ptr) from by rw [Nat.mul_one, Nat.zero_add]; exact st_at hx))), QOne.yes rfl rfl rfl (PV.nilCheck rfl), QOne.yes rfl rfl rfl (PV.fieldAddr wg_tf91_1 rfl), QOne.yes rfl rfl rfl (PV.loadS rfl (al_one (i := 6) (j := i) rfl (fb_at hx) wg_ts3 rfl)), QOne.yes rfl rfl rfl (PV.move rfl), QOne.yes rfl rfl rfl (PV.min3 rfl rfl rfl), QOne.yes rfl rfl rfl (PV.nilCheck rfl), QOne.yes rfl rfl rfl (PV.fieldAddr wg_tf91_1 rfl), trivial⟩ rfl rfl rfl rfl rfl rfl rfl (EV.storeAl (vs := [_]) 6 (i) rfl rfl rfl (fb_at hx) wg_tz3 rfl (Nat.le_of_ble_eq_true rfl) rfl) (fun _ => ?_)
        refine AR.done [18, 16, 0, 1, 2, 3, 4, 5, 6, 7, 8, 9, 10, 11, 12, 13, 14, 15, 17] rfl ?_
        refine AR.last [] [0, 1, 2, 3, 4, 5, 6, 7, 8, 9, 10, 11, 12, 13, 14, 15, 16, 17, 18, 19] trivial rfl rfl rfl ?_
        refine NX.sub (E' := [(0, _), (1, _), (2, _), (6, _), (9, _)]) ⟨rfl, rfl, rfl, rfl, rfl, trivial⟩ ?_
        refine NX.seq ?_
        refine TR.seq ?_
        refine TR.region ?_
        refine RL.move rfl rfl rfl ?_
        refine RL.move rfl rfl rfl ?_
        refine RL.nilCheck rfl rfl rfl ?_
        refine RL.fieldAddr rfl wg_tf91_2 rfl rfl ?_
        refine RL.loadS rfl rfl (al_one (i := 6) (j := i) rfl (set_at (fb_at hx)) wg_ts4 rfl) rfl ?_
        refine RL.move rfl rfl rfl ?_
        refine RL.part (fun h15 => ?_) (fun h15 => ?_)
        · skip
          have hslf : x.f.self = true := h15
          refine RL.skip rfl rfl rfl ?_
          refine RL.skip rfl rfl rfl ?_
          refine RL.skip rfl rfl rfl ?_
          refine RL.skip rfl rfl rfl ?_
          refine RL.skip rfl rfl rfl ?_
          refine RL.skip rfl rfl rfl ?_
          refine RL.skip rfl rfl rfl ?_
          refine RL.skip rfl rfl rfl ?_
          refine RL.skip rfl rfl rfl ?_
          refine RL.pickT rfl rfl rfl rfl ?_
          refine RL.nilCheck rfl rfl rfl ?_
          refine RL.fieldAddr rfl wg_tf91_2 rfl rfl ?_
          refine RL.ofEV rfl rfl (EV.storeAl (vs := [_]) 6 (i) rfl rfl rfl (set_at (fb_at hx)) wg_tz4 rfl (Nat.le_of_ble_eq_true rfl) rfl) ?_
          refine RL.nil ?_
          refine NX.seq ?_
          refine TR.seq ?_
          refine TR.region ?_
          refine RL.build rfl rfl (wg_bv71_1 _) rfl ?_
          refine RL.storeA 8 rfl rfl rfl rfl wg_tz71 rfl rfl ?_
          refine RL.nil ?_
          refine NX.seq ?_
          refine TR.ret ?_
          refine NX.retThen ?_
          have hlaw := ob_hit (rule := rule) (d := d) (k := k) (by_ := (some i)) (e := X.en) ho hin hat
          refine NX.retC (j := 8) (⟨{ X with fs := upd X.fs i (FM.up (hitF i x.f.low (decide (i = i)))) }, by rw [hlaw] <;> exact hit_en hx, Kp.up i (hitF i x.f.low (decide (i = i))) (fun _ => rfl) (fun _ => rfl)⟩ : {Y : EX // Y.en = (obt rule (d + 1) k (some i) X.en).2 ∧ Kp X Y}) rfl rfl rfl wg_ta71 (by rw [hlaw] <;> rfl) (fun w hw => ?_)
          exact ((St.engClose ({ X with fs := upd X.fs i (FM.up (hitF i x.f.low (decide (i = i)))) }) ic (by rw [show ({ X with fs := upd X.fs i (FM.up (hitF i x.f.low (decide (i = i)))) } : EX).fs.length = X.fs.length from upd_len _ _ _] <;> rfl) rfl rfl (up_at (hitF i x.f.low (decide (i = i))) (fun _ => rfl) 0 X.fs i).symm rfl rfl (upd_len _ _ _).symm (up_st (FM.up (hitF i x.f.low (decide (i = i)))) (fun _ => rfl) X.fs i).symm (by show _ = (upd X.fs i (FM.up (hitF i x.f.low (decide (i = i))))).map fB; rw [upd_map_set fB X.fs i _ hx, List.set_set]; exact congrArg _ (by show _ = (Box x.ptr 91 [S x.f.key, I ((min (min x.f.low x.f.low) i : Nat) : Int), .bool (x.f.self || decide (i = i)), S x.f.own.s, I x.f.own.e, .slice x.oa x.f.tr.length x.ca, .bool false, .bool false, I 0] : HP); rw [min_cast3, hslf] <;> rfl)) rfl (hw.to 9 [0, 1, 2, 3, 4, 5, 6, 7] 0 [] rfl)).derive (ψ := FF X.fs.length ({ X with fs := upd X.fs i (FM.up (hitF i x.f.low (decide (i = i)))) }).fs) (fun K hf => FF.none (by rw [show ({ X with fs := upd X.fs i (FM.up (hitF i x.f.low (decide (i = i)))) } : EX).fs.length = X.fs.length from upd_len _ _ _]; exact Nat.le_refl _))).derive (ψ := QF ({ X with fs := upd X.fs i (FM.up (hitF i x.f.low (decide (i = i)))) }).qs) (fun K hf => hf (QF X.qs) (.tail _ hQ))
        · skip
          have hslf : x.f.self = false := h15
          refine RL.move rfl rfl rfl ?_
          refine RL.nilCheck rfl rfl rfl ?_
          refine RL.fieldAddr rfl wg_tf65_8 rfl rfl ?_
          refine RL.load1 0 rfl wg_ts62 rfl rfl rfl rfl ?_
          refine RL.move rfl rfl rfl ?_
          refine RL.indexAddr rfl wg_tl62 wg_tz88 (congrArg (fun a => some (Value.slice a _ _)) hgs) rfl (by omega) (by omega) rfl ?_
          refine RL.loadS rfl rfl (own_one (i := 5) rfl hgs wg_ts88 (show (stC X.fs)[0 + ((i : Nat) : Int).toNat * 1]? = some (PtV x.ptr) from by rw [Nat.mul_one, Nat.zero_add]; exact st_at hx)) rfl ?_
          refine RL.move rfl rfl rfl ?_
          refine RL.val rfl rfl rfl (PV.eqlPtrAl (j := i) (k := i) 6 wg_tp88 wg_tz91 rfl rfl rfl rfl (set_at (fb_at hx)) (set_at (fb_at hx))).2 ?_
          refine RL.pickF rfl rfl rfl rfl ?_
          refine RL.nilCheck rfl rfl rfl ?_
          refine RL.fieldAddr rfl wg_tf91_2 rfl rfl ?_
          refine RL.ofEV rfl rfl (EV.storeAl (vs := [_]) 6 (i) rfl rfl rfl (set_at (fb_at hx)) wg_tz4 rfl (Nat.le_of_ble_eq_true rfl) rfl) ?_
          refine RL.nil ?_
          refine NX.seq ?_
          refine TR.seq ?_
          refine TR.region ?_
          refine RL.build rfl rfl (wg_bv71_1 _) rfl ?_
          refine RL.storeA 8 rfl rfl rfl rfl wg_tz71 rfl rfl ?_
          refine RL.nil ?_
          refine NX.seq ?_
          refine TR.ret ?_
          refine NX.retThen ?_
          have hlaw := ob_hit (rule := rule) (d := d) (k := k) (by_ := (some i)) (e := X.en) ho hin hat
          refine NX.retC (j := 8) (⟨{ X with fs := upd X.fs i (FM.up (hitF i x.f.low (decide (i = i)))) }, by rw [hlaw] <;> exact hit_en hx, Kp.up i (hitF i x.f.low (decide (i = i))) (fun _ => rfl) (fun _ => rfl)⟩ : {Y : EX // Y.en = (obt rule (d + 1) k (some i) X.en).2 ∧ Kp X Y}) rfl rfl rfl wg_ta71 (by rw [hlaw] <;> rfl) (fun w hw => ?_)
          exact ((St.engClose ({ X with fs := upd X.fs i (FM.up (hitF i x.f.low (decide (i = i)))) }) ic (by rw [show ({ X with fs := upd X.fs i (FM.up (hitF i x.f.low (decide (i = i)))) } : EX).fs.length = X.fs.length from upd_len _ _ _] <;> rfl) rfl rfl (up_at (hitF i x.f.low (decide (i = i))) (fun _ => rfl) 0 X.fs i).symm rfl rfl (upd_len _ _ _).symm (up_st (FM.up (hitF i x.f.low (decide (i = i)))) (fun _ => rfl) X.fs i).symm (by show _ = (upd X.fs i (FM.up (hitF i x.f.low (decide (i = i))))).map fB; rw [upd_map_set fB X.fs i _ hx, List.set_set]; exact congrArg _ (by show _ = (Box x.ptr 91 [S x.f.key, I ((min (min x.f.low x.f.low) i : Nat) : Int), .bool (x.f.self || decide (i = i)), S x.f.own.s, I x.f.own.e, .slice x.oa x.f.tr.length x.ca, .bool false, .bool false, I 0] : HP); rw [min_cast3, hslf] <;> rfl)) rfl (hw.to 9 [0, 1, 2, 3, 4, 5, 6, 7] 0 [] rfl)).derive (ψ := FF X.fs.length ({ X with fs := upd X.fs i (FM.up (hitF i x.f.low (decide (i = i)))) }).fs) (fun K hf => FF.none (by rw [show ({ X with fs := upd X.fs i (FM.up (hitF i x.f.low (decide (i = i)))) } : EX).fs.length = X.fs.length from upd_len _ _ _]; exact Nat.le_refl _))).derive (ψ := QF ({ X with fs := upd X.fs i (FM.up (hitF i x.f.low (decide (i = i)))) }).qs) (fun K hf => hf (QF X.qs) (.tail _ hQ))
      · skip
        refine RL.val rfl rfl rfl (PV.cast (show _ = Value.tuple #[I ((i : Nat) : Int), .bool true] from by rw [atC_get, hat]; show Value.tuple #[I ((0 + i : Nat) : Int), .bool true] = _; rw [Nat.zero_add]) (PV.lookupC 3 wg_tm63 rfl rfl (hU k hk).1 rfl Try.zeroValue3)).2 ?_
        refine RL.move rfl rfl rfl ?_
        refine RL.extract rfl rfl rfl rfl ?_
        refine RL.extract rfl rfl rfl rfl ?_
        refine RL.assign rfl rfl rfl ?_
        refine RL.assign rfl rfl rfl ?_
        refine RL.nil ?_
        refine NX.seq ?_
        refine TR.seq ?_
        refine TR.region ?_
        refine RL.move rfl rfl rfl ?_
        refine RL.nil ?_
        refine NX.seq ?_
        refine TR.condT rfl ?_
        refine TR.seq ?_
        have hil : i < X.fs.length := (List.getElem?_eq_some_iff.1 hy).1
        refine TR.openP (fun w hw => own_at (i := 5) rfl (st_ne hx) hw) (fun gs hgs => ?_)
        refine TR.sub (E' := [(0, _), (1, _), (2, _), (6, _), (9, _)]) ⟨rfl, rfl, rfl, rfl, rfl, trivial⟩ ?_
        refine TR.draw mixed ?_
        apply AR.more [(0, _), (1, _), (2, _), (3, _), (4, _), (5, _), (6, _), (7, _), (8, _), (9, _), (10, _), (11, _), (12, _), (13, _), (14, _), (15, _), (16, _), (17, _), (18, _)]
        refine AR.eff [0, 1, 2, 3, 4, 5, 6, 7, 8, 9, 10, 11, 12, 13, 14, 15, 16, 17, 18] 19 [0, 1, 2, 3, 4, 5, 6, 7, 8, 9, 10, 11, 12, 13, 14, 15, 16, 17, 18, 19] ⟨QOne.yes rfl rfl rfl (PV.move rfl), QOne.yes rfl rfl rfl (PV.move rfl), QOne.yes rfl rfl rfl (PV.nilCheck rfl), QOne.yes rfl rfl rfl (PV.fieldAddr wg_tf91_1 rfl), QOne.yes rfl rfl rfl (PV.loadS rfl (al_one (i := 6) (j := bi) rfl (fb_at hx) wg_ts3 rfl)), QOne.yes rfl rfl rfl (PV.move rfl), QOne.yes rfl rfl rfl (PV.nilCheck rfl), QOne.yes rfl rfl rfl (PV.fieldAddr wg_tf65_8 rfl), QOne.yes rfl rfl rfl (PV.load1 0 wg_ts62 rfl rfl rfl), QOne.yes rfl rfl rfl (PV.move rfl), QOne.yes rfl rfl rfl (PV.indexAddr wg_tl62 wg_tz88 (congrArg (fun a => some (Value.slice a _ _)) hgs) rfl (by omega) (by omega)), QOne.yes rfl rfl rfl (PV.loadS rfl (own_one (i := 5) rfl hgs wg_ts88 (show (stC X.fs)[0 + ((i : Nat) : Int).toNat * 1]? = some (PtV y.ptr) from by rw [Nat.mul_one, Nat.zero_add]; exact st_at hy))), QOne.yes rfl rfl rfl (PV.nilCheck rfl), QOne.yes rfl rfl rfl (PV.fieldAddr wg_tf91_1 rfl), QOne.yes rfl rfl rfl (PV.loadS rfl (al_one (i := 6) (j := i) rfl (fb_at hy) wg_ts3 rfl)), QOne.yes rfl rfl rfl (PV.move rfl), QOne.yes rfl rfl rfl (PV.min3 rfl rfl rfl), QOne.yes rfl rfl rfl (PV.nilCheck rfl), QOne.yes rfl rfl rfl (PV.fieldAddr wg_tf91_1 rfl), trivial⟩ rfl rfl rfl rfl rfl rfl rfl (EV.storeAl (vs := [_]) 6 (bi) rfl rfl rfl (fb_at hx) wg_tz3 rfl (Nat.le_of_ble_eq_true rfl) rfl) (fun _ => ?_)
        refine AR.done [18, 16, 0, 1, 2, 3, 4, 5, 6, 7, 8, 9, 10, 11, 12, 13, 14, 15, 17] rfl ?_
        refine AR.last [] [0, 1, 2, 3, 4, 5, 6, 7, 8, 9, 10, 11, 12, 13, 14, 15, 16, 17, 18, 19] trivial rfl rfl rfl ?_
        refine NX.sub (E' := [(0, _), (1, _), (2, _), (6, _), (9, _)]) ⟨rfl, rfl, rfl, rfl, rfl, trivial⟩ ?_
        refine NX.seq ?_
        refine TR.seq ?_
        refine TR.region ?_
        refine RL.move rfl rfl rfl ?_
        refine RL.move rfl rfl rfl ?_
        refine RL.nilCheck rfl rfl rfl ?_
        refine RL.fieldAddr rfl wg_tf91_2 rfl rfl ?_
        refine RL.loadS rfl rfl (al_one (i := 6) (j := bi) rfl (set_at (fb_at hx)) wg_ts4 rfl) rfl ?_
        refine RL.move rfl rfl rfl ?_
        refine RL.part (fun h16 => ?_) (fun h16 => ?_)
        · skip
          have hslf : x.f.self = true := h16
          refine RL.skip rfl rfl rfl ?_
          refine RL.skip rfl rfl rfl ?_
          refine RL.skip rfl rfl rfl ?_
          refine RL.skip rfl rfl rfl ?_
          refine RL.skip rfl rfl rfl ?_
          refine RL.skip rfl rfl rfl ?_
          refine RL.skip rfl rfl rfl ?_
          refine RL.skip rfl rfl rfl ?_
          refine RL.skip rfl rfl rfl ?_
          refine RL.pickT rfl rfl rfl rfl ?_
          refine RL.nilCheck rfl rfl rfl ?_
          refine RL.fieldAddr rfl wg_tf91_2 rfl rfl ?_
          refine RL.ofEV rfl rfl (EV.storeAl (vs := [_]) 6 (bi) rfl rfl rfl (set_at (fb_at hx)) wg_tz4 rfl (Nat.le_of_ble_eq_true rfl) rfl) ?_
          refine RL.nil ?_
          refine NX.seq ?_
          refine TR.seq ?_
          refine TR.region ?_
          refine RL.build rfl rfl (wg_bv71_1 _) rfl ?_
          refine RL.storeA 8 rfl rfl rfl rfl wg_tz71 rfl rfl ?_
          refine RL.nil ?_
          refine NX.seq ?_
          refine TR.ret ?_
          refine NX.retThen ?_
          have hlaw := ob_hit (rule := rule) (d := d) (k := k) (by_ := (some bi)) (e := X.en) ho hin hat
          refine NX.retC (j := 8) (⟨{ X with fs := upd X.fs bi (FM.up (hitF i y.f.low (decide (i = bi)))) }, by rw [hlaw] <;> exact hit_en hy, Kp.up bi (hitF i y.f.low (decide (i = bi))) (fun _ => rfl) (fun _ => rfl)⟩ : {Y : EX // Y.en = (obt rule (d + 1) k (some bi) X.en).2 ∧ Kp X Y}) rfl rfl rfl wg_ta71 (by rw [hlaw] <;> rfl) (fun w hw => ?_)
          exact ((St.engClose ({ X with fs := upd X.fs bi (FM.up (hitF i y.f.low (decide (i = bi)))) }) ic (by rw [show ({ X with fs := upd X.fs bi (FM.up (hitF i y.f.low (decide (i = bi)))) } : EX).fs.length = X.fs.length from upd_len _ _ _] <;> rfl) rfl rfl (up_at (hitF i y.f.low (decide (i = bi))) (fun _ => rfl) 0 X.fs bi).symm rfl rfl (upd_len _ _ _).symm (up_st (FM.up (hitF i y.f.low (decide (i = bi)))) (fun _ => rfl) X.fs bi).symm (by show _ = (upd X.fs bi (FM.up (hitF i y.f.low (decide (i = bi))))).map fB; rw [upd_map_set fB X.fs bi _ hx, List.set_set]; exact congrArg _ (by show _ = (Box x.ptr 91 [S x.f.key, I ((min (min x.f.low y.f.low) i : Nat) : Int), .bool (x.f.self || decide (i = bi)), S x.f.own.s, I x.f.own.e, .slice x.oa x.f.tr.length x.ca, .bool false, .bool false, I 0] : HP); rw [min_cast3, hslf] <;> rfl)) rfl (hw.to 9 [0, 1, 2, 3, 4, 5, 6, 7] 0 [] rfl)).derive (ψ := FF X.fs.length ({ X with fs := upd X.fs bi (FM.up (hitF i y.f.low (decide (i = bi)))) }).fs) (fun K hf => FF.none (by rw [show ({ X with fs := upd X.fs bi (FM.up (hitF i y.f.low (decide (i = bi)))) } : EX).fs.length = X.fs.length from upd_len _ _ _]; exact Nat.le_refl _))).derive (ψ := QF ({ X with fs := upd X.fs bi (FM.up (hitF i y.f.low (decide (i = bi)))) }).qs) (fun K hf => hf (QF X.qs) (.tail _ hQ))
        · skip
          have hslf : x.f.self = false := h16
          refine RL.move rfl rfl rfl ?_
          refine RL.nilCheck rfl rfl rfl ?_
          refine RL.fieldAddr rfl wg_tf65_8 rfl rfl ?_
          refine RL.load1 0 rfl wg_ts62 rfl rfl rfl rfl ?_
          refine RL.move rfl rfl rfl ?_
          refine RL.indexAddr rfl wg_tl62 wg_tz88 (congrArg (fun a => some (Value.slice a _ _)) hgs) rfl (by omega) (by omega) rfl ?_
          refine RL.loadS rfl rfl (own_one (i := 5) rfl hgs wg_ts88 (show (stC X.fs)[0 + ((i : Nat) : Int).toNat * 1]? = some (PtV y.ptr) from by rw [Nat.mul_one, Nat.zero_add]; exact st_at hy)) rfl ?_
          refine RL.move rfl rfl rfl ?_
          refine RL.val rfl rfl rfl (PV.eqlPtrAl (j := i) (k := bi) 6 wg_tp88 wg_tz91 rfl rfl rfl rfl (set_off (by omega) (fb_at hy)) (set_at (fb_at hx))).2 ?_
          refine RL.pickF rfl rfl rfl rfl ?_
          refine RL.nilCheck rfl rfl rfl ?_
          refine RL.fieldAddr rfl wg_tf91_2 rfl rfl ?_
          refine RL.ofEV rfl rfl (EV.storeAl (vs := [_]) 6 (bi) rfl rfl rfl (set_at (fb_at hx)) wg_tz4 rfl (Nat.le_of_ble_eq_true rfl) rfl) ?_
          refine RL.nil ?_
          refine NX.seq ?_
          refine TR.seq ?_
          refine TR.region ?_
          refine RL.build rfl rfl (wg_bv71_1 _) rfl ?_
          refine RL.storeA 8 rfl rfl rfl rfl wg_tz71 rfl rfl ?_
          refine RL.nil ?_
          refine NX.seq ?_
          refine TR.ret ?_
          refine NX.retThen ?_
          have hlaw := ob_hit (rule := rule) (d := d) (k := k) (by_ := (some bi)) (e := X.en) ho hin hat
          refine NX.retC (j := 8) (⟨{ X with fs := upd X.fs bi (FM.up (hitF i y.f.low (decide (i = bi)))) }, by rw [hlaw] <;> exact hit_en hy, Kp.up bi (hitF i y.f.low (decide (i = bi))) (fun _ => rfl) (fun _ => rfl)⟩ : {Y : EX // Y.en = (obt rule (d + 1) k (some bi) X.en).2 ∧ Kp X Y}) rfl rfl rfl wg_ta71 (by rw [hlaw] <;> rfl) (fun w hw => ?_)
          exact ((St.engClose ({ X with fs := upd X.fs bi (FM.up (hitF i y.f.low (decide (i = bi)))) }) ic (by rw [show ({ X with fs := upd X.fs bi (FM.up (hitF i y.f.low (decide (i = bi)))) } : EX).fs.length = X.fs.length from upd_len _ _ _] <;> rfl) rfl rfl (up_at (hitF i y.f.low (decide (i = bi))) (fun _ => rfl) 0 X.fs bi).symm rfl rfl (upd_len _ _ _).symm (up_st (FM.up (hitF i y.f.low (decide (i = bi)))) (fun _ => rfl) X.fs bi).symm (by show _ = (upd X.fs bi (FM.up (hitF i y.f.low (decide (i = bi))))).map fB; rw [upd_map_set fB X.fs bi _ hx, List.set_set]; exact congrArg _ (by show _ = (Box x.ptr 91 [S x.f.key, I ((min (min x.f.low y.f.low) i : Nat) : Int), .bool (x.f.self || decide (i = bi)), S x.f.own.s, I x.f.own.e, .slice x.oa x.f.tr.length x.ca, .bool false, .bool false, I 0] : HP); rw [min_cast3, hslf] <;> rfl)) rfl (hw.to 9 [0, 1, 2, 3, 4, 5, 6, 7] 0 [] rfl)).derive (ψ := FF X.fs.length ({ X with fs := upd X.fs bi (FM.up (hitF i y.f.low (decide (i = bi)))) }).fs) (fun K hf => FF.none (by rw [show ({ X with fs := upd X.fs bi (FM.up (hitF i y.f.low (decide (i = bi)))) } : EX).fs.length = X.fs.length from upd_len _ _ _]; exact Nat.le_refl _))).derive (ψ := QF ({ X with fs := upd X.fs bi (FM.up (hitF i y.f.low (decide (i = bi)))) }).qs) (fun K hf => hf (QF X.qs) (.tail _ hQ))
    · skip
      refine RL.val rfl rfl rfl (PV.cast (by rw [inC_get, hin] <;> rfl) (PV.lookupC 1 wg_tm60 rfl rfl (hU k hk).1 rfl Try.zeroValue9)).2 ?_
      refine RL.move rfl rfl rfl ?_
      refine RL.extract rfl rfl rfl rfl ?_
      refine RL.extract rfl rfl rfl rfl ?_
      refine RL.assign rfl rfl rfl ?_
      refine RL.assign rfl rfl rfl ?_
      refine RL.nil ?_
      refine NX.seq ?_
      refine TR.seq ?_
      refine TR.region ?_
      refine RL.move rfl rfl rfl ?_
      refine RL.nil ?_
      refine NX.seq ?_
      refine TR.condT rfl ?_
      refine TR.seq ?_
      refine TR.region ?_
      refine RL.move rfl rfl rfl ?_
      refine RL.build rfl rfl (wg_bv71_0 _) rfl ?_
      refine RL.storeA 8 rfl rfl rfl rfl wg_tz71 rfl rfl ?_
      refine RL.nil ?_
      refine NX.seq ?_
      refine TR.ret ?_
      refine NX.retThen ?_
      have hlaw := ob_inp (rule := rule) (d := d) (k := k) (by_ := by_) (e := X.en) ho hin
      refine NX.retC (j := 8) (⟨X, by rw [hlaw] <;> exact rfl, Kp.refl X⟩ : {Y : EX // Y.en = (obt rule (d + 1) k by_ X.en).2 ∧ Kp X Y}) rfl rfl rfl wg_ta71 (by rw [hlaw] <;> rfl) (fun w hw => ?_)
      exact ((St.engClose (X) ic rfl rfl rfl rfl rfl rfl rfl rfl rfl rfl (hw.to 9 [0, 1, 2, 3, 4, 5, 6, 7] 0 [] rfl)).derive (ψ := FF X.fs.length (X).fs) (fun K hf => FF.none (Nat.le_refl _))).derive (ψ := QF (X).qs) (fun K hf => hf (QF X.qs) (.tail _ hQ))
end Go.Proofs.Ythefimaaeilefaa

namespace Go.Proofs.Ythefimaaeilefaa
open Go.GL
set_option linter.unusedVariables false
theorem wh_tf71_0 : fieldOff Try.prog 71 0 0 = true := by kernel_rfl
theorem wh_tf87_0 : fieldOff Try.prog 87 0 0 = true := by kernel_rfl
theorem wh_ts9 : tyScalar Try.prog 9 = true := by kernel_rfl
theorem wh_tstr9 : tyStr Try.prog 9 = true := by kernel_rfl
theorem obtain_all {b : Nat} {bud : Int} {rule : Ky → Ru} {U : List Ky} (hU : ∀ k, k ∈ U → KO k ∧ k.length ≤ 100) (hUl : U.length ≤ 1000) (hr : ∀ k, k ∈ U → RuK U k (rule k)) (V : Fnv Try.prog U rule) : ∀ d, ObC b bud V.val rule U d := by
  intro d
  induction d with
  | zero => intro X k by_ bv M F hX; exact absurd hX.pos (by decide)
  | succ d ih => intro X k by_ bv M F hX hk hby hQ; exact obtain_step hU hUl hr V ih hX hk hby hQ
theorem size_spec {L : List HP} {j : Nat} {x : QM} {k : Ky} {M : List HP} {F : List Fact} (hj : L[j]? = some (Box x.ptr 87 x.cs)) (h1 : k.length ≤ 1099511627776) (h2 : x.q.own.s.length ≤ 1099511627776) : Ctr Try.prog 60 [S k, PtV x.ptr] (Al L :: M) F Unit (fun _ => I ((k.length : Int) + x.q.own.s.length)) (fun _ => Al L :: M) (fun _ => F) := by
  refine Ctr.body Try.func60 rfl rfl ?_
  refine TR.seq ?_
  refine TR.region ?_
  refine RL.assign rfl rfl rfl ?_
  refine RL.nil ?_
  refine NX.seq ?_
  refine TR.seq ?_
  refine TR.region ?_
  refine RL.move rfl rfl rfl ?_
  refine RL.lenStr rfl wh_tstr9 rfl rfl ?_
  refine RL.move rfl rfl rfl ?_
  refine RL.nilCheck rfl rfl rfl ?_
  refine RL.fieldAddr rfl wh_tf87_0 rfl rfl ?_
  refine RL.fieldAddr rfl wh_tf71_0 rfl rfl ?_
  refine RL.loadS rfl rfl (al_one (i := 0) (j := j) rfl hj wh_ts9 rfl) rfl ?_
  refine RL.lenStr rfl wh_tstr9 rfl rfl ?_
  refine RL.bin rfl rfl rfl (BinV.add ((k.length : Int) + x.q.own.s.length) rfl (by omega) (by omega)) rfl ?_
  refine RL.assign rfl rfl rfl ?_
  refine RL.nil ?_
  refine NX.seq ?_
  refine TR.ret ?_
  exact NX.ret1 () rfl rfl rfl (fun w hw => (hw.to 1 [0] 0 [] rfl))
end Go.Proofs.Ythefimaaeilefaa

namespace Go.GL
set_option linter.unusedVariables false
def sumS (g : Ky → Nat) (l : List Ky) : Nat := (l.map g).sum
theorem filter_off {k : Ky} : ∀ {l : List Ky}, k ∉ l → (l.filter fun x => !decide (x = k)) = l
  | [], _ => rfl
  | a :: l, h => by
    have h1 : a ≠ k := fun e => h (by rw [e]; exact .head _)
    rw [List.filter_cons, if_pos (by simp [h1]), filter_off fun h2 => h (.tail _ h2)]
theorem sumS_take {g : Ky → Nat} {k : Ky} : ∀ {l : List Ky}, l.Nodup → k ∈ l → sumS g l = g k + sumS g (l.filter fun x => !decide (x = k))
  | a :: l, hn, hk => by
    rw [List.nodup_cons] at hn
    by_cases e : a = k
    · subst e
      rw [List.filter_cons, if_neg (by simp), filter_off hn.1]
      simp [sumS]
    · have hk' : k ∈ l := by
        rcases List.mem_cons.1 hk with h | h
        · exact absurd h.symm e
        · exact h
      rw [List.filter_cons, if_pos (by simp [e])]
      have := sumS_take (g := g) hn.2 hk'
      simp only [sumS, List.map_cons, List.sum_cons] at this ⊢
      omega
theorem leftS_lt {l : List Ky} {k : Ky} (h : k ∈ l) : (l.filter fun x => !decide (x = k)).length < l.length := by
  refine Nat.lt_of_le_of_ne (List.length_filter_le _ _) fun e => ?_
  have h1 := List.length_filter_eq_length_iff.1 e k h
  simp at h1
theorem leftS_nodup {l : List Ky} {k : Ky} (h : l.Nodup) : (l.filter fun x => !decide (x = k)).Nodup := h.sublist List.filter_sublist
def qSize (qs : List (Ky × QM)) (k : Ky) : Nat := match aGet qs k with
  | some x => k.length + x.q.own.s.length
  | none => 0
def bytesQ (qs : List (Ky × QM)) : Nat := sumS (qSize qs) (qs.map Prod.fst)
theorem qsC_keys (qs : List (Ky × QM)) : (qsC qs).map Prod.fst = qs.map Prod.fst := by unfold qsC; rw [List.map_map]; rfl
theorem qsC_mem {qs : List (Ky × QM)} {k : Ky} {v : Value} (h : (k, v) ∈ qsC qs) : ∃ x, (k, x) ∈ qs ∧ v = PtV x.ptr := by
  obtain ⟨p, hp, he⟩ := List.mem_map.1 h
  cases he
  exact ⟨p.2, hp, rfl⟩
end Go.GL

namespace Go.Proofs.Ythefimaaeilefaa
open Go.GL
set_option linter.unusedVariables false
theorem wi_tf65_3 : fieldOff Try.prog 65 3 3 = true := by kernel_rfl
theorem wi_tm61 : tyMap Try.prog 61 9 81 = true := by kernel_rfl
theorem wi_ts61 : tyScalar Try.prog 61 = true := by kernel_rfl
theorem mp_nodup {w : World} {M : List HP} {F : List Fact} {b i : Nat} {kvs : KV} (hw : St w M F) (hi : M[i]? = some (MpB b kvs)) : (kvs.map Prod.fst).Nodup := by
  obtain ⟨es, clock, h, _⟩ := mp_at hw hi
  exact h.keys
theorem bytes_spec {b : Nat} {bud : Int} {fv : Value} {X : EX} {M : List HP} {F : List Fact} (hb : bytesQ X.qs ≤ 1099511627776) : Ctr Try.prog 44 [PtV b] (EngI b bud fv X :: M) F Unit (fun _ => I (bytesQ X.qs : Nat)) (fun _ => EngI b bud fv X :: M) (fun _ => F) := by
  refine Ctr.body Try.func44 rfl rfl ?_
  refine TR.seq ?_
  refine TR.region ?_
  refine RL.assign rfl rfl rfl ?_
  refine RL.nil ?_
  refine NX.seq ?_
  refine TR.seq ?_
  refine TR.region ?_
  refine RL.assign rfl rfl rfl ?_
  refine RL.nil ?_
  refine NX.seq ?_
  refine TR.seq ?_
  refine TR.seq ?_
  refine TR.open (fun w hw => (St.exOpen (show St w (Ex _ :: _) _ from hw))) (fun ic => ?_)
  refine TR.open1 (fun w hw => ⟨mp_nodup (i := 2) hw rfl, hw⟩) (fun hnd => ?_)
  rw [qsC_keys] at hnd
  refine TR.region ?_
  refine RL.move rfl rfl rfl ?_
  refine RL.nilCheck rfl rfl rfl ?_
  refine RL.fieldAddr rfl wi_tf65_3 rfl rfl ?_
  refine RL.load1 0 rfl wi_ts61 rfl rfl rfl rfl ?_
  refine RL.ofGV rfl rfl (GV.range 2 wi_tm61 rfl rfl) (fun q => ?_)
  refine RL.nil ?_
  refine NX.seq ?_
  refine TR.block ?_
  refine TR.loopP (ι := (List Ky × Option Ky)) (fun x => x.1.Nodup ∧ sumS (qSize X.qs) x.1 ≤ bytesQ X.qs) (fun x => [(3, I ((bytesQ X.qs : Int) - (sumS (qSize X.qs) x.1 : Nat))), (10, .pointer (some ⟨q, 0, none⟩))]) (fun x => Box b 65 [I bud, fv, .map (some ic.ib), .map (some ic.qb), .slice ic.co X.comp.length ic.cc, I X.gets, I (X.fuel : Nat), .bool X.out, .slice ic.so ic.sn ic.sc, .map ic.ab] :: MpB ic.ib (inC X.inp) :: RgB ic.qb q (qsC X.qs) x.1 x.2 :: OwnSl 9 1 ic.co X.comp.length ic.cc (coC X.comp) :: Al (X.qs.map qB) :: M) (fun x => F) (fun x => x.1.length) ((qsC X.qs).map Prod.fst, none) ⟨by rw [qsC_keys]; exact hnd, by rw [qsC_keys]; exact Nat.le_refl _⟩ ⟨by show some (I 0) = some (I _); rw [qsC_keys]; show some (I 0) = some (I ((bytesQ X.qs : Int) - (bytesQ X.qs : Nat))); rw [Int.sub_self], rfl, trivial⟩ (fun w hw => (hw.to 5 [0, 1, 2, 3, 4] 0 [] rfl)) (fun x hx => ?_)
  refine TR.seq ?_
  refine TR.region ?_
  refine RL.ofGV rfl rfl (GV.next 2 rfl rfl) (fun nx => ?_)
  obtain ⟨_ | nx, hnx⟩ := nx
  · skip
    refine RL.extract rfl rfl rfl rfl ?_
    refine RL.nil ?_
    refine NX.seq ?_
    refine TR.seq ?_
    refine TR.condF rfl ?_
    refine TR.exit ?_
    refine NX.exitThen ?_
    refine NX.exitThen ?_
    refine NX.exitHere ?_
    refine NX.seq ?_
    refine TR.seq ?_
    refine TR.region ?_
    refine RL.move rfl rfl rfl ?_
    refine RL.assign rfl rfl rfl ?_
    refine RL.nil ?_
    refine NX.seq ?_
    refine TR.ret ?_
    have hl : x.1 = [] := hnx
    exact NX.ret1 () rfl rfl (by rw [hl]; show I ((bytesQ X.qs : Int) - (0 : Nat)) = _; rw [Int.natCast_zero, Int.sub_zero]) (fun w hw => St.engIClose (X) ic rfl rfl rfl rfl rfl rfl (hw.to 5 [0, 1, 2, 3, 4] 0 [] rfl))
  · skip
    refine RL.extract rfl rfl rfl rfl ?_
    refine RL.nil ?_
    refine NX.seq ?_
    refine TR.seq ?_
    refine TR.condT rfl ?_
    refine TR.skip ?_
    refine NX.seq ?_
    refine TR.block ?_
    refine TR.seq ?_
    refine TR.region ?_
    obtain ⟨nk, nv⟩ := nx
    obtain ⟨y, hy, hyv⟩ := qsC_mem hnx.2
    have hyv2 : nv = PtV y.ptr := hyv
    subst hyv2
    have hsum := sumS_take (g := (qSize X.qs)) (k := nk) hx.1 hnx.1
    have hgy : aGet X.qs nk = some y := aGet_of hnd hy
    have hqs : qSize X.qs nk = nk.length + y.q.own.s.length := by unfold qSize; rw [hgy]
    have hle : sumS (qSize X.qs) x.1 ≤ bytesQ X.qs := hx.2
    obtain ⟨j, hj, _⟩ := aGet_at hgy
    dsimp only
    refine RL.entry 2 rfl rfl rfl hnx.2 rfl ?_
    refine RL.extract rfl rfl rfl rfl ?_
    refine RL.extract rfl rfl rfl rfl ?_
    refine RL.assign rfl rfl rfl ?_
    refine RL.assign rfl rfl rfl ?_
    refine RL.nil ?_
    refine NX.seq ?_
    refine TR.region ?_
    refine RL.move rfl rfl rfl ?_
    refine RL.move rfl rfl rfl ?_
    refine RL.move rfl rfl rfl ?_
    refine RL.call rfl rfl Try.call60 rfl (Ctr.pick 5 [4, 0, 1, 2, 3] rfl (size_spec (x := y) (qb_at hj) (by omega) (by omega))) (fun _ => ?_)
    refine RL.bin rfl rfl rfl (BinV.add ((bytesQ X.qs : Int) - (sumS (qSize X.qs) (x.1.filter fun y => !decide (y = nk)) : Nat)) (by omega) (by omega) (by omega)) rfl ?_
    refine RL.assign rfl rfl rfl ?_
    refine RL.nil ?_
    refine NX.off ?_
    refine NX.roundP (x.1.filter fun y => !decide (y = nk), some nk) ⟨leftS_nodup hx.1, by show sumS (qSize X.qs) (x.1.filter fun y => !decide (y = nk)) ≤ _; omega⟩ (leftS_lt hnx.1) ⟨rfl, rfl, trivial⟩ (fun w hw => (hw.to 5 [1, 2, 3, 4, 0] 0 [] rfl))
end Go.Proofs.Ythefimaaeilefaa

namespace Go.Proofs.Ythefimaaeilefaa
open Go.GL
set_option linter.unusedVariables false
theorem wj_tf65_0 : fieldOff Try.prog 65 0 0 = true := by kernel_rfl
theorem wj_tf65_4 : fieldOff Try.prog 65 4 4 = true := by kernel_rfl
theorem wj_ts24 : tyScalar Try.prog 24 = true := by kernel_rfl
theorem wj_ts3 : tyScalar Try.prog 3 = true := by kernel_rfl
theorem wj_ts35 : tyScalar Try.prog 35 = true := by kernel_rfl
theorem shrink_spec {b : Nat} {bud : Int} {fv : Value} {X : EX} {M : List HP} {F : List Fact} (hb : (bytesQ X.qs : Int) ≤ bud) (hb2 : bytesQ X.qs ≤ 1099511627776) : Ctr Try.prog 32 [PtV b] (EngI b bud fv X :: M) F Unit (fun _ => .tuple #[]) (fun _ => EngI b bud fv X :: M) (fun _ => F) := by
  refine Ctr.body Try.func32 rfl rfl ?_
  refine TR.seq ?_
  refine TR.region ?_
  refine RL.box1 rfl rfl rfl rfl (fun b1 => ?_)
  refine RL.nil ?_
  refine NX.seq ?_
  refine TR.seq ?_
  refine TR.region ?_
  refine RL.load1 0 rfl wj_ts24 rfl rfl rfl rfl ?_
  refine RL.call rfl rfl Try.call44 rfl (Ctr.pick 2 [1, 0] rfl (bytes_spec (by omega))) (fun _ => ?_)
  refine RL.assign rfl rfl rfl ?_
  refine RL.nil ?_
  refine NX.seq ?_
  refine TR.seq ?_
  refine TR.seq ?_
  refine TR.open (fun w hw => (St.exOpen (show St w (Ex _ :: _) _ from hw))) (fun ic => ?_)
  refine TR.region ?_
  refine RL.move rfl rfl rfl ?_
  refine RL.load1 5 rfl wj_ts24 rfl rfl rfl rfl ?_
  refine RL.nilCheck rfl rfl rfl ?_
  refine RL.fieldAddr rfl wj_tf65_0 rfl rfl ?_
  refine RL.load1 0 rfl wj_ts3 rfl rfl rfl rfl ?_
  refine RL.bin rfl rfl rfl BinV.leq rfl ?_
  refine RL.nil ?_
  refine NX.seq ?_
  refine TR.cond rfl (fun h2 => ?_) (fun h2 => ?_)
  · skip
    refine TR.ret ?_
    refine NX.retThen ?_
    exact NX.ret0 () rfl rfl (fun w hw => St.engIClose (X) ic rfl rfl rfl rfl rfl rfl (hw.to 6 [0, 1, 2, 3, 4] 0 [] rfl))
  · skip
    exact absurd (of_decide_eq_false h2) (fun h => h hb)
theorem _root_.Go.GL.St.swap2 {w : World} {a b : HP} {M : List HP} {F : List Fact} (h : St w (a :: b :: M) F) : St w (a :: b :: M) F := h
theorem computed_spec {b : Nat} {bud : Int} {fv : Value} {X : EX} {M : List HP} {F : List Fact} : Ctr Try.prog 18 [PtV b] (EngI b bud fv X :: M) F (Option Addr × Nat) (fun z => .slice z.1 X.comp.length z.2) (fun z => EngI b bud fv { X with comp := [] } :: OwnSl 9 1 z.1 X.comp.length z.2 (coC X.comp) :: M) (fun _ => F) := by
  refine Ctr.body Try.func18 rfl rfl ?_
  refine TR.seq ?_
  refine TR.region ?_
  refine RL.assign rfl rfl rfl ?_
  refine RL.nil ?_
  refine NX.seq ?_
  refine TR.seq ?_
  refine TR.open (fun w hw => (St.exOpen (show St w (Ex _ :: _) _ from hw))) (fun ic => ?_)
  refine TR.region ?_
  refine RL.move rfl rfl rfl ?_
  refine RL.nilCheck rfl rfl rfl ?_
  refine RL.fieldAddr rfl wj_tf65_4 rfl rfl ?_
  refine RL.load1 0 rfl wj_ts35 rfl rfl rfl rfl ?_
  refine RL.assign rfl rfl rfl ?_
  refine RL.nil ?_
  refine NX.seq ?_
  refine TR.seq ?_
  refine TR.region ?_
  refine RL.move rfl rfl rfl ?_
  refine RL.nilCheck rfl rfl rfl ?_
  refine RL.fieldAddr rfl wj_tf65_4 rfl rfl ?_
  refine RL.store1 0 rfl wj_ts35 rfl rfl rfl rfl rfl ?_
  refine RL.nil ?_
  refine NX.seq ?_
  refine TR.seq ?_
  refine TR.region ?_
  refine RL.move rfl rfl rfl ?_
  refine RL.assign rfl rfl rfl ?_
  refine RL.nil ?_
  refine NX.seq ?_
  refine TR.ret ?_
  refine NX.ret1 (ic.co, ic.cc) rfl rfl rfl (fun w hw => ?_)
  have h1 := OwnSl.nil_new 9 1 ((hw.to 5 [0, 1, 2, 4, 3] 0 [] rfl))
  exact St.swap2 (St.engIClose { X with comp := [] } (⟨ic.ib, ic.qb, none, 0, ic.so, ic.sn, ic.sc, ic.ab⟩ : EI) rfl rfl rfl rfl rfl rfl (show St w (_ :: _ :: _ :: _ :: _ :: _ :: M) F from h1.toM 6 [1, 2, 3, 0, 4, 5] rfl))
end Go.Proofs.Ythefimaaeilefaa

namespace Go.GL
set_option linter.unusedVariables false
def offQ (y : QM) : QM := { y with q := { y.q with ok := false } }
def dbt (qs : List (Ky × QM)) (left : List Ky) : List (Ky × QM) := qs.map fun p => (p.1, if p.1 ∈ left then p.2 else offQ p.2)
theorem dbt_all (qs : List (Ky × QM)) : dbt qs (qs.map Prod.fst) = qs := by
  unfold dbt
  rw [show (qs.map fun p => (p.1, if p.1 ∈ qs.map Prod.fst then p.2 else offQ p.2)) = qs.map id from List.map_congr_left fun p hp => by rw [if_pos (List.mem_map_of_mem (f := Prod.fst) hp)]; rfl, List.map_id]
theorem dbt_nil (qs : List (Ky × QM)) : dbt qs [] = qs.map fun p => (p.1, offQ p.2) := by
  unfold dbt
  refine List.map_congr_left fun p _ => ?_
  rw [if_neg (by simp)]
theorem dbt_ptr (qs : List (Ky × QM)) (left : List Ky) : qsC (dbt qs left) = qsC qs := by
  unfold qsC dbt
  rw [List.map_map]
  refine List.map_congr_left fun p _ => ?_
  show (p.1, PtV (if p.1 ∈ left then p.2 else offQ p.2).ptr) = _
  split <;> rfl
theorem dbt_at {qs : List (Ky × QM)} {left : List Ky} {j : Nat} {k : Ky} {y : QM} (hj : qs[j]? = some (k, y)) (hk : k ∈ left) : (dbt qs left)[j]? = some (k, y) := by
  unfold dbt
  rw [List.getElem?_map, hj]
  show some (k, if k ∈ left then y else offQ y) = _
  rw [if_pos hk]
theorem dbt_step {qs : List (Ky × QM)} {left : List Ky} {j : Nat} {k : Ky} {y : QM} (hn : (qs.map Prod.fst).Nodup) (hj : qs[j]? = some (k, y)) : dbt qs (left.filter fun x => !decide (x = k)) = (dbt qs left).set j (k, offQ y) := by
  refine List.ext_getElem? fun i => ?_
  rw [List.getElem?_set]
  unfold dbt
  rw [List.getElem?_map, List.length_map]
  by_cases e : j = i
  · subst e
    rw [if_pos rfl, if_pos (List.getElem?_eq_some_iff.1 hj).1, hj]
    show some (k, if k ∈ left.filter _ then y else offQ y) = _
    rw [if_neg (by simp)]
  · rw [if_neg e, List.getElem?_map]
    cases hi : qs[i]? with
    | none => rfl
    | some p =>
      have hpk : p.1 ≠ k := by
        rintro rfl
        have h1 : (qs.map Prod.fst)[i]? = some p.1 := by rw [List.getElem?_map, hi]; rfl
        have h2 : (qs.map Prod.fst)[j]? = some p.1 := by rw [List.getElem?_map, hj]; rfl
        exact e ((List.getElem?_inj (List.getElem?_eq_some_iff.1 h2).1 hn).1 (h2.trans h1.symm))
      show some (p.1, _) = some (p.1, _)
      congr 2
      simp [hpk]
end Go.GL

namespace Go.Proofs.Ythefimaaeilefaa
open Go.GL
set_option linter.unusedVariables false
theorem wk_tf65_3 : fieldOff Try.prog 65 3 3 = true := by kernel_rfl
theorem wk_tf87_3 : fieldOff Try.prog 87 3 4 = true := by kernel_rfl
theorem wk_tm61 : tyMap Try.prog 61 9 81 = true := by kernel_rfl
theorem wk_ts61 : tyScalar Try.prog 61 = true := by kernel_rfl
theorem wk_tz4 : tySize Try.prog 4 1 = true := by kernel_rfl
theorem QF.off {qs : List (Ky × QM)} {w : World} {K : List Nat} (h : (QF qs).p w K) : (QF (qs.map fun p => (p.1, offQ p.2))).p w K := fun p hp => by
  obtain ⟨q, hq, rfl⟩ := List.mem_map.1 hp
  exact h q hq
theorem doubt_spec {b : Nat} {bud : Int} {fv : Value} {X : EX} {M : List HP} {F : List Fact} (hQ : QF X.qs ∈ F) : Ctr Try.prog 30 [PtV b] (EngI b bud fv X :: M) F Unit (fun _ => .tuple #[]) (fun _ => EngI b bud fv ({ X with qs := X.qs.map fun p => (p.1, offQ p.2) }) :: M) (fun _ => QF ({ X with qs := X.qs.map fun p => (p.1, offQ p.2) } : EX).qs :: F) := by
  refine Ctr.body Try.func30 rfl rfl ?_
  refine TR.seq ?_
  refine TR.open (fun w hw => (St.exOpen (show St w (Ex _ :: _) _ from hw))) (fun ic => ?_)
  refine TR.open1 (fun w hw => ⟨mp_nodup (i := 2) hw rfl, hw⟩) (fun hnd => ?_)
  rw [qsC_keys] at hnd
  refine TR.region ?_
  refine RL.move rfl rfl rfl ?_
  refine RL.nilCheck rfl rfl rfl ?_
  refine RL.fieldAddr rfl wk_tf65_3 rfl rfl ?_
  refine RL.load1 0 rfl wk_ts61 rfl rfl rfl rfl ?_
  refine RL.ofGV rfl rfl (GV.range 2 wk_tm61 rfl rfl) (fun q => ?_)
  refine RL.nil ?_
  refine NX.seq ?_
  refine TR.block ?_
  refine TR.loopP (ι := (List Ky × Option Ky)) (fun x => True) (fun x => [(8, .pointer (some ⟨q, 0, none⟩))]) (fun x => Box b 65 [I bud, fv, .map (some ic.ib), .map (some ic.qb), .slice ic.co X.comp.length ic.cc, I X.gets, I (X.fuel : Nat), .bool X.out, .slice ic.so ic.sn ic.sc, .map ic.ab] :: MpB ic.ib (inC X.inp) :: RgB ic.qb q (qsC X.qs) x.1 x.2 :: OwnSl 9 1 ic.co X.comp.length ic.cc (coC X.comp) :: Al ((dbt X.qs x.1).map qB) :: M) (fun x => F) (fun x => x.1.length) ((qsC X.qs).map Prod.fst, none) trivial ⟨rfl, trivial⟩ (fun w hw => (by have h9 := (hw.to 5 [0, 1, 2, 3, 4] 0 [] rfl); show St w (_ :: _ :: _ :: _ :: Al ((dbt X.qs ((qsC X.qs).map Prod.fst)).map qB) :: M) F; rw [show dbt X.qs ((qsC X.qs).map Prod.fst) = X.qs from by rw [qsC_keys, dbt_all]]; exact h9)) (fun x hx => ?_)
  refine TR.seq ?_
  refine TR.region ?_
  refine RL.ofGV rfl rfl (GV.next 2 rfl rfl) (fun nx => ?_)
  obtain ⟨_ | nx, hnx⟩ := nx
  · skip
    refine RL.extract rfl rfl rfl rfl ?_
    refine RL.nil ?_
    refine NX.seq ?_
    refine TR.seq ?_
    refine TR.condF rfl ?_
    refine TR.exit ?_
    refine NX.exitThen ?_
    refine NX.exitThen ?_
    refine NX.exitHere ?_
    have hl : x.1 = [] := hnx
    refine NX.end0 () rfl rfl (fun w hw => ?_)
    have h1 := St.engIClose ({ X with qs := X.qs.map fun p => (p.1, offQ p.2) }) ic rfl rfl (show qsC X.qs = qsC (X.qs.map fun p => (p.1, offQ p.2)) from by rw [← dbt_nil, dbt_ptr]) rfl rfl (show (dbt X.qs x.1).map qB = (X.qs.map fun p => (p.1, offQ p.2)).map qB from by rw [hl, dbt_nil]) ((hw.to 5 [0, 1, 2, 3, 4] 0 [] rfl))
    exact h1.derive (ψ := QF ({ X with qs := X.qs.map fun p => (p.1, offQ p.2) } : EX).qs) (fun K hf => QF.off (hf _ hQ))
  · skip
    refine RL.extract rfl rfl rfl rfl ?_
    refine RL.nil ?_
    refine NX.seq ?_
    refine TR.seq ?_
    refine TR.condT rfl ?_
    refine TR.skip ?_
    refine NX.seq ?_
    refine TR.block ?_
    refine TR.seq ?_
    refine TR.region ?_
    obtain ⟨nk, nv⟩ := nx
    obtain ⟨y, hy, hyv⟩ := qsC_mem hnx.2
    have hyv2 : nv = PtV y.ptr := hyv
    subst hyv2
    have hgy : aGet X.qs nk = some y := aGet_of hnd hy
    obtain ⟨j, hj, _⟩ := aGet_at hgy
    dsimp only
    refine RL.entry 2 rfl rfl rfl hnx.2 rfl ?_
    refine RL.extract rfl rfl rfl rfl ?_
    refine RL.assign rfl rfl rfl ?_
    refine RL.nil ?_
    refine NX.seq ?_
    refine TR.region ?_
    refine RL.move rfl rfl rfl ?_
    refine RL.nilCheck rfl rfl rfl ?_
    refine RL.fieldAddr rfl wk_tf87_3 rfl rfl ?_
    refine RL.ofEV rfl rfl (EV.storeAl (vs := [_]) 4 (j) rfl rfl rfl (qb_at (dbt_at hj hnx.1)) wk_tz4 rfl (Nat.le_of_ble_eq_true rfl) rfl) ?_
    refine RL.nil ?_
    refine NX.off ?_
    refine NX.roundP (x.1.filter fun y => !decide (y = nk), some nk) trivial (leftS_lt hnx.1) ⟨rfl, trivial⟩ (fun w hw => (by have h9 := (hw.to 5 [0, 1, 2, 3, 4] 0 [] rfl); show St w (_ :: _ :: _ :: _ :: Al ((dbt X.qs (x.1.filter fun y => !decide (y = nk))).map qB) :: M) F; rw [dbt_step hnd hj, List.map_set]; exact h9))
end Go.Proofs.Ythefimaaeilefaa

namespace Go.GL
set_option linter.unusedVariables false
section
variable {ob : Ky → Nat → En → An × En}
theorem hit_fuel (e : En) (by_ : Option Nat) (i : Nat) : (hit e by_ i).fuel = e.fuel ∧ (hit e by_ i).out = e.out := by
  unfold hit
  split
  · exact ⟨rfl, rfl⟩
  · split <;> exact ⟨rfl, rfl⟩
theorem bump_fuel (e : En) (by_ : Option Nat) (m : Nat) : (bump e by_ m).fuel = e.fuel ∧ (bump e by_ m).out = e.out := by
  unfold bump
  split <;> exact ⟨rfl, rfl⟩
theorem leave_fuel (by_ : Option Nat) (own : Nat) (e : En) : (leave by_ own e).2.fuel = e.fuel ∧ (leave by_ own e).2.out = e.out := by
  unfold leave
  split
  · exact ⟨rfl, rfl⟩
  · split
    · exact bump_fuel e by_ _
    · exact ⟨rfl, rfl⟩
end
section
variable {ob : Ky → Nat → En → An × En}
end
def Alive (n : Nat) (e e' : En) : Prop := e.out = false ∨ (e'.out = false ∧ n ≤ e'.fuel)
section
variable {ob : Ky → Nat → En → An × En} {n : Nat}
theorem Alive.back {n : Nat} {e e' f f' : En} (h : Alive n f f') (h1 : e.out = true → f.out = true) (h2 : e'.out = true → f'.out = true) (h3 : f'.fuel ≤ e'.fuel) : Alive n e e' := by
  rcases h with h | ⟨h, h'⟩
  · left
    cases ho : e.out with
    | false => rfl
    | true => rw [h1 ho] at h; cases h
  · right
    refine ⟨?_, by omega⟩
    cases ho : e'.out with
    | false => rfl
    | true => rw [h2 ho] at h; cases h
end
def Kn (e : En) (k : Ky) : Prop := okOf e.qs k ≠ none ∨ k ∈ e.st.map Fr.key
instance (e : En) (k : Ky) : Decidable (Kn e k) := by
  unfold Kn
  have : Decidable (okOf e.qs k ≠ none) := by
    cases h : okOf e.qs k with
    | none => exact isFalse (by simp)
    | some q => exact isTrue (by simp)
  exact inferInstance
def pot (U : List Ky) (e : En) : Nat := (U.filter fun k => !decide (Kn e k)).length
theorem filter_le_of {p q : Ky → Bool} : ∀ {l : List Ky}, (∀ x, x ∈ l → p x = true → q x = true) → (l.filter p).length ≤ (l.filter q).length
  | [], _ => Nat.le_refl _
  | a :: l, h => by
    have ih := filter_le_of (l := l) fun x hx => h x (.tail _ hx)
    rw [List.filter_cons, List.filter_cons]
    by_cases hp : p a = true
    · rw [if_pos hp, if_pos (h a (.head _) hp), List.length_cons, List.length_cons]; omega
    · rw [if_neg hp]
      split
      · rw [List.length_cons]; omega
      · exact ih
theorem filter_lt_of {p q : Ky → Bool} {k : Ky} : ∀ {l : List Ky}, k ∈ l → (∀ x, x ∈ l → p x = true → q x = true) → p k = false → q k = true → (l.filter p).length < (l.filter q).length
  | a :: l, hk, h, hp, hq => by
    rw [List.filter_cons, List.filter_cons]
    rcases List.mem_cons.1 hk with rfl | hk
    · rw [if_neg (by rw [hp]; decide), if_pos hq, List.length_cons]
      have := filter_le_of (l := l) fun x hx => h x (.tail _ hx)
      omega
    · have ih := filter_lt_of hk (fun x hx => h x (.tail _ hx)) hp hq
      by_cases hp2 : p a = true
      · rw [if_pos hp2, if_pos (h a (.head _) hp2), List.length_cons, List.length_cons]; omega
      · rw [if_neg hp2]
        split
        · rw [List.length_cons]; omega
        · exact ih
def KnLe (e e' : En) : Prop := ∀ k, Kn e k → Kn e' k
theorem KnLe.refl (e : En) : KnLe e e := fun _ h => h
theorem KnLe.trans {a b c : En} (h : KnLe a b) (h' : KnLe b c) : KnLe a c := fun k hk => h' k (h k hk)
theorem KnLe.same {e e' : En} (h1 : e'.qs = e.qs) (h2 : e'.st.map Fr.key = e.st.map Fr.key) : KnLe e e' := fun k hk => by unfold Kn at hk ⊢; rw [h1, h2]; exact hk
theorem KnLe.pot {U : List Ky} {e e' : En} (h : KnLe e e') : pot U e' ≤ pot U e := filter_le_of fun x _ hx => by
  simp only [Bool.not_eq_true', decide_eq_false_iff_not] at hx ⊢
  exact fun hn => hx (h x hn)
theorem mod_kn (e : En) (i : Nat) (f : Fr → Fr) (hf : ∀ g, (f g).key = g.key) : KnLe e (e.mod i f) := KnLe.same rfl (upd_map Fr.key _ _ _ hf)
theorem hit_kn (e : En) (by_ : Option Nat) (i : Nat) : KnLe e (hit e by_ i) := by
  unfold hit
  split
  · exact KnLe.refl e
  · split
    · exact KnLe.refl e
    · exact mod_kn _ _ _ fun _ => rfl
theorem bump_kn (e : En) (by_ : Option Nat) (m : Nat) : KnLe e (bump e by_ m) := by
  unfold bump
  split
  · exact KnLe.refl e
  · exact mod_kn _ _ _ fun _ => rfl
theorem aSet_ok {qs : List (Ky × Qy)} {k : Ky} {q : Qy} (h : q.ok = true) (j : Ky) (hj : okOf qs j ≠ none) : okOf (aSet qs k q) j ≠ none := by
  rw [okOf_set h]
  split
  · simp
  · exact hj
theorem touch_kn {e : En} {k : Ky} {q : Qy} (hq : okOf e.qs k = some q) : KnLe e (touch e k q) := fun j hj => by
  rcases hj with hj | hj
  · exact .inl (aSet_ok (q := { q with used := e.gets }) (okOf_get hq).2 j hj)
  · exact .inr hj
theorem putAll_ok {gets : Int} {c : Bool} : ∀ {grp : List Fr} {qs : List (Ky × Qy)} {j : Ky}, (okOf qs j ≠ none ∨ j ∈ grp.map Fr.key) → okOf (putAll gets c grp qs) j ≠ none
  | [], qs, j, h => h.elim (fun h => h) (fun h => absurd h (by simp))
  | f :: l, qs, j, h => by
    refine putAll_ok (grp := l) (qs := aSet qs f.key (toQ gets (c || f.self) f)) ?_
    rcases h with h | h
    · exact .inl (aSet_ok rfl j h)
    · rw [List.map_cons, List.mem_cons] at h
      rcases h with h | h
      · left; rw [okOf_set rfl, if_pos h.symm]; simp
      · exact .inr h
theorem settle_kn (own : Nat) (e : En) : KnLe e (settle own e).2 := fun j hj => by
  have h2 : j ∈ e.st.map Fr.key → j ∈ (e.st.take own).map Fr.key ∨ j ∈ (e.st.drop own).map Fr.key := fun h => by
    rw [← List.take_append_drop own e.st, List.map_append, List.mem_append] at h; exact h
  rcases hj with hj | hj
  · exact .inl (putAll_ok (.inl hj))
  · rcases h2 hj with h | h
    · exact .inr h
    · exact .inl (putAll_ok (.inr h))
theorem push_kn (e : En) (k : Ky) : KnLe e (push e k) := fun j hj => hj.elim (fun h => .inl h) fun h => .inr (by
  show j ∈ (e.st ++ [_]).map Fr.key
  rw [List.map_append]; exact List.mem_append_left _ h)
theorem leave_kn (by_ : Option Nat) (own : Nat) (e : En) : KnLe e (leave by_ own e).2 := by
  unfold leave
  split
  · exact KnLe.refl e
  · split
    · exact bump_kn e by_ _
    · exact settle_kn own e
section
variable {rule : Ky → Ru} {U : List Ky}
def Rich (U : List Ky) (c : Nat) (e : En) : Prop := e.out = false ∧ pot U e + c ≤ e.fuel
def Rob (U : List Ky) (ob : Ky → Nat → En → An × En) : Prop := ∀ k b e c, k ∈ U → Wk U e → Rich U c e → Rich U c (ob k b e).2 ∧ KnLe e (ob k b e).2
variable {ob : Ky → Nat → En → An × En}
theorem Rich.le {c : Nat} {e e' : En} (h : Rich U c e) (h1 : KnLe e e') (h2 : e'.out = e.out) (h3 : e'.fuel = e.fuel) : Rich U c e' := ⟨h2.trans h.1, by have := h1.pot (U := U); have := h.2; omega⟩
theorem hold_rich (hw : Wob U ob) (hr : Rob U ob) {own c : Nat} : ∀ (T : Tr) (e : En), (∀ p, p ∈ T → p.1 ∈ U) → Wk U e → Rich U c e → Rich U c (holdG ob own T e).2 ∧ KnLe e (holdG ob own T e).2
  | [], e, _, _, h => ⟨h, KnLe.refl e⟩
  | (k, a) :: T, e, hT, hwk, h => by
    obtain ⟨h1, h2⟩ := hr k own e c (hT _ (.head _)) hwk h
    rw [holdG]
    split
    · exact ⟨h1, h2⟩
    · obtain ⟨h3, h4⟩ := hold_rich hw hr (own := own) T (ob k own e).2 (fun p hp => hT p (.tail _ hp)) (hw k own e (hT _ (.head _)) hwk).1 h1
      exact ⟨h3, h2.trans h4⟩
theorem run_rich (hw : Wob U ob) (hr : Rob U ob) {own c : Nat} {k0 : Ky} {r : Ru} (hin : RuIn U r) : RuB k0 r → ∀ {e : En}, own < e.st.length → Wk U e → Rich U c e → Rich U c (runG ob own r e).2 ∧ KnLe e (runG ob own r e).2 := by
  induction hin with
  | ret a => exact fun _ _ _ _ h => ⟨h, KnLe.refl _⟩
  | @ask k f hk _ ih =>
    intro hb e hl hwk h
    cases hb with | ask hb => ?_
    rw [runG_ask]
    obtain ⟨w1, w2, w3⟩ := ask_w3 hw hk hl hwk
    have h0 : Rich U c (askG ob own k e).2 ∧ KnLe e (askG ob own k e).2 := by
      unfold askG
      split
      · exact ⟨h, KnLe.refl e⟩
      · obtain ⟨h1, h2⟩ := hr k own e c hk hwk h
        have h3 : KnLe (ob k own e).2 (addTr (ob k own e).2 own k (ob k own e).1) := mod_kn _ _ _ fun _ => rfl
        exact ⟨h1.le h3 rfl rfl, h2.trans h3⟩
    obtain ⟨h4, h5⟩ := ih (askG ob own k e).1 (hb _ w3) (w2.lt hl) w1 h0.1
    exact ⟨h4, h0.2.trans h5⟩
theorem comp_rich (hw : Wob U ob) (hr : Rob U ob) {own c : Nat} {r : Ru} (k : Ky) (hin : RuK U k r) {e : En} (hl : own < e.st.length) (hwk : Wk U e) (h : Rich U (c + 1) e) : Rich U c (compG ob r k own e) ∧ KnLe e (compG ob r k own e) := by
  have hf := h.2
  have h1 : ¬ (e.out = true ∨ e.fuel = 0) := fun h2 => h2.elim (fun h2 => by rw [h.1] at h2; cases h2) (fun h2 => by omega)
  have hR : Rich U c { e with fuel := e.fuel - 1 } := ⟨h.1, by have h9 : pot U { e with fuel := e.fuel - 1 } = pot U e := rfl; rw [h9]; show _ ≤ e.fuel - 1; omega⟩
  obtain ⟨h3, h4⟩ := run_rich hw hr (own := own) hin.i hin.b (e := { e with fuel := e.fuel - 1 }) hl (hwk.same rfl rfl rfl) hR
  unfold compG
  rw [if_neg h1, if_neg (by rw [h3.1]; decide)]
  have h5 : KnLe (runG ob own r { e with fuel := e.fuel - 1 }).2 { setOwn (runG ob own r { e with fuel := e.fuel - 1 }).2 own (runG ob own r { e with fuel := e.fuel - 1 }).1 with comp := (runG ob own r { e with fuel := e.fuel - 1 }).2.comp ++ [k] } := KnLe.same rfl (upd_map Fr.key _ _ _ fun _ => rfl)
  exact ⟨h3.le h5 rfl rfl, KnLe.trans (fun j hj => hj) (h4.trans h5)⟩
theorem push_pot {e : En} {k : Ky} (hk : k ∈ U) (hn : ¬ Kn e k) : pot U (push e k) + 1 ≤ pot U e := by
  refine filter_lt_of (k := k) hk (fun x _ hx => ?_) ?_ ?_
  · simp only [Bool.not_eq_true', decide_eq_false_iff_not] at hx ⊢
    exact fun h => hx (push_kn e k x h)
  · simp only [Bool.not_eq_false', decide_eq_true_eq]
    right
    show k ∈ (e.st ++ [_]).map Fr.key
    rw [List.map_append]; exact List.mem_append_right _ (by simp)
  · simp only [Bool.not_eq_true', decide_eq_false_iff_not]; exact hn
theorem visit_rich (hw : Wob U ob) (hr : Rob U ob) {c : Nat} {r : Ru} {k : Ky} (hin : RuK U k r) (hk : k ∈ U) {e : En} (hx : frIdx e.st k = none) (hn : ¬ Kn e k) (hwk : Wk U e) (h : Rich U c e) : Rich U c (visit ob r k e) ∧ KnLe e (visit ob r k e) := by
  have hp := push_wk hwk hk hx
  have hl : e.st.length < (push e k).st.length := by show _ < (e.st ++ [_]).length; simp
  have hR : Rich U (c + 1) (push e k) := ⟨h.1, by have h1 := push_pot hk hn; have h2 := h.2; show _ ≤ e.fuel; omega⟩
  have hkn := push_kn e k
  unfold visit
  split
  · rename_i q hq
    have hqt := hwk.qs _ (aGet_mem hq)
    obtain ⟨h1, h2⟩ := hold_rich hw hr (own := e.st.length) q.tr (push e k) hqt.mem hp hR
    obtain ⟨w1, w2⟩ := hold_wk hw (own := e.st.length) q.tr hqt.mem hp
    split
    · have h5 : KnLe (holdG ob e.st.length q.tr (push e k)).2 (setFr (holdG ob e.st.length q.tr (push e k)).2 e.st.length q.own q.tr) := mod_kn _ _ _ fun _ => rfl
      have h6 := h1.le h5 rfl rfl
      exact ⟨⟨h6.1, by have := h6.2; omega⟩, hkn.trans (h2.trans h5)⟩
    · obtain ⟨h3, h4⟩ := comp_rich hw hr k hin (w2.lt hl) w1 h1
      exact ⟨h3, hkn.trans (h2.trans h4)⟩
  · obtain ⟨h3, h4⟩ := comp_rich hw hr k hin hl hp hR
    exact ⟨h3, hkn.trans h4⟩
theorem obt_rich (hr : ∀ k, k ∈ U → RuK U k (rule k)) : ∀ d k by_ e c, k ∈ U → Wk U e → Rich U c e → Rich U c (obt rule d k by_ e).2 ∧ KnLe e (obt rule d k by_ e).2
  | 0, k, by_, e, c, _, _, h => ⟨h, KnLe.refl e⟩
  | d + 1, k, by_, e, c, hk, hwk, h => by
    have ho : ¬ e.out = true := by rw [h.1]; decide
    rw [obt, if_neg ho]
    split
    · exact ⟨h, KnLe.refl e⟩
    · split
      · exact ⟨h.le (hit_kn e by_ _) (hit_fuel e by_ _).2 (hit_fuel e by_ _).1, hit_kn e by_ _⟩
      · rename_i hx
        split
        · rename_i q hq
          exact ⟨h.le (touch_kn hq) rfl rfl, touch_kn hq⟩
        · rename_i hq
          have hn : ¬ Kn e k := fun hn => hn.elim (fun hn => hn hq) fun hn => by
            obtain ⟨f, hf, hfk⟩ := List.mem_map.1 hn
            exact frIdx_none hx f hf hfk
          obtain ⟨h1, h2⟩ := visit_rich (ob := fun k b e => obt rule d k (some b) e) (obt_wob hr d) (fun k b e c => obt_rich hr d k (some b) e c) (hr k hk) hk hx hn hwk h
          have h3 := leave_kn by_ e.st.length (visit (fun k b e => obt rule d k (some b) e) (rule k) k e)
          exact ⟨h1.le h3 (leave_fuel _ _ _).2 (leave_fuel _ _ _).1, h2.trans h3⟩
theorem obt_in (hr : ∀ k, k ∈ U → RuK U k (rule k)) {d : Nat} {k : Ky} {by_ : Option Nat} {e : En} (hk : k ∈ U) (hw : Wk U e) (ho : e.out = false) (hf : U.length ≤ e.fuel) : (obt rule d k by_ e).2.out = false :=
  (obt_rich hr d k by_ e 0 hk hw ⟨ho, by have h1 : pot U e ≤ U.length := List.length_filter_le _ _; omega⟩).1.1
end
def getE (rule : Ky → Ru) (d : Nat) (k : Ky) (fuel : Nat) (e : En) : An × En := obt rule d k none { e with gets := e.gets + 1, fuel := fuel, out := false, st := [] }
def offY (q : Qy) : Qy := { q with ok := false }
def setE (k : Ky) (v : List UInt8) (e : En) : En := if aGet e.inp k = some v then e else { e with inp := aSet e.inp k v, qs := (aDel e.qs k).map fun p => (p.1, offY p.2) }
def newE : En := ⟨[], [], [], 0, 0, false, []⟩
section
variable {rule : Ky → Ru} {U : List Ky}
structure Bt (rule : Ky → Ru) (U : List Ky) (e : En) : Prop where
  q : QInv rule U e
  w : Wk U { e with st := [] }
theorem Bt.nil (inp : List (Ky × List UInt8)) (hi : ∀ p, p ∈ inp → AnB p.1 ⟨p.2, 0⟩) : Bt rule U { newE with inp := inp } := ⟨⟨by simp [newE], (fun k q h => by cases h), ⟨(fun k q h => by cases h), (fun k q h => by cases h), (fun k q h => by cases h), (fun k q h => by cases h)⟩⟩, ⟨by simp, (fun f hf => by cases hf), (fun p hp => by cases hp), hi, (fun f hf => by cases hf), (fun p hp => by cases hp)⟩⟩
theorem Bt.new : Bt rule U newE := Bt.nil [] (fun p hp => by cases hp)
theorem okOf_off (qs : List (Ky × Qy)) (k : Ky) : okOf (qs.map fun p => (p.1, offY p.2)) k = none := by
  induction qs with
  | nil => rfl
  | cons p l ih =>
    unfold okOf at ih ⊢
    rw [List.map_cons, aGet]
    split
    · rename_i q hq
      split at hq
      · cases hq; rfl
      · rw [hq] at ih; exact ih
    · rfl
theorem aGet_off (qs : List (Ky × Qy)) (k : Ky) : aGet (qs.map fun p => (p.1, offY p.2)) k = (aGet qs k).map offY := by
  induction qs with
  | nil => rfl
  | cons p l ih =>
    rw [List.map_cons, aGet, aGet]
    split
    · rfl
    · exact ih
theorem Bt.set {e : En} (h : Bt rule U e) (k : Ky) (v : List UInt8) (hv : AnB k ⟨v, 0⟩) : Bt rule U (setE k v e) := by
  unfold setE
  split
  · exact h
  · refine ⟨⟨?_, fun j q hj => ?_, ?_⟩, by simp, (fun f hf => by cases hf), (fun p hp => ?_), (fun p hp => ?_), (fun f hf => by cases hf), fun p hp => ?_⟩
    · show (((aDel e.qs k).map fun p => (p.1, offY p.2)).map Prod.fst).Nodup
      rw [List.map_map]
      exact h.q.nd.sublist ((aDel_sub e.qs k).map _)
    · have hj : aGet ((aDel e.qs k).map fun p => (p.1, offY p.2)) j = some q := hj
      rw [aGet_off, aGet_del h.q.nd] at hj
      split at hj
      · cases hj
      · rename_i hne
        obtain ⟨q0, hq0, rfl⟩ := Option.map_eq_some_iff.1 hj
        obtain ⟨h1, h2, h3, h4⟩ := h.q.old j q0 hq0
        refine ⟨?_, h2, h3, h4⟩
        show aGet (aSet e.inp k v) j = none
        rw [aGet_set, if_neg hne]; exact h1
    · have hz : ∀ j, okOf ({ e with inp := aSet e.inp k v, qs := (aDel e.qs k).map fun p => (p.1, offY p.2) } : En).qs j = none := fun j => okOf_off _ j
      exact ⟨fun j q hj => (by rw [hz] at hj; cases hj), fun j q hj => (by rw [hz] at hj; cases hj), fun j q hj => (by rw [hz] at hj; cases hj), fun j q hj => (by rw [hz] at hj; cases hj)⟩
    · obtain ⟨p0, hp0, rfl⟩ := List.mem_map.1 hp
      exact h.w.qs p0 ((aDel_sub e.qs k).mem hp0)
    · rcases aSet_mem hp with hp | hp
      · exact h.w.ib p hp
      · rw [hp]; exact hv
    · obtain ⟨p0, hp0, rfl⟩ := List.mem_map.1 hp
      exact h.w.qb p0 ((aDel_sub e.qs k).mem hp0)
theorem Bt.comp {e : En} (h : Bt rule U e) (c : List Ky) : Bt rule U { e with comp := c } := ⟨h.q.same rfl rfl, h.w.same rfl rfl rfl⟩
theorem Bt.get {e : En} (hr : ∀ k, k ∈ U → RuK U k (rule k)) {d fuel : Nat} {k : Ky} (hd : U.length < d) (hk : k ∈ U) (h : Bt rule U e) : Bt rule U (getE rule d k fuel e).2 ∧ (getE rule d k fuel e).2.inp = e.inp ∧
    ((getE rule d k fuel e).2.out = false → (getE rule d k fuel e).2.st = [] ∧ AnsF (getE rule d k fuel e).2 k (getE rule d k fuel e).1) ∧ ((getE rule d k fuel e).2.out = true → (getE rule d k fuel e).1 = fuelA) ∧ (U.length ≤ fuel → (getE rule d k fuel e).2.out = false) := by
  have hq : QInv rule U { e with gets := e.gets + 1, fuel := fuel, out := false, st := [] } := h.q.same rfl rfl
  have hw : Wk U { e with gets := e.gets + 1, fuel := fuel, out := false, st := [] } := h.w.same rfl rfl rfl
  obtain ⟨h1, h2, h3, h4, _⟩ := get_ok (fun k hk => (hr k hk).i) hd hq rfl hk
  have hw2 := (obt_wk hr d k none _ hk hw).1
  exact ⟨⟨h1, ⟨by simp, (fun f hf => by cases hf), hw2.qs, hw2.ib, (fun f hf => by cases hf), hw2.qb⟩⟩, h2.inp, h3 rfl, h4 rfl, fun hf => obt_in hr hk hw rfl hf⟩
end
end Go.GL

namespace Go.GL
set_option linter.unusedVariables false
theorem al_sub {w : World} {M : List HP} {F : List Fact} {L L' : List HP} (hs : L'.Sublist L) : ∀ {M : List HP}, St w (L ++ M) F → St w (L' ++ M) F := by
  induction hs with
  | slnil => exact fun h => h
  | cons a _ ih => intro M h; exact ih (show St w (_ ++ _) F from (show St w (a :: (_ ++ _)) F from h).tail)
  | @cons_cons l1 l2 a _ ih =>
    intro M h
    have h1 : St w (l2 ++ a :: M) F := (show St w (a :: (l2 ++ M)) F from h).perm List.perm_middle.symm
    exact (ih h1).perm List.perm_middle
theorem al_del {w : World} {M : List HP} {F : List Fact} {qs : List (Ky × QM)} {k : Ky} (h : St w (Al (qs.map qB) :: M) F) : St w (Al ((aDel qs k).map qB) :: M) F :=
  St.alClose (al_sub (M := M) ((aDel_sub qs k).map qB) (St.alOpen h))
def setX (k : Ky) (v : List UInt8) (X : EX) : EX := if aGet X.inp k = some v then X else { X with inp := aSet X.inp k v, qs := (aDel X.qs k).map fun p => (p.1, offQ p.2) }
theorem aDel_map {α β : Type} (g : α → β) : ∀ (l : List (Ky × α)) (k : Ky), (aDel l k).map (fun p => (p.1, g p.2)) = aDel (l.map fun p => (p.1, g p.2)) k
  | [], k => rfl
  | p :: l, k => by
    simp only [List.map_cons, aDel]
    by_cases e : p.1 = k
    · rw [if_pos e, if_pos e]
    · rw [if_neg e, if_neg e, List.map_cons, aDel_map g l k]
theorem setX_en (k : Ky) (v : List UInt8) (X : EX) : (setX k v X).en = setE k v X.en := by
  unfold setX setE
  by_cases h : aGet X.inp k = some v
  · rw [if_pos h]; exact (if_pos (show aGet X.en.inp k = some v from h)).symm
  · rw [if_neg h]
    refine Eq.trans ?_ (if_neg (show ¬ aGet X.en.inp k = some v from h)).symm
    show (⟨aSet X.inp k v, ((aDel X.qs k).map fun p => (p.1, offQ p.2)).map (fun p => (p.1, p.2.q)), X.comp, X.gets, X.fuel, X.out, X.fs.map FM.f⟩ : En) = ⟨aSet X.inp k v, (aDel (X.qs.map fun p => (p.1, p.2.q)) k).map (fun p => (p.1, offY p.2)), X.comp, X.gets, X.fuel, X.out, X.fs.map FM.f⟩
    rw [← aDel_map (fun p : QM => p.q), List.map_map, List.map_map]
    rfl
theorem QF.del {qs : List (Ky × QM)} {k : Ky} {w : World} {K : List Nat} (h : (QF qs).p w K) : (QF (aDel qs k)).p w K := fun p hp => h p ((aDel_sub qs k).mem hp)
def newX : EX := ⟨[], [], [], 0, 0, false, []⟩
def begX (fuel : Nat) (X : EX) : EX := { X with gets := X.gets + 1, fuel := fuel, out := false, fs := [] }
theorem St.toI {w : World} {M : List HP} {F : List Fact} {b : Nat} {bud : Int} {fv : Value} {X : EX} (h : St w (EngB b bud fv X :: M) F) : St w (EngI b bud fv X :: M) F := by
  obtain ⟨ic, h1⟩ := St.exOpen h
  have h2 := h1.toM 8 [0, 1, 2, 4, 7] rfl
  exact St.engIClose X (⟨ic.ib, ic.qb, ic.co, ic.cc, ic.so, X.fs.length, ic.sc, some ic.ab⟩ : EI) rfl rfl rfl rfl rfl rfl (show St w (_ :: _ :: _ :: _ :: _ :: M) F from h2)
def sizE (e : En) (k : Ky) : Nat := match aGet e.qs k with | some q => k.length + q.own.s.length | none => 0
def bytesE (e : En) : Nat := sumS (sizE e) (e.qs.map Prod.fst)
theorem bytes_en (X : EX) : bytesQ X.qs = bytesE X.en := by
  unfold bytesQ bytesE
  have h1 : X.en.qs.map Prod.fst = X.qs.map Prod.fst := by show (X.qs.map (fun p => (p.1, p.2.q))).map Prod.fst = _; rw [List.map_map]; rfl
  have h2 : sizE X.en = qSize X.qs := by
    funext k
    unfold sizE qSize
    rw [show aGet X.en.qs k = (aGet X.qs k).map (fun x => x.q) from aGet_map (fun p : QM => p.q) X.qs k]
    cases aGet X.qs k <;> rfl
  rw [h1, h2]
theorem sumS_le {g : Ky → Nat} {c : Nat} : ∀ (l : List Ky), (∀ k, k ∈ l → g k ≤ c) → sumS g l ≤ l.length * c
  | [], _ => Nat.zero_le _
  | a :: l, h => by
    have h1 := sumS_le l fun k hk => h k (.tail _ hk)
    have h2 := h a (.head _)
    simp only [sumS, List.map_cons, List.sum_cons, List.length_cons] at h1 ⊢
    rw [Nat.succ_mul]; omega
section
variable {rule : Ky → Ru} {U : List Ky}
end
end Go.GL

namespace Go.GL
set_option linter.unusedVariables false
def tyFn (P : Program) (t : Nat) : Bool := match P.underlying t with | some (.func ..) => true | _ => false
theorem tyFn_is {P : Program} {t : Nat} (h : tyFn P t = true) : ∃ a b c, P.underlying t = some (.func a b c) := by
  unfold tyFn at h
  split at h
  · rename_i a b c he; exact ⟨a, b, c, he⟩
  · cases h
theorem run_equalIn_fn {P : Program} {t : Nat} {f : Fn} {a b : Array Value} (h : tyFn P t = true) (n : Nat) (w : World) : (Op.equalIn (n + 1) t (.func f a b) .nilFunc).run P w = .ok false w := by
  obtain ⟨_, _, _, he⟩ := tyFn_is h
  simp [Op.equalIn, run_underlying he]
theorem run_equalIn_ff {P : Program} {t : Nat} (h : tyFn P t = true) (n : Nat) (w : World) : (Op.equalIn (n + 1) t .nilFunc .nilFunc).run P w = .ok true w := by
  obtain ⟨_, _, _, he⟩ := tyFn_is h
  simp [Op.equalIn, run_underlying he]
theorem BinV.eqlFuncNil {P : Program} {t : Nat} {f : Fn} {a b : Array Value} (h : tyFn P t = true) : BinV P .eql t (.func f a b) .nilFunc (.bool false) := by
  refine ⟨fun w => ?_, fun _ _ _ => by simp [eqGuard]⟩
  have h1 : (Op.equal t (.func f a b) .nilFunc).run P w = .ok false w := run_equalIn_fn h 9999 w
  simp only [binOp]
  simp [h1]
theorem BinV.eqlNilNil {P : Program} {t : Nat} (h : tyFn P t = true) : BinV P .eql t .nilFunc .nilFunc (.bool true) := by
  refine ⟨fun w => ?_, fun _ _ _ => by simp [eqGuard]⟩
  have h1 : (Op.equal t .nilFunc .nilFunc).run P w = .ok true w := run_equalIn_ff h 9999 w
  simp only [binOp]
  simp [h1]
def digB (n : Nat) : UInt8 := UInt8.ofNat (48 + n % 10)
def decG : Nat → Nat → List UInt8 → List UInt8
  | 0, _, acc => acc
  | f + 1, n, acc => if n = 0 then acc else decG f (n / 10) (digB n :: acc)
def dec (n : Nat) : List UInt8 := if n = 0 then [48] else decG 5 n []
theorem decG_small : ∀ (f m n : Nat) (acc : List UInt8), n < 10 ^ m → m ≤ f → (decG f n acc).length ≤ m + acc.length
  | 0, m, n, acc, _, _ => by rw [decG]; omega
  | f + 1, m, n, acc, h, hm => by
    rw [decG]
    split
    · omega
    · rename_i hn
      cases m with
      | zero => simp at h; exact absurd h hn
      | succ m =>
        have := decG_small f m (n / 10) (digB n :: acc) (by rw [Nat.pow_succ] at h; omega) (by omega)
        rw [List.length_cons] at this; omega
theorem dec_len {n : Nat} (h : n < 10000) : (dec n).length ≤ 4 := by
  unfold dec
  split
  · simp
  · exact decG_small 5 4 n [] (by simpa using h) (by decide)
theorem dec_len3 {n : Nat} (h : n < 1000) : (dec n).length ≤ 3 := by
  unfold dec
  split
  · simp
  · exact decG_small 5 3 n [] (by simpa using h) (by decide)
def tenB : List UInt8 := [48, 49, 50, 51, 52, 53, 54, 55, 56, 57]
theorem ten_at (n : Nat) : (tenB.take (((n % 10 + 1 : Nat) : Int)).toNat).drop (((n % 10 : Nat) : Int)).toNat = [digB n] := by
  rw [Int.toNat_natCast, Int.toNat_natCast]
  unfold digB
  have h : n % 10 < 10 := Nat.mod_lt _ (by decide)
  generalize n % 10 = n at h
  have : n = 0 ∨ n = 1 ∨ n = 2 ∨ n = 3 ∨ n = 4 ∨ n = 5 ∨ n = 6 ∨ n = 7 ∨ n = 8 ∨ n = 9 := by omega
  rcases this with rfl | rfl | rfl | rfl | rfl | rfl | rfl | rfl | rfl | rfl <;> rfl
theorem dec_step {f m : Nat} {acc : List UInt8} (hm : m ≠ 0) (h : m < 10 ^ f) : ∃ g, f = g + 1 ∧ m / 10 < 10 ^ g ∧ decG f m acc = decG g (m / 10) (digB m :: acc) := by
  cases f with
  | zero => rw [Nat.pow_zero] at h; omega
  | succ g =>
    refine ⟨g, rfl, ?_, ?_⟩
    · rw [Nat.pow_succ] at h; omega
    · rw [decG, if_neg hm]
theorem decG_zero (f : Nat) (acc : List UInt8) : decG f 0 acc = acc := by cases f <;> rfl
theorem BinV.subB {P : Program} {t : TypeId} {a b : Nat} (ha : a < 256) (hb : b ≤ a) : BinV P .sub t (B8 a) (B8 b) (B8 (a - b)) := by
  have h1 := BinV.subW (P := P) (t := t) (k := .u8) (x := (a : Int)) (y := (b : Int))
  rw [show IntKind.u8.wrap ((a : Int) - (b : Int)) = ((a - b : Nat) : Int) from by
    rw [show (a : Int) - (b : Int) = ((a - b : Nat) : Int) from by omega, wrap_u8, Nat.mod_eq_of_lt (by omega)]] at h1
  exact h1
def valG : Nat → List UInt8 → Nat → Nat
  | 0, _, acc => acc
  | _ + 1, [], acc => acc
  | f + 1, b :: l, acc => valG f l (if 48 ≤ b.toNat ∧ b.toNat ≤ 57 then 10 * acc + (b.toNat - 48) else acc)
def valB (l : List UInt8) : Nat := valG 4 l 0
theorem valG_lt : ∀ (f : Nat) (l : List UInt8) (acc m : Nat), acc < m → valG f l acc < m * 10 ^ f
  | 0, l, acc, m, h => by rw [valG, Nat.pow_zero, Nat.mul_one]; exact h
  | f + 1, [], acc, m, h => by
    rw [valG]
    exact Nat.lt_of_lt_of_le h (Nat.le_mul_of_pos_right m (Nat.pow_pos (by decide)))
  | f + 1, b :: l, acc, m, h => by
    rw [valG]
    have h1 := valG_lt f l (if 48 ≤ b.toNat ∧ b.toNat ≤ 57 then 10 * acc + (b.toNat - 48) else acc) (m * 10) (by split <;> omega)
    rw [Nat.pow_succ, Nat.mul_comm (10 ^ f) 10, ← Nat.mul_assoc]; exact h1
theorem valB_lt (l : List UInt8) : valB l < 10000 := by
  have := valG_lt 4 l 0 1 (by decide)
  show valG 4 l 0 < 10000
  omega
theorem valG_ge : ∀ (f : Nat) (l : List UInt8) (acc : Nat), acc ≤ valG f l acc
  | 0, _, _ => Nat.le_refl _
  | _ + 1, [], _ => Nat.le_refl _
  | f + 1, b :: l, acc => by
    rw [valG]
    refine Nat.le_trans ?_ (valG_ge f l _)
    split <;> omega
theorem valG_end {l : List UInt8} {i acc f : Nat} (h : l.length ≤ i ∨ f = 0) : valG f (l.drop i) acc = acc := by
  rcases h with h | rfl
  · rw [List.drop_of_length_le h]; cases f <;> rfl
  · rfl
theorem valG_step {l : List UInt8} {i acc f : Nat} {b : UInt8} (hb : l[i]? = some b) : valG (f + 1) (l.drop i) acc = valG f (l.drop (i + 1)) (if 48 ≤ b.toNat ∧ b.toNat ≤ 57 then 10 * acc + (b.toNat - 48) else acc) := by
  have hlt := (List.getElem?_eq_some_iff.1 hb).1
  rw [List.drop_eq_getElem_cons hlt, (List.getElem?_eq_some_iff.1 hb).2, valG]
def nK (n : Nat) : Ky := 110 :: dec (n % 10)
def padB : Nat → List UInt8 → List UInt8
  | 0, l => l
  | f + 1, l => if l.length < 4 then padB f (48 :: l) else l
def txB (n : Nat) : List UInt8 := padB 4 (dec n)
theorem padB_len : ∀ (f : Nat) (l : List UInt8), l.length ≤ 4 → (padB f l).length ≤ 4
  | 0, l, h => h
  | f + 1, l, h => by
    rw [padB]
    split
    · exact padB_len f (48 :: l) (by rw [List.length_cons]; omega)
    · exact h
theorem txB_len {n : Nat} (h : n < 10000) : (txB n).length ≤ 4 := padB_len 4 _ (dec_len h)
def bodyR (v : Nat) : Ru :=
  if v % 5 = 0 then .ret ⟨dec (v / 500 % 10), 0⟩ else .ask (nK (v / 5 % 10)) fun a =>
    if v % 5 = 1 then (if a.e ≠ 0 then .ret a else .ask (nK (v / 50 % 10)) fun b => if b.e ≠ 0 then .ret b else .ret ⟨dec ((valB a.s + valB b.s + v / 500 % 10) % 1000), 0⟩)
    else if v % 5 = 2 then (if a.e ≠ 0 then .ret ⟨[55], 0⟩ else .ret ⟨a.s, 0⟩)
    else if v % 5 = 3 then (if a.e = 0 ∧ valB a.s % 2 = 0 then .ask (nK (v / 50 % 10)) .ret else .ask (nK (v / 500 % 10)) .ret)
    else (if a.e ≠ 0 then .ret a else .ret ⟨dec (valB a.s / 4 % 2), 0⟩)
def ruleR : Ky → Ru
  | [a, c] => if a = 110 then .ask [114, c] (fun r => if r.e ≠ 0 then .ret r else bodyR (valB r.s)) else .ret ⟨[], 7⟩
  | _ => .ret ⟨[], 7⟩
def UR : List Ky := [[114, 48], [114, 49], [114, 50], [114, 51], [114, 52], [114, 53], [114, 54], [114, 55], [114, 56], [114, 57], [110, 48], [110, 49], [110, 50], [110, 51], [110, 52], [110, 53], [110, 54], [110, 55], [110, 56], [110, 57]]
theorem nK_in (n : Nat) : nK n ∈ UR := by
  have h : n % 10 < 10 := Nat.mod_lt _ (by decide)
  unfold nK
  generalize n % 10 = m at h
  have : m = 0 ∨ m = 1 ∨ m = 2 ∨ m = 3 ∨ m = 4 ∨ m = 5 ∨ m = 6 ∨ m = 7 ∨ m = 8 ∨ m = 9 := by omega
  rcases this with rfl | rfl | rfl | rfl | rfl | rfl | rfl | rfl | rfl | rfl <;> decide
theorem bodyR_in (v : Nat) : RuIn UR (bodyR v) := by
  unfold bodyR
  split
  · exact .ret _
  · refine .ask (nK_in _) fun a => ?_
    split
    · split
      · exact .ret _
      · refine .ask (nK_in _) fun b => ?_
        split
        · exact .ret _
        · exact .ret _
    · split
      · split
        · exact .ret _
        · exact .ret _
      · split
        · split
          · exact .ask (nK_in _) fun _ => .ret _
          · exact .ask (nK_in _) fun _ => .ret _
        · split
          · exact .ret _
          · exact .ret _
theorem ruleR_in : ∀ k, k ∈ UR → RuIn UR (ruleR k) := by
  intro k hk
  unfold ruleR
  split
  · rename_i a c
    split
    · rename_i ha
      subst ha
      refine .ask ?_ fun r => ?_
      · simp only [UR, List.mem_cons, List.cons.injEq] at hk ⊢
        simp at hk ⊢
        exact hk
      · split
        · exact .ret _
        · exact bodyR_in _
    · exact .ret _
  · exact .ret _
theorem AnB.four {k k0 : Ky} {a : An} (h : AnB k a) (hk : k ≠ [98]) : AnB k0 a := .of0 (by unfold AnB at h; rwa [if_neg hk] at h)
theorem nK_b (n : Nat) : nK n ≠ [98] := by
  intro h
  have := List.cons.inj h
  exact absurd this.1 (by decide)
theorem bodyR_b (k0 : Ky) (v : Nat) : RuB k0 (bodyR v) := by
  have h3 : ∀ m, m < 1000 → AnB k0 ⟨dec m, 0⟩ := fun m h => .of0 (Nat.le_succ_of_le (dec_len3 h))
  have hm : ∀ m, m % 10 < 1000 := fun m => by omega
  unfold bodyR
  split
  · exact .ret (h3 _ (hm _))
  · refine .ask fun a ha => ?_
    split
    · split
      · exact .ret (ha.four (nK_b _))
      · refine .ask fun b hb => ?_
        split
        · exact .ret (hb.four (nK_b _))
        · exact .ret (h3 _ (Nat.mod_lt _ (by decide)))
    · split
      · split
        · exact .ret (.of0 (by show 1 ≤ 4; decide))
        · exact .ret (.of0 (by have := ha.four (k0 := [97]) (nK_b _); unfold AnB at this; exact this))
      · split
        · split
          · exact .ask fun _ h => .ret (h.four (nK_b _))
          · exact .ask fun _ h => .ret (h.four (nK_b _))
        · split
          · exact .ret (ha.four (nK_b _))
          · exact .ret (h3 _ (by omega))
theorem ruleR_k : ∀ k, k ∈ UR → RuK UR k (ruleR k) := fun k hk => ⟨ruleR_in k hk, by
  unfold ruleR
  split
  · rename_i a c
    split
    · refine .ask fun r hr => ?_
      split
      · exact .ret (hr.four (by intro h; have := List.cons.inj h; exact absurd this.1 (by decide)))
      · exact bodyR_b _ _
    · exact .ret (.of0 (Nat.zero_le _))
  · exact .ret (.of0 (Nat.zero_le _))⟩
theorem UR_ko : ∀ k, k ∈ UR → KO k ∧ k.length ≤ 100 := by
  intro k hk
  have h2 : ∀ k, k ∈ UR → k.length = 2 := by decide
  have := h2 k hk
  exact ⟨by unfold KO; rw [this]; decide, by omega⟩
def ruleE : Ky → Ru := fun k =>
  if k = [97] then .ask [120] fun x => if x.s = [] then .ret ⟨[48], 0⟩ else .ret ⟨[49], 0⟩
  else if k = [98] then .ask [97] fun a => .ret ⟨a.s ++ a.s, a.e⟩
  else if k = [112] then .ask [113] .ret
  else .ask [112] .ret
def UE : List Ky := [[97], [98], [112], [113], [120]]
theorem ruleE_in : ∀ k, k ∈ UE → RuIn UE (ruleE k) := by
  intro k _
  unfold ruleE
  split
  · refine .ask (by decide) fun x => ?_
    split
    · exact .ret _
    · exact .ret _
  · split
    · exact .ask (by decide) fun _ => .ret _
    · split
      · exact .ask (by decide) fun _ => .ret _
      · exact .ask (by decide) fun _ => .ret _
theorem ruleE_k : ∀ k, k ∈ UE → RuK UE k (ruleE k) := fun k hk => ⟨ruleE_in k hk, by
  unfold ruleE
  split
  · refine .ask fun x hx => ?_
    split
    · exact .ret (.of0 (by show 1 ≤ 4; decide))
    · exact .ret (.of0 (by show 1 ≤ 4; decide))
  · split
    · rename_i hb
      subst hb
      refine .ask fun a ha => .ret ?_
      have h4 : a.s.length ≤ 4 := by unfold AnB at ha; rwa [if_neg (by decide)] at ha
      unfold AnB
      rw [if_pos rfl]
      show (a.s ++ a.s).length ≤ 8
      rw [List.length_append]; omega
    · split
      · exact .ask fun a ha => .ret (ha.four (by decide))
      · exact .ask fun a ha => .ret (ha.four (by decide))⟩
theorem UE_ko : ∀ k, k ∈ UE → KO k ∧ k.length ≤ 100 := by
  intro k hk
  have h2 : ∀ k, k ∈ UE → k.length = 1 := by decide
  have := h2 k hk
  exact ⟨by unfold KO; rw [this]; decide, by omega⟩
end Go.GL

namespace Go.Proofs.Ythefimaaeilefaa
open Go.GL
set_option linter.unusedVariables false
theorem wl_bv65_0_1_2_3 (x0 : Int) (x1f : Fn) (x1a x1b : Array Value) (x2 : Option Nat) (x3 : Option Nat) : BuildV Try.prog 65 [(0, .int .i64 x0), (1, .func x1f x1a x1b), (2, .map x2), (3, .map x3)] (.agg #[.int .i64 x0, .func x1f x1a x1b, .map x2, .map x3, .slice none 0 0, .int .i64 0, .int .i64 0, .bool false, .slice none 0 0, .map none]) := fun w => by kernel_rfl
theorem wl_tf65_2 : fieldOff Try.prog 65 2 2 = true := by kernel_rfl
theorem wl_tf65_3 : fieldOff Try.prog 65 3 3 = true := by kernel_rfl
theorem wl_tf65_5 : fieldOff Try.prog 65 5 5 = true := by kernel_rfl
theorem wl_tf65_6 : fieldOff Try.prog 65 6 6 = true := by kernel_rfl
theorem wl_tf65_7 : fieldOff Try.prog 65 7 7 = true := by kernel_rfl
theorem wl_tf65_8 : fieldOff Try.prog 65 8 8 = true := by kernel_rfl
theorem wl_tf65_9 : fieldOff Try.prog 65 9 9 = true := by kernel_rfl
theorem wl_tf71_0 : fieldOff Try.prog 71 0 0 = true := by kernel_rfl
theorem wl_tf71_1 : fieldOff Try.prog 71 1 1 = true := by kernel_rfl
theorem wl_tm60 : tyMap Try.prog 60 9 9 = true := by kernel_rfl
theorem wl_tm61 : tyMap Try.prog 61 9 81 = true := by kernel_rfl
theorem wl_ts25 : tyScalar Try.prog 25 = true := by kernel_rfl
theorem wl_ts3 : tyScalar Try.prog 3 = true := by kernel_rfl
theorem wl_ts4 : tyScalar Try.prog 4 = true := by kernel_rfl
theorem wl_ts60 : tyScalar Try.prog 60 = true := by kernel_rfl
theorem wl_ts61 : tyScalar Try.prog 61 = true := by kernel_rfl
theorem wl_ts62 : tyScalar Try.prog 62 = true := by kernel_rfl
theorem wl_ts63 : tyScalar Try.prog 63 = true := by kernel_rfl
theorem wl_ts9 : tyScalar Try.prog 9 = true := by kernel_rfl
theorem wl_tz71 : tySize Try.prog 71 2 = true := by kernel_rfl
theorem set_spec {b : Nat} {bud : Int} {fv : Value} {X : EX} {M : List HP} {F : List Fact} {k v : List UInt8} (hk : KO k) (hQ : QF X.qs ∈ F) : Ctr Try.prog 12 [PtV b, S k, S v] (EngI b bud fv X :: M) F Unit (fun _ => .tuple #[]) (fun _ => EngI b bud fv (setX k v X) :: M) (fun _ => QF (setX k v X).qs :: F) := by
  refine Ctr.body Try.func12 rfl rfl ?_
  refine TR.seq ?_
  refine TR.seq ?_
  refine TR.open (fun w hw => (St.exOpen (show St w (Ex _ :: _) _ from hw))) (fun ic => ?_)
  refine TR.region ?_
  refine RL.move rfl rfl rfl ?_
  refine RL.nilCheck rfl rfl rfl ?_
  refine RL.fieldAddr rfl wl_tf65_2 rfl rfl ?_
  refine RL.load1 0 rfl wl_ts60 rfl rfl rfl rfl ?_
  refine RL.move rfl rfl rfl ?_
  rcases hin : aGet X.inp k with _ | old
  · skip
    refine RL.val rfl rfl rfl (PV.cast (by rw [inC_get, hin] <;> rfl) (PV.lookupC 1 wl_tm60 rfl rfl hk rfl Try.zeroValue9)).2 ?_
    refine RL.move rfl rfl rfl ?_
    refine RL.extract rfl rfl rfl rfl ?_
    refine RL.extract rfl rfl rfl rfl ?_
    refine RL.assign rfl rfl rfl ?_
    refine RL.assign rfl rfl rfl ?_
    refine RL.nil ?_
    refine NX.seq ?_
    refine TR.seq ?_
    refine TR.region ?_
    refine RL.move rfl rfl rfl ?_
    refine RL.move rfl rfl rfl ?_
    refine RL.skip rfl rfl rfl ?_
    refine RL.skip rfl rfl rfl ?_
    refine RL.skip rfl rfl rfl ?_
    refine RL.pickF rfl rfl rfl rfl ?_
    refine RL.nil ?_
    refine NX.seq ?_
    refine TR.condF rfl ?_
    refine TR.skip ?_
    refine NX.seq ?_
    refine TR.seq ?_
    have hne : ¬ aGet X.inp k = some v := by rw [hin]; simp
    refine TR.region ?_
    refine RL.move rfl rfl rfl ?_
    refine RL.nilCheck rfl rfl rfl ?_
    refine RL.fieldAddr rfl wl_tf65_3 rfl rfl ?_
    refine RL.load1 0 rfl wl_ts61 rfl rfl rfl rfl ?_
    refine RL.move rfl rfl rfl ?_
    refine RL.ofEV rfl rfl (EV.delete 2 wl_tm61 rfl rfl hk rfl) ?_
    refine RL.nil ?_
    refine NX.seq ?_
    refine TR.seq ?_
    refine TR.region ?_
    refine RL.move rfl rfl rfl ?_
    refine RL.nilCheck rfl rfl rfl ?_
    refine RL.fieldAddr rfl wl_tf65_2 rfl rfl ?_
    refine RL.load1 0 rfl wl_ts60 rfl rfl rfl rfl ?_
    refine RL.move rfl rfl rfl ?_
    refine RL.move rfl rfl rfl ?_
    refine RL.ofEV rfl rfl (EV.mapUpdate 1 wl_tm60 rfl rfl rfl hk rfl) ?_
    refine RL.nil ?_
    refine NX.seq ?_
    refine TR.pick 5 [4, 0, 1, 2, 3] rfl ?_
    refine TR.weak (fun w hw => al_del (k := k) (show St w (Al (X.qs.map qB) :: _) _ from hw)) ?_
    refine TR.weak (fun w hw => St.engIClose ({ X with inp := aSet X.inp k v, qs := aDel X.qs k }) ic rfl (by exact inC_set X.inp k v) (by exact qsC_del X.qs k) rfl rfl rfl (show St w (_ :: _ :: _ :: _ :: _ :: _) _ from hw.toM 5 [1, 2, 3, 4, 0] rfl)) ?_
    refine TR.weak (fun w hw => hw.derive (ψ := QF ({ X with inp := aSet X.inp k v, qs := aDel X.qs k } : EX).qs) (fun K hf => QF.del (hf _ hQ))) ?_
    refine TR.region ?_
    refine RL.move rfl rfl rfl ?_
    refine RL.call rfl rfl Try.call30 rfl (doubt_spec (X := { X with inp := aSet X.inp k v, qs := aDel X.qs k }) (.head _)) (fun _ => ?_)
    refine RL.nil ?_
    have hsx : setX k v X = { X with inp := aSet X.inp k v, qs := (aDel X.qs k).map fun p => (p.1, offQ p.2) } := by unfold setX; rw [if_neg hne]
    exact NX.end0 () rfl rfl (fun w hw => by rw [hsx]; exact (hw.to 1 [0] 2 [0] rfl))
  · skip
    refine RL.val rfl rfl rfl (PV.cast (by rw [inC_get, hin] <;> rfl) (PV.lookupC 1 wl_tm60 rfl rfl hk rfl Try.zeroValue9)).2 ?_
    refine RL.move rfl rfl rfl ?_
    refine RL.extract rfl rfl rfl rfl ?_
    refine RL.extract rfl rfl rfl rfl ?_
    refine RL.assign rfl rfl rfl ?_
    refine RL.assign rfl rfl rfl ?_
    refine RL.nil ?_
    refine NX.seq ?_
    refine TR.seq ?_
    refine TR.region ?_
    refine RL.move rfl rfl rfl ?_
    refine RL.move rfl rfl rfl ?_
    refine RL.move rfl rfl rfl ?_
    refine RL.move rfl rfl rfl ?_
    refine RL.bin rfl rfl rfl BinV.eqlS rfl ?_
    refine RL.pickT rfl rfl rfl rfl ?_
    refine RL.nil ?_
    refine NX.seq ?_
    refine TR.cond rfl (fun h1 => ?_) (fun h1 => ?_)
    · skip
      have h22 := of_decide_eq_true h1
      refine TR.ret ?_
      refine NX.retThen ?_
      have hsx : setX k v X = X := by unfold setX; rw [if_pos (by rw [hin, h22])]
      exact NX.ret0 () rfl rfl (fun w hw => by rw [hsx]; exact (St.engIClose (X) ic rfl rfl rfl rfl rfl rfl (hw.to 5 [0, 1, 2, 3, 4] 0 [] rfl)).derive (ψ := QF X.qs) (fun K hf => hf _ hQ))
    · skip
      have hne : ¬ aGet X.inp k = some v := by rw [hin]; intro e; exact of_decide_eq_false h1 (Option.some.inj e)
      refine TR.skip ?_
      refine NX.seq ?_
      refine TR.seq ?_
      refine TR.region ?_
      refine RL.move rfl rfl rfl ?_
      refine RL.nilCheck rfl rfl rfl ?_
      refine RL.fieldAddr rfl wl_tf65_3 rfl rfl ?_
      refine RL.load1 0 rfl wl_ts61 rfl rfl rfl rfl ?_
      refine RL.move rfl rfl rfl ?_
      refine RL.ofEV rfl rfl (EV.delete 2 wl_tm61 rfl rfl hk rfl) ?_
      refine RL.nil ?_
      refine NX.seq ?_
      refine TR.seq ?_
      refine TR.region ?_
      refine RL.move rfl rfl rfl ?_
      refine RL.nilCheck rfl rfl rfl ?_
      refine RL.fieldAddr rfl wl_tf65_2 rfl rfl ?_
      refine RL.load1 0 rfl wl_ts60 rfl rfl rfl rfl ?_
      refine RL.move rfl rfl rfl ?_
      refine RL.move rfl rfl rfl ?_
      refine RL.ofEV rfl rfl (EV.mapUpdate 1 wl_tm60 rfl rfl rfl hk rfl) ?_
      refine RL.nil ?_
      refine NX.seq ?_
      refine TR.pick 5 [4, 0, 1, 2, 3] rfl ?_
      refine TR.weak (fun w hw => al_del (k := k) (show St w (Al (X.qs.map qB) :: _) _ from hw)) ?_
      refine TR.weak (fun w hw => St.engIClose ({ X with inp := aSet X.inp k v, qs := aDel X.qs k }) ic rfl (by exact inC_set X.inp k v) (by exact qsC_del X.qs k) rfl rfl rfl (show St w (_ :: _ :: _ :: _ :: _ :: _) _ from hw.toM 5 [1, 2, 3, 4, 0] rfl)) ?_
      refine TR.weak (fun w hw => hw.derive (ψ := QF ({ X with inp := aSet X.inp k v, qs := aDel X.qs k } : EX).qs) (fun K hf => QF.del (hf _ hQ))) ?_
      refine TR.region ?_
      refine RL.move rfl rfl rfl ?_
      refine RL.call rfl rfl Try.call30 rfl (doubt_spec (X := { X with inp := aSet X.inp k v, qs := aDel X.qs k }) (.head _)) (fun _ => ?_)
      refine RL.nil ?_
      have hsx : setX k v X = { X with inp := aSet X.inp k v, qs := (aDel X.qs k).map fun p => (p.1, offQ p.2) } := by unfold setX; rw [if_neg hne]
      exact NX.end0 () rfl rfl (fun w hw => by rw [hsx]; exact (hw.to 1 [0] 2 [0] rfl))
theorem fn_ty : tyFn Try.prog 59 = true := by kernel_rfl
theorem new_spec {bud : Int} {f : Fn} {a c : Array Value} {M : List HP} {F : List Fact} (hb : 0 ≤ bud) : Ctr Try.prog 10 [I bud, .func f a c] M F Nat (fun b => .tuple #[PtV b, I 0]) (fun b => EngI b bud (.func f a c) newX :: M) (fun _ => QF newX.qs :: F) := by
  refine Ctr.body Try.func10 rfl rfl ?_
  refine TR.seq ?_
  refine TR.region ?_
  refine RL.assign rfl rfl rfl ?_
  refine RL.assign rfl rfl rfl ?_
  refine RL.nil ?_
  refine NX.seq ?_
  refine TR.seq ?_
  refine TR.seq ?_
  refine TR.region ?_
  refine RL.move rfl rfl rfl ?_
  refine RL.bin rfl rfl rfl (BinV.to (d := false) BinV.lss (decide_eq_false (by omega))) rfl ?_
  refine RL.move rfl rfl rfl ?_
  refine RL.move rfl rfl rfl ?_
  refine RL.bin rfl rfl rfl (BinV.eqlFuncNil fn_ty) rfl ?_
  refine RL.pickF rfl rfl rfl rfl ?_
  refine RL.nil ?_
  refine NX.seq ?_
  refine TR.condF rfl ?_
  refine TR.skip ?_
  refine NX.seq ?_
  refine TR.seq ?_
  refine TR.region ?_
  refine RL.move rfl rfl rfl ?_
  refine RL.move rfl rfl rfl ?_
  refine RL.ofGV rfl rfl GV.makeMap (fun b1 => ?_)
  refine RL.ofGV rfl rfl GV.makeMap (fun b2 => ?_)
  refine RL.build rfl rfl (wl_bv65_0_1_2_3 _ _ _ _ _ _) rfl ?_
  refine RL.boxA rfl rfl rfl (fun b3 => ?_)
  refine RL.assign rfl rfl rfl ?_
  refine RL.assign rfl rfl rfl ?_
  refine RL.nil ?_
  refine NX.seq ?_
  refine TR.ret ?_
  refine NX.ret2 b3 rfl rfl rfl rfl (fun w hw => ?_)
  have h1 := OwnSl.nil_new 9 1 (St.alClose (L := []) (hw.toM 3 [0, 2, 1] rfl))
  have h2 := h1.toM 5 [2, 3, 4, 0, 1] rfl
  exact (St.engIClose newX (⟨b1, b2, none, 0, none, 0, 0, none⟩ : EI) rfl rfl rfl rfl rfl rfl (show St w (_ :: _ :: _ :: _ :: _ :: M) F from h2)).derive (ψ := QF newX.qs) (fun K hf p hp => by cases hp)
theorem get_spec {b : Nat} {bud : Int} {X : EX} {M : List HP} {F : List Fact} {rule : Ky → Ru} {U : List Ky} {k : Ky} {fz : Int} (hU : ∀ k, k ∈ U → KO k ∧ k.length ≤ 100) (hUl : U.length ≤ 1000) (hr : ∀ k, k ∈ U → RuK U k (rule k)) (V : Fnv Try.prog U rule) (hk : k ∈ U) (hW : Wk U { X.en with st := [] }) (hg : 0 ≤ X.gets) (hg2 : X.gets ≤ 1099511627776) (hsu : X.comp.length + fz.toNat ≤ 1099511627776) (hB : (bytesE (getE rule (U.length + 1) k fz.toNat X.en).2 : Int) ≤ bud) (hB2 : bytesE (getE rule (U.length + 1) k fz.toNat X.en).2 ≤ 1099511627776) (hQ : QF X.qs ∈ F) : Ctr Try.prog 15 [PtV b, S k, I fz] (EngI b bud V.val X :: M) F {Y : EX // Y.en = (getE rule (U.length + 1) k fz.toNat X.en).2} (fun _ => .tuple #[S (getE rule (U.length + 1) k fz.toNat X.en).1.s, I (getE rule (U.length + 1) k fz.toNat X.en).1.e]) (fun Y => EngI b bud V.val Y.1 :: M) (fun Y => QF Y.1.qs :: F) := by
  refine Ctr.body Try.func15 rfl rfl ?_
  refine TR.seq ?_
  refine TR.region ?_
  refine RL.assign rfl rfl rfl ?_
  refine RL.assign rfl rfl rfl ?_
  refine RL.nil ?_
  refine NX.seq ?_
  refine TR.seq ?_
  refine TR.open (fun w hw => (St.exOpen (show St w (Ex _ :: _) _ from hw))) (fun ic => ?_)
  refine TR.region ?_
  refine RL.move rfl rfl rfl ?_
  refine RL.nilCheck rfl rfl rfl ?_
  refine RL.fieldAddr rfl wl_tf65_5 rfl rfl ?_
  refine RL.load1 0 rfl wl_ts3 rfl rfl rfl rfl ?_
  refine RL.bin rfl rfl rfl (BinV.add _ rfl (by omega) (by omega)) rfl ?_
  refine RL.nilCheck rfl rfl rfl ?_
  refine RL.fieldAddr rfl wl_tf65_5 rfl rfl ?_
  refine RL.store1 0 rfl wl_ts3 rfl rfl rfl rfl rfl ?_
  refine RL.nil ?_
  refine NX.seq ?_
  refine TR.seq ?_
  refine TR.region ?_
  refine RL.move rfl rfl rfl ?_
  refine RL.move rfl rfl rfl ?_
  refine RL.move rfl rfl rfl ?_
  refine RL.max rfl rfl rfl rfl ?_
  refine RL.nilCheck rfl rfl rfl ?_
  refine RL.fieldAddr rfl wl_tf65_6 rfl rfl ?_
  refine RL.store1 0 rfl wl_ts3 rfl rfl rfl rfl rfl ?_
  refine RL.nilCheck rfl rfl rfl ?_
  refine RL.fieldAddr rfl wl_tf65_7 rfl rfl ?_
  refine RL.store1 0 rfl wl_ts4 rfl rfl rfl rfl rfl ?_
  refine RL.nil ?_
  refine NX.seq ?_
  refine TR.seq ?_
  refine TR.region ?_
  refine RL.move rfl rfl rfl ?_
  refine RL.move rfl rfl rfl ?_
  refine RL.ofGV rfl rfl GV.makeMap (fun b1 => ?_)
  refine RL.nilCheck rfl rfl rfl ?_
  refine RL.fieldAddr rfl wl_tf65_8 rfl rfl ?_
  refine RL.store1 1 rfl wl_ts62 rfl rfl rfl rfl rfl ?_
  refine RL.nilCheck rfl rfl rfl ?_
  refine RL.fieldAddr rfl wl_tf65_9 rfl rfl ?_
  refine RL.store1 1 rfl wl_ts63 rfl rfl rfl rfl rfl ?_
  refine RL.nil ?_
  refine NX.seq ?_
  refine TR.seq ?_
  refine TR.weak (fun w hw => St.engClose (begX fz.toNat X) (⟨ic.ib, ic.qb, b1, ic.co, ic.cc, none, 0⟩ : EH) (by show [_, _, _, _, _, _, I (max 0 fz), _, _, _] = [I bud, V.val, .map (some ic.ib), .map (some ic.qb), .slice ic.co X.comp.length ic.cc, I (X.gets + 1), I ((fz.toNat : Nat) : Int), .bool false, .slice none 0 0, .map (some b1)]; rw [show ((fz.toNat : Nat) : Int) = max 0 fz from by omega]) rfl rfl rfl rfl rfl rfl rfl rfl rfl (show St w (_ :: _ :: _ :: _ :: _ :: _ :: _ :: _ :: M) F from (OwnSl.nil_new 88 1 (St.alClose (L := []) (hw.toM 6 [1, 2, 3, 0, 4, 5] rfl))).toM 8 [2, 3, 4, 5, 6, 0, 1, 7] rfl)) ?_
  refine TR.region ?_
  refine RL.move rfl rfl rfl ?_
  refine RL.move rfl rfl rfl ?_
  refine RL.call rfl rfl Try.call31 rfl (obtain_all hU hUl hr V (U.length + 1) (X := (begX fz.toNat X)) (by_ := none) (bv := .pointer none) ⟨hW.same rfl rfl rfl, (by show _ ≤ 0 + (U.length + 1); omega), hsu⟩ hk (.inl ⟨rfl, rfl, rfl⟩) hQ) (fun Y => ?_)
  obtain ⟨Y, hYe, hYk⟩ := Y
  have hYe : Y.en = (getE rule (U.length + 1) k fz.toNat X.en).2 := hYe
  have hby : bytesQ Y.qs = bytesE (getE rule (U.length + 1) k fz.toNat X.en).2 := by rw [bytes_en, hYe]
  dsimp only
  refine RL.allocA rfl (Try.zeroValue71) rfl (fun b2 => ?_)
  refine RL.storeA 0 rfl rfl rfl rfl wl_tz71 rfl rfl ?_
  refine RL.nil ?_
  refine NX.seq ?_
  refine TR.seq ?_
  refine TR.pick 2 [1, 0] rfl ?_
  refine TR.weak (fun w hw => St.toI (show St w (EngB b bud V.val Y :: _) _ from hw)) ?_
  refine TR.region ?_
  refine RL.move rfl rfl rfl ?_
  refine RL.call rfl rfl Try.call32 rfl (shrink_spec (X := Y) (by rw [hby]; exact hB) (by rw [hby]; exact hB2)) (fun _ => ?_)
  refine RL.nil ?_
  refine NX.seq ?_
  refine TR.seq ?_
  refine TR.sub (E' := [(7, _), (8, _)]) ⟨rfl, rfl, trivial⟩ ?_
  refine TR.draw mixed ?_
  apply AR.more [(0, _), (1, _), (2, _), (3, _), (4, _), (5, _)]
  refine AR.last [0, 1, 2, 3, 4, 5] [0, 1, 2, 3, 4, 5] ⟨QOne.yes rfl rfl rfl (PV.fieldAddr wl_tf71_0 rfl), QOne.yes rfl rfl rfl (PV.load1 1 wl_ts9 rfl rfl rfl), QOne.yes rfl rfl rfl (PV.fieldAddr wl_tf71_1 rfl), QOne.yes rfl rfl rfl (PV.load1 1 wl_ts25 rfl rfl rfl), QOne.yes rfl rfl rfl (PV.assign rfl), QOne.yes rfl rfl rfl (PV.assign rfl), trivial⟩ rfl rfl rfl ?_
  refine NX.sub (E' := [(6, _), (7, _)]) ⟨rfl, rfl, trivial⟩ ?_
  refine NX.seq ?_
  refine TR.ret ?_
  refine NX.ret2 (⟨Y, hYe⟩ : {Y : EX // Y.en = (getE rule (U.length + 1) k fz.toNat X.en).2}) rfl rfl rfl rfl (fun w hw => (hw.to 2 [0] 2 [0] rfl))
end Go.Proofs.Ythefimaaeilefaa

namespace Go.GL
set_option linter.unusedVariables false
def inA : List (Ky × List UInt8) → List Value
  | [] => []
  | p :: l => S p.1 :: S p.2 :: I 0 :: inA l
theorem inA_append : ∀ (a b : List (Ky × List UInt8)), inA (a ++ b) = inA a ++ inA b
  | [], b => rfl
  | p :: l, b => by simp only [List.cons_append, inA, inA_append l b]
theorem inA_at : ∀ {l : List (Ky × List UInt8)} {i : Nat} {p : Ky × List UInt8}, l[i]? = some p → (inA l)[i * 3]? = some (S p.1) ∧ (inA l)[i * 3 + 1]? = some (S p.2) ∧ (inA l)[i * 3 + 2]? = some (I 0)
  | q :: l, 0, p, h => by
    simp at h; subst h
    exact ⟨rfl, rfl, rfl⟩
  | q :: l, i + 1, p, h => by
    obtain ⟨h1, h2, h3⟩ := inA_at (l := l) (i := i) (p := p) (by simpa using h)
    refine ⟨?_, ?_, ?_⟩
    · rw [show (i + 1) * 3 = (i * 3) + 3 from by omega]; simpa [inA] using h1
    · rw [show (i + 1) * 3 + 1 = (i * 3 + 1) + 3 from by omega]; simpa [inA] using h2
    · rw [show (i + 1) * 3 + 2 = (i * 3 + 2) + 3 from by omega]; simpa [inA] using h3
theorem inA_ne {l : List (Ky × List UInt8)} {i : Nat} {p : Ky × List UInt8} (h : l[i]? = some p) : inA l ≠ [] := by
  intro e
  have := (inA_at h).1
  rw [e] at this; simp at this
def RfB (m : Nat) (bud : Int) (l : List (Ky × List UInt8)) : HP := Ex (ι := Option Addr × Nat) fun z => [Box m 76 [I bud, .slice z.1 l.length z.2, .slice none 0 0, .slice none 0 0, I 0, I 0, .bool false, .slice none 0 0], OwnSl 51 3 z.1 l.length z.2 (inA l)]
def rK (n : Nat) : Ky := 114 :: dec n
structure Rl (n : Nat) (l : List (Ky × List UInt8)) : Prop where
  ks : l.map Prod.fst = (List.range n).map rK
  vs : ∀ p, p ∈ l → ∃ r, r < 5000 ∧ p.2 = txB r
theorem Rl.nil : Rl 0 [] := ⟨rfl, fun p hp => by cases hp⟩
theorem Rl.snoc {n r : Nat} {l : List (Ky × List UInt8)} (h : Rl n l) (hr : r < 5000) : Rl (n + 1) (l ++ [(rK n, txB r)]) := ⟨by rw [List.map_append, h.ks, List.range_succ, List.map_append]; rfl, fun p hp => by
  rcases List.mem_append.1 hp with hp | hp
  · exact h.vs p hp
  · rw [List.mem_singleton.1 hp]; exact ⟨r, hr, rfl⟩⟩
theorem Rl.len {n : Nat} {l : List (Ky × List UInt8)} (h : Rl n l) : l.length = n := by
  have := congrArg List.length h.ks
  rwa [List.length_map, List.length_map, List.length_range] at this
theorem Rl.v4 {n : Nat} {l : List (Ky × List UInt8)} (h : Rl n l) {p : Ky × List UInt8} (hp : p ∈ l) : p.2.length ≤ 4 := by
  obtain ⟨r, hr, e⟩ := h.vs p hp
  rw [e]; exact txB_len (by omega)
theorem Rl.nd {l : List (Ky × List UInt8)} (h : Rl 10 l) : (l.map Prod.fst).Nodup := by rw [h.ks]; decide
theorem Rl.key {l : List (Ky × List UInt8)} (h : Rl 10 l) {p : Ky × List UInt8} (hp : p ∈ l) : p.1 ∈ UR := by
  have h1 : p.1 ∈ l.map Prod.fst := List.mem_map_of_mem (f := Prod.fst) hp
  rw [h.ks] at h1
  have h2 : ∀ k, k ∈ (List.range 10).map rK → k ∈ UR := by decide
  exact h2 _ h1
theorem Rl.ko {l : List (Ky × List UInt8)} (h : Rl 10 l) {p : Ky × List UInt8} (hp : p ∈ l) : KO p.1 := (UR_ko _ (h.key hp)).1
def arN (n m : Int) : Nat := ((if n < 0 then -(n + 1) else n).tmod m).toNat
theorem arN_lt {n m : Int} (hm : 0 < m) : (arN n m : Int) < m := by
  unfold arN
  have h1 : 0 ≤ (if n < 0 then -(n + 1) else n).tmod m := Int.tmod_nonneg _ (by split <;> omega)
  rw [Int.toNat_of_nonneg h1]
  exact Int.tmod_lt_of_pos _ hm
def pkN (xs : List Int) (i : Nat) (m : Int) : Nat := match xs[i]? with | some x => arN x m | none => 0
theorem pkN_lt {xs : List Int} {i : Nat} {m : Int} (hm : 0 < m) : (pkN xs i m : Int) < m := by
  unfold pkN
  split
  · exact arN_lt hm
  · exact hm
def bgS (n i : Nat) : Nat := n % 5 + 5 * ((n / 5 % 10) * i / 10) + 50 * ((n / 50 % 10) * i / 10) + 500 * ((n / 500 % 10) * i / 10)
def bgN (xs : List Int) (i : Nat) : Nat := if 0 < pkN xs 10 3 ∧ pkN xs i 5000 % 5 ≠ 0 then (if i = 0 then 0 else bgS (pkN xs i 5000) i) else pkN xs i 5000
def bgE (xs : List Int) (i : Nat) : Ky × List UInt8 := (rK i, txB (arN (bgN xs i : Nat) 5000))
def bgL (xs : List Int) (n : Nat) : List (Ky × List UInt8) := (List.range n).map (bgE xs)
theorem bgL_snoc (xs : List Int) (n : Nat) : bgL xs (n + 1) = bgL xs n ++ [bgE xs n] := by unfold bgL; rw [List.range_succ, List.map_append]; rfl
theorem bgL_len (xs : List Int) (n : Nat) : (bgL xs n).length = n := by unfold bgL; rw [List.length_map, List.length_range]
theorem bgL_rl (xs : List Int) : ∀ n, Rl n (bgL xs n)
  | 0 => .nil
  | n + 1 => by
    rw [bgL_snoc]
    exact (bgL_rl xs n).snoc (by have := arN_lt (n := (bgN xs n : Nat)) (m := 5000) (by decide); omega)
def begE (l : List (Ky × List UInt8)) : En := l.foldl (fun e p => setE p.1 p.2 e) newE
theorem begE_go : ∀ (l pre : List (Ky × List UInt8)), ((pre ++ l).map Prod.fst).Nodup → l.foldl (fun e p => setE p.1 p.2 e) { newE with inp := pre } = { newE with inp := pre ++ l }
  | [], pre, _ => by rw [List.append_nil]; rfl
  | p :: l, pre, hn => by
    have hnone : aGet pre p.1 = none := by
      rw [aGet_none]
      intro hm
      rw [List.map_append, List.nodup_append] at hn
      exact hn.2.2 _ hm p.1 (List.mem_cons_self ..) rfl
    have h1 : setE p.1 p.2 { newE with inp := pre } = { newE with inp := pre ++ [p] } := by
      unfold setE
      rw [if_neg (by show ¬ aGet pre p.1 = some p.2; rw [hnone]; simp)]
      show ({ newE with inp := aSet pre p.1 p.2, qs := _ } : En) = _
      rw [show aSet pre p.1 p.2 = pre ++ [p] from by
        have : ∀ (a : List (Ky × List UInt8)), aGet a p.1 = none → aSet a p.1 p.2 = a ++ [p] := by
          intro a
          induction a with
          | nil => intro _; rfl
          | cons q a ih =>
            intro h
            rw [aGet] at h
            split at h
            · cases h
            · rename_i e; rw [aSet, if_neg e, ih h]; rfl
        exact this pre hnone]
      rfl
    rw [List.foldl_cons, h1, begE_go l (pre ++ [p]) (by rw [List.append_assoc]; exact hn), List.append_assoc]
    rfl
theorem begE_is {l : List (Ky × List UInt8)} (hn : (l.map Prod.fst).Nodup) : begE l = { newE with inp := l } := begE_go l [] hn
end Go.GL

namespace Go.Proofs.Ythefimaaeilefaa
open Go.GL
set_option linter.unusedVariables false
theorem wm_bs22_4_0_1_2_3 (x0 : Int) (x1 : Int) (x2 : Int) (x3 : Int) : BuildSV Try.prog 22 3 4 [(0, .int .i64 x0), (1, .int .i64 x1), (2, .int .i64 x2), (3, .int .i64 x3)] [.int .i64 x0, .int .i64 x1, .int .i64 x2, .int .i64 x3] := fun w => by kernel_rfl
theorem wm_ti3 : tyInt Try.prog 3 .i64 = true := by kernel_rfl
theorem wm_ti5 : tyInt Try.prog 5 .u8 = true := by kernel_rfl
theorem wm_tl22 : tySlice Try.prog 22 3 = true := by kernel_rfl
theorem wm_ts3 : tyScalar Try.prog 3 = true := by kernel_rfl
theorem wm_tstr9 : tyStr Try.prog 9 = true := by kernel_rfl
theorem wm_tz3 : tySize Try.prog 3 1 = true := by kernel_rfl
theorem around_spec {n m : Int} {M : List HP} {F : List Fact} (hm : 0 < m) (h0 : -9223372036854775808 ≤ n) (h1 : n ≤ 9223372036854775807) : Ctr Try.prog 9 [I n, I m] M F Unit (fun _ => I (arN n m : Nat)) (fun _ => M) (fun _ => F) := by
  refine Ctr.body Try.func9 rfl rfl ?_
  refine TR.seq ?_
  refine TR.region ?_
  refine RL.assign rfl rfl rfl ?_
  refine RL.nil ?_
  refine NX.seq ?_
  refine TR.seq ?_
  refine TR.seq ?_
  refine TR.region ?_
  refine RL.move rfl rfl rfl ?_
  refine RL.bin rfl rfl rfl BinV.lss rfl ?_
  refine RL.nil ?_
  refine NX.seq ?_
  refine TR.cond rfl (fun h1 => ?_) (fun h1 => ?_)
  · skip
    have hn := of_decide_eq_true h1
    refine TR.region ?_
    refine RL.move rfl rfl rfl ?_
    refine RL.bin rfl rfl rfl (BinV.add _ rfl (by omega) (by omega)) rfl ?_
    refine RL.neg rfl rfl (by omega) (by omega) rfl ?_
    refine RL.assign rfl rfl rfl ?_
    refine RL.nil ?_
    refine NX.seq ?_
    refine TR.seq ?_
    refine TR.region ?_
    refine RL.move rfl rfl rfl ?_
    refine RL.move rfl rfl rfl ?_
    refine RL.bin rfl rfl rfl (BinV.rem (by omega)) rfl ?_
    refine RL.assign rfl rfl rfl ?_
    refine RL.nil ?_
    refine NX.seq ?_
    refine TR.ret ?_
    have ht0 : 0 ≤ Int.tmod (-(n + 1)) m := Int.tmod_nonneg _ (by omega)
    exact NX.ret1 () rfl rfl (congrArg I (by unfold arN; rw [if_pos hn, Int.toNat_of_nonneg ht0])) (fun w hw => hw)
  · skip
    have hn := of_decide_eq_false h1
    refine TR.skip ?_
    refine NX.seq ?_
    refine TR.seq ?_
    refine TR.region ?_
    refine RL.move rfl rfl rfl ?_
    refine RL.move rfl rfl rfl ?_
    refine RL.bin rfl rfl rfl (BinV.rem (by omega)) rfl ?_
    refine RL.assign rfl rfl rfl ?_
    refine RL.nil ?_
    refine NX.seq ?_
    refine TR.ret ?_
    have ht0 : 0 ≤ Int.tmod n m := Int.tmod_nonneg _ (by omega)
    exact NX.ret1 () rfl rfl (congrArg I (by unfold arN; rw [if_neg hn, Int.toNat_of_nonneg ht0])) (fun w hw => hw)
def IntsOk (xs : List Int) : Prop := xs.length ≤ 9223372036854775807 ∧ ∀ x, x ∈ xs → -9223372036854775808 ≤ x ∧ x ≤ 9223372036854775807
theorem pick_spec {xs : List Int} {oa : Option Addr} {ca i : Nat} {m : Int} {M : List HP} {F : List Fact} (ha : ArrF oa (ints xs) ∈ F) (hxs : IntsOk xs) (hm : 0 < m) : Ctr Try.prog 38 [.slice oa xs.length ca, I (i : Nat), I m] M F Unit (fun _ => I (pkN xs i m : Nat)) (fun _ => M) (fun _ => F) := by
  refine Ctr.body Try.func38 rfl rfl ?_
  refine TR.seq ?_
  refine TR.region ?_
  refine RL.assign rfl rfl rfl ?_
  refine RL.nil ?_
  refine NX.seq ?_
  refine TR.seq ?_
  refine TR.seq ?_
  refine TR.region ?_
  refine RL.move rfl rfl rfl ?_
  refine RL.bin rfl rfl rfl BinV.lss rfl ?_
  refine RL.move rfl rfl rfl ?_
  refine RL.part (fun h1 => ?_) (fun h1 => ?_)
  · skip
    exfalso; have := of_decide_eq_true h1; omega
  · skip
    refine RL.move rfl rfl rfl ?_
    refine RL.move rfl rfl rfl ?_
    refine RL.lenSlice rfl wm_tl22 rfl rfl ?_
    refine RL.bin rfl rfl rfl BinV.geq rfl ?_
    refine RL.pickF rfl rfl rfl rfl ?_
    refine RL.nil ?_
    refine NX.seq ?_
    refine TR.cond rfl (fun h2 => ?_) (fun h2 => ?_)
    · skip
      have hi1 : ¬ i < xs.length := by have := of_decide_eq_true h2; omega
      refine TR.seq ?_
      refine TR.region ?_
      refine RL.assign rfl rfl rfl ?_
      refine RL.nil ?_
      refine NX.seq ?_
      refine TR.ret ?_
      refine NX.retThen ?_
      exact NX.ret1 () rfl rfl (congrArg I (by unfold pkN; rw [List.getElem?_eq_none (by omega)]; rfl)) (fun w hw => hw)
    · skip
      have hi1 : i < xs.length := by have := of_decide_eq_false h2; omega
      have hxi := hxs.2 xs[i] (List.getElem_mem hi1)
      refine TR.openP (open_arr ha (ints_ne (by omega))) (fun x hx => ?_)
      refine TR.skip ?_
      refine NX.seq ?_
      refine TR.seq ?_
      refine TR.region ?_
      refine RL.move rfl rfl rfl ?_
      refine RL.move rfl rfl rfl ?_
      refine RL.indexAddr rfl wm_tl22 wm_tz3 (congrArg (fun a => some (Value.slice a _ _)) hx) rfl (by omega) (by omega) rfl ?_
      refine RL.loadF rfl rfl (fun w K hF => run_loadCell1 (j := (i : Int).toNat * 1) (v := I xs[i]) (hF (CellsF x.1 x.2 (ints xs)) (.head _)) wm_ts3 (by rw [Int.toNat_natCast, Nat.mul_one]; exact ints_get hi1)) rfl ?_
      refine RL.move rfl rfl rfl ?_
      refine RL.call rfl rfl Try.call9 rfl (around_spec hm hxi.1 hxi.2) (fun r => ?_)
      refine RL.assign rfl rfl rfl ?_
      refine RL.nil ?_
      refine NX.seq ?_
      refine TR.ret ?_
      exact NX.ret1 () rfl rfl (congrArg I (by unfold pkN; rw [List.getElem?_eq_getElem hi1])) (fun w hw => (hw.to 0 [] 1 [] rfl))
theorem dec_spec {n : Nat} {M : List HP} {F : List Fact} (hn : n < 100000) : Ctr Try.prog 13 [I (n : Nat)] M F Unit (fun _ => S (dec n)) (fun _ => M) (fun _ => F) := by
  refine Ctr.body Try.func13 rfl rfl ?_
  refine TR.seq ?_
  refine TR.region ?_
  refine RL.assign rfl rfl rfl ?_
  refine RL.nil ?_
  refine NX.seq ?_
  refine TR.seq ?_
  refine TR.seq ?_
  refine TR.region ?_
  refine RL.move rfl rfl rfl ?_
  refine RL.bin rfl rfl rfl BinV.eql rfl ?_
  refine RL.nil ?_
  refine NX.seq ?_
  refine TR.cond rfl (fun h1 => ?_) (fun h1 => ?_)
  · skip
    have hn0 : n = 0 := by have := of_decide_eq_true h1; omega
    refine TR.seq ?_
    refine TR.region ?_
    refine RL.assign rfl rfl rfl ?_
    refine RL.nil ?_
    refine NX.seq ?_
    refine TR.ret ?_
    refine NX.retThen ?_
    exact NX.ret1 () rfl rfl (by unfold dec; rw [if_pos hn0]) (fun w hw => hw)
  · skip
    have hn0 : n ≠ 0 := by have := of_decide_eq_false h1; omega
    refine TR.skip ?_
    refine NX.seq ?_
    refine TR.seq ?_
    refine TR.region ?_
    refine RL.assign rfl rfl rfl ?_
    refine RL.nil ?_
    refine NX.seq ?_
    refine TR.seq ?_
    refine TR.region ?_
    refine RL.assign rfl rfl rfl ?_
    refine RL.nil ?_
    refine NX.seq ?_
    refine TR.seq ?_
    refine TR.seq ?_
    refine TR.region ?_
    refine RL.move rfl rfl rfl ?_
    refine RL.assign rfl rfl rfl ?_
    refine RL.nil ?_
    refine NX.seq ?_
    refine TR.block ?_
    refine TR.loopP (ι := (Nat × Nat × List UInt8)) (fun z => decG z.1 z.2.1 z.2.2 = decG 5 n [] ∧ z.2.1 < 10 ^ z.1 ∧ z.2.1 ≤ n ∧ z.2.2.length + z.1 ≤ 5) (fun z => [(0, I (n : Nat)), (3, S tenB), (4, S z.2.2), (5, I (z.2.1 : Nat))]) (fun z => M) (fun z => F) (fun z => z.1) (5, n, []) ⟨rfl, by show n < 100000; omega, Nat.le_refl _, Nat.le_refl _⟩ ⟨rfl, rfl, rfl, rfl, trivial⟩ (fun w hw => (hw.to 0 [] 0 [] rfl)) (fun z hz => ?_)
    refine TR.seq ?_
    refine TR.seq ?_
    refine TR.region ?_
    refine RL.move rfl rfl rfl ?_
    refine RL.bin rfl rfl rfl BinV.neq rfl ?_
    refine RL.nil ?_
    refine NX.seq ?_
    refine TR.cond rfl (fun h2 => ?_) (fun h2 => ?_)
    · skip
      have hm0 : z.2.1 ≠ 0 := by have := of_decide_eq_true h2; omega
      obtain ⟨g, hg1, hg2, hg3⟩ := dec_step (acc := z.2.2) hm0 hz.2.1
      refine TR.skip ?_
      refine NX.seq ?_
      refine TR.seq ?_
      refine TR.block ?_
      refine TR.seq ?_
      refine TR.region ?_
      refine RL.move rfl rfl rfl ?_
      refine RL.bin rfl rfl rfl (BinV.remK (a := z.2.1) (b := 10) (by decide)) rfl ?_
      refine RL.assign rfl rfl rfl ?_
      refine RL.nil ?_
      refine NX.seq ?_
      refine TR.seq ?_
      refine TR.seq ?_
      refine TR.region ?_
      refine RL.move rfl rfl rfl ?_
      refine RL.bin rfl rfl rfl (BinV.to (d := false) BinV.lss (decide_eq_false (by omega))) rfl ?_
      refine RL.nil ?_
      refine NX.seq ?_
      refine TR.condF rfl ?_
      refine TR.skip ?_
      refine NX.seq ?_
      refine TR.region ?_
      refine RL.move rfl rfl rfl ?_
      refine RL.move rfl rfl rfl ?_
      refine RL.move rfl rfl rfl ?_
      refine RL.bin rfl rfl rfl (BinV.add ((z.2.1 % 10 + 1 : Nat) : Int) (by omega) (by omega) (by omega)) rfl ?_
      refine RL.sliceS rfl wm_tstr9 rfl rfl rfl (by omega) (by omega) (by show ((z.2.1 % 10 + 1 : Nat) : Int) ≤ ((10 : Nat) : Int); omega) rfl ?_
      rw [show (tenB.take (((z.2.1 % 10 + 1 : Nat) : Int)).toNat).drop (((z.2.1 % 10 : Nat) : Int)).toNat = [digB z.2.1] from ten_at _]
      refine RL.move rfl rfl rfl ?_
      refine RL.bin rfl rfl rfl (BinV.addS (by have := hz.2.2.2; simp only [List.length_cons, List.length_nil]; omega)) rfl ?_
      refine RL.assign rfl rfl rfl ?_
      refine RL.nil ?_
      refine NX.off ?_
      refine NX.seq ?_
      refine TR.region ?_
      refine RL.move rfl rfl rfl ?_
      refine RL.bin rfl rfl rfl (BinV.quo (by decide) ((z.2.1 / 10 : Nat) : Int) (by rw [Int.tdiv_eq_ediv_of_nonneg (by omega)]; omega) (by omega) (by omega)) rfl ?_
      refine RL.assign rfl rfl rfl ?_
      refine RL.nil ?_
      refine NX.roundP (g, z.2.1 / 10, digB z.2.1 :: z.2.2) ⟨hg3.symm.trans hz.1, hg2, by show z.2.1 / 10 ≤ n; have := hz.2.2.1; omega, by show (digB z.2.1 :: z.2.2).length + g ≤ 5; rw [List.length_cons]; have := hz.2.2.2; omega⟩ (by show g < z.1; omega) ⟨rfl, rfl, rfl, rfl, trivial⟩ (fun w hw => (hw.to 0 [] 0 [] rfl))
    · skip
      have hm0 : z.2.1 = 0 := by have := of_decide_eq_false h2; omega
      refine TR.exit ?_
      refine NX.exitThen ?_
      refine NX.exitThen ?_
      refine NX.exitHere ?_
      refine NX.seq ?_
      refine TR.seq ?_
      refine TR.seq ?_
      refine TR.region ?_
      refine RL.move rfl rfl rfl ?_
      refine RL.bin rfl rfl rfl (BinV.to (d := false) BinV.lss (decide_eq_false (by omega))) rfl ?_
      refine RL.nil ?_
      refine NX.seq ?_
      refine TR.condF rfl ?_
      refine TR.skip ?_
      refine NX.seq ?_
      refine TR.seq ?_
      refine TR.region ?_
      refine RL.move rfl rfl rfl ?_
      refine RL.assign rfl rfl rfl ?_
      refine RL.nil ?_
      refine NX.seq ?_
      refine TR.ret ?_
      have h9 := hz.1
      rw [hm0, decG_zero] at h9
      exact NX.ret1 () rfl rfl (by unfold dec; rw [if_neg hn0, h9]) (fun w hw => hw)
theorem node_spec {n : Nat} {M : List HP} {F : List Fact} : Ctr Try.prog 16 [I (n : Nat)] M F Unit (fun _ => S (nK n)) (fun _ => M) (fun _ => F) := by
  refine Ctr.body Try.func16 rfl rfl ?_
  refine TR.seq ?_
  refine TR.region ?_
  refine RL.assign rfl rfl rfl ?_
  refine RL.nil ?_
  refine NX.seq ?_
  refine TR.seq ?_
  refine TR.region ?_
  refine RL.move rfl rfl rfl ?_
  refine RL.bin rfl rfl rfl (BinV.remK (a := n) (b := 10) (by decide)) rfl ?_
  refine RL.call rfl rfl Try.call13 rfl (dec_spec (n := n % 10) (by omega)) (fun _ => ?_)
  refine RL.bin rfl rfl rfl (BinV.addS (by have := dec_len (n := n % 10) (by omega); simp only [List.length_cons, List.length_nil]; omega)) rfl ?_
  refine RL.assign rfl rfl rfl ?_
  refine RL.nil ?_
  refine NX.seq ?_
  refine TR.ret ?_
  exact NX.ret1 () rfl rfl rfl (fun w hw => hw)
theorem text_spec {n : Int} {M : List HP} {F : List Fact} (h0 : -9223372036854775808 ≤ n) (h1 : n ≤ 9223372036854775807) : Ctr Try.prog 14 [I n] M F Unit (fun _ => S (txB (arN n 5000))) (fun _ => M) (fun _ => F) := by
  refine Ctr.body Try.func14 rfl rfl ?_
  refine TR.seq ?_
  refine TR.region ?_
  refine RL.assign rfl rfl rfl ?_
  refine RL.nil ?_
  refine NX.seq ?_
  refine TR.seq ?_
  refine TR.region ?_
  refine RL.move rfl rfl rfl ?_
  refine RL.call rfl rfl Try.call9 rfl (around_spec (by decide) h0 h1) (fun _ => ?_)
  have hr1 : arN n 5000 < 5000 := by have := arN_lt (n := n) (m := 5000) (by decide); omega
  have hd4 := dec_len (n := arN n 5000) (by omega)
  refine RL.assign rfl rfl rfl ?_
  refine RL.nil ?_
  refine NX.seq ?_
  refine TR.seq ?_
  refine TR.region ?_
  refine RL.move rfl rfl rfl ?_
  refine RL.call rfl rfl Try.call13 rfl (dec_spec (n := arN n 5000) (by omega)) (fun _ => ?_)
  refine RL.assign rfl rfl rfl ?_
  refine RL.nil ?_
  refine NX.seq ?_
  refine TR.seq ?_
  refine TR.block ?_
  refine TR.loopP (ι := (Nat × List UInt8)) (fun z => padB z.1 z.2 = txB (arN n 5000) ∧ z.2.length ≤ 4 ∧ 4 ≤ z.1 + z.2.length) (fun z => [(4, S z.2)]) (fun z => M) (fun z => F) (fun z => (4 - z.2.length)) (4, dec (arN n 5000)) ⟨rfl, hd4, Nat.le_add_right _ _⟩ ⟨rfl, trivial⟩ (fun w hw => (hw.to 0 [] 0 [] rfl)) (fun z hz => ?_)
  refine TR.seq ?_
  refine TR.seq ?_
  refine TR.region ?_
  refine RL.move rfl rfl rfl ?_
  refine RL.lenStr rfl wm_tstr9 rfl rfl ?_
  refine RL.bin rfl rfl rfl BinV.lss rfl ?_
  refine RL.nil ?_
  refine NX.seq ?_
  refine TR.cond rfl (fun h1 => ?_) (fun h1 => ?_)
  · skip
    have hl : z.2.length < 4 := by have := of_decide_eq_true h1; omega
    refine TR.skip ?_
    refine NX.seq ?_
    refine TR.block ?_
    refine TR.region ?_
    refine RL.move rfl rfl rfl ?_
    refine RL.bin rfl rfl rfl (BinV.addS (by have := hz.2; simp only [List.length_cons, List.length_nil]; omega)) rfl ?_
    refine RL.assign rfl rfl rfl ?_
    refine RL.nil ?_
    refine NX.off ?_
    refine NX.roundP (z.1 - 1, 48 :: z.2) ⟨by
      have h9 := hz.1
      rw [show z.1 = (z.1 - 1) + 1 from by omega, padB, if_pos hl] at h9
      exact h9, by show (48 :: z.2).length ≤ 4; rw [List.length_cons]; omega, by show 4 ≤ z.1 - 1 + (48 :: z.2).length; rw [List.length_cons]; omega⟩ (by show 4 - (48 :: z.2).length < 4 - z.2.length; rw [List.length_cons]; omega) ⟨rfl, trivial⟩ (fun w hw => (hw.to 0 [] 0 [] rfl))
  · skip
    have hl : ¬ z.2.length < 4 := by have := of_decide_eq_false h1; omega
    refine TR.exit ?_
    refine NX.exitThen ?_
    refine NX.exitThen ?_
    refine NX.exitHere ?_
    refine NX.seq ?_
    refine TR.seq ?_
    refine TR.region ?_
    refine RL.move rfl rfl rfl ?_
    refine RL.assign rfl rfl rfl ?_
    refine RL.nil ?_
    refine NX.seq ?_
    refine TR.ret ?_
    have h9 : z.2 = txB (arN n 5000) := by
      have h9 := hz.1
      cases hz1 : z.1 with
      | zero => rw [hz1] at h9; exact h9
      | succ f => rw [hz1, padB, if_neg hl] at h9; exact h9
    exact NX.ret1 () rfl rfl (by rw [h9]) (fun w hw => hw)
theorem value_spec {l : List UInt8} {M : List HP} {F : List Fact} : Ctr Try.prog 29 [S l] M F Unit (fun _ => I (valB l : Nat)) (fun _ => M) (fun _ => F) := by
  refine Ctr.body Try.func29 rfl rfl ?_
  refine TR.seq ?_
  refine TR.region ?_
  refine RL.assign rfl rfl rfl ?_
  refine RL.nil ?_
  refine NX.seq ?_
  refine TR.seq ?_
  refine TR.region ?_
  refine RL.assign rfl rfl rfl ?_
  refine RL.nil ?_
  refine NX.seq ?_
  refine TR.seq ?_
  refine TR.seq ?_
  refine TR.region ?_
  refine RL.assign rfl rfl rfl ?_
  refine RL.nil ?_
  refine NX.seq ?_
  refine TR.block ?_
  refine TR.loopP (ι := (Nat × Nat)) (fun z => z.1 ≤ 4 ∧ z.1 ≤ l.length ∧ valG (4 - z.1) (l.drop z.1) z.2 = valB l) (fun z => [(0, S l), (3, I (z.2 : Nat)), (4, I (z.1 : Nat))]) (fun z => M) (fun z => F) (fun z => (4 - z.1)) (0, 0) ⟨Nat.zero_le _, Nat.zero_le _, rfl⟩ ⟨rfl, rfl, rfl, trivial⟩ (fun w hw => (hw.to 0 [] 0 [] rfl)) (fun z hz => ?_)
  refine TR.seq ?_
  refine TR.seq ?_
  refine TR.region ?_
  refine RL.move rfl rfl rfl ?_
  refine RL.move rfl rfl rfl ?_
  refine RL.lenStr rfl wm_tstr9 rfl rfl ?_
  refine RL.bin rfl rfl rfl BinV.lss rfl ?_
  refine RL.move rfl rfl rfl ?_
  refine RL.part (fun h1 => ?_) (fun h1 => ?_)
  · skip
    have hl1 := of_decide_eq_true h1
    refine RL.move rfl rfl rfl ?_
    refine RL.bin rfl rfl rfl BinV.lss rfl ?_
    refine RL.pickT rfl rfl rfl rfl ?_
    refine RL.nil ?_
    refine NX.seq ?_
    refine TR.cond rfl (fun h2 => ?_) (fun h2 => ?_)
    · skip
      have hl2 := of_decide_eq_true h2
      obtain ⟨b, hb⟩ : ∃ b, l[z.1]? = some b := ⟨_, List.getElem?_eq_getElem (by omega)⟩
      have hbt := b.toNat_lt
      have hz2 : z.2 ≤ valB l := by rw [← hz.2.2]; exact valG_ge _ _ _
      have hvl := valB_lt l
      refine TR.skip ?_
      refine NX.seq ?_
      refine TR.seq ?_
      refine TR.block ?_
      refine TR.seq ?_
      refine TR.region ?_
      refine RL.move rfl rfl rfl ?_
      refine RL.move rfl rfl rfl ?_
      refine RL.indexS (u := b) rfl wm_tstr9 rfl rfl (by omega) (by rw [Int.toNat_natCast]; exact hb) rfl ?_
      refine RL.bin rfl rfl rfl BinV.geq rfl ?_
      refine RL.move rfl rfl rfl ?_
      refine RL.part (fun h3 => ?_) (fun h3 => ?_)
      · skip
        have hb1 := of_decide_eq_true h3
        refine RL.move rfl rfl rfl ?_
        refine RL.move rfl rfl rfl ?_
        refine RL.indexS (u := b) rfl wm_tstr9 rfl rfl (by omega) (by rw [Int.toNat_natCast]; exact hb) rfl ?_
        refine RL.bin rfl rfl rfl BinV.leq rfl ?_
        refine RL.pickT rfl rfl rfl rfl ?_
        refine RL.nil ?_
        refine NX.seq ?_
        refine TR.cond rfl (fun h4 => ?_) (fun h4 => ?_)
        · skip
          have hb2 := of_decide_eq_true h4
          refine TR.region ?_
          refine RL.move rfl rfl rfl ?_
          refine RL.bin rfl rfl rfl (BinV.mul ((10 * z.2 : Nat) : Int) (by omega) (by omega) (by omega)) rfl ?_
          refine RL.move rfl rfl rfl ?_
          refine RL.move rfl rfl rfl ?_
          refine RL.indexS (u := b) rfl wm_tstr9 rfl rfl (by omega) (by rw [Int.toNat_natCast]; exact hb) rfl ?_
          refine RL.bin rfl rfl rfl (BinV.subB (a := b.toNat) (b := 48) (by omega) (by omega)) rfl ?_
          refine RL.conv rfl rfl ((ConvV.int wm_ti5 wm_ti3).to (v'' := I ((b.toNat - 48 : Nat) : Int)) (by rw [wrap64_id (by omega) (by omega)])) rfl ?_
          refine RL.bin rfl rfl rfl (BinV.add ((10 * z.2 + (b.toNat - 48) : Nat) : Int) (by omega) (by omega) (by omega)) rfl ?_
          refine RL.assign rfl rfl rfl ?_
          refine RL.nil ?_
          refine NX.off ?_
          refine NX.seq ?_
          refine TR.region ?_
          refine RL.move rfl rfl rfl ?_
          refine RL.bin rfl rfl rfl (BinV.add ((z.1 + 1 : Nat) : Int) (by omega) (by omega) (by omega)) rfl ?_
          refine RL.assign rfl rfl rfl ?_
          refine RL.nil ?_
          have hif : (if 48 ≤ b.toNat ∧ b.toNat ≤ 57 then 10 * z.2 + (b.toNat - 48) else z.2) = (10 * z.2 + (b.toNat - 48)) := if_pos ⟨by omega, by omega⟩
          refine NX.roundP (z.1 + 1, (10 * z.2 + (b.toNat - 48))) ⟨by omega, by omega, by
            have h9 := hz.2.2
            rw [show 4 - z.1 = (4 - (z.1 + 1)) + 1 from by omega, valG_step hb, hif] at h9
            exact h9⟩ (by show 4 - (z.1 + 1) < 4 - z.1; omega) ⟨rfl, rfl, rfl, trivial⟩ (fun w hw => (hw.to 0 [] 0 [] rfl))
        · skip
          have hb2 := of_decide_eq_false h4
          refine TR.skip ?_
          refine NX.off ?_
          refine NX.seq ?_
          refine TR.region ?_
          refine RL.move rfl rfl rfl ?_
          refine RL.bin rfl rfl rfl (BinV.add ((z.1 + 1 : Nat) : Int) (by omega) (by omega) (by omega)) rfl ?_
          refine RL.assign rfl rfl rfl ?_
          refine RL.nil ?_
          have hif : (if 48 ≤ b.toNat ∧ b.toNat ≤ 57 then 10 * z.2 + (b.toNat - 48) else z.2) = z.2 := if_neg (by omega)
          refine NX.roundP (z.1 + 1, z.2) ⟨by omega, by omega, by
            have h9 := hz.2.2
            rw [show 4 - z.1 = (4 - (z.1 + 1)) + 1 from by omega, valG_step hb, hif] at h9
            exact h9⟩ (by show 4 - (z.1 + 1) < 4 - z.1; omega) ⟨rfl, rfl, rfl, trivial⟩ (fun w hw => (hw.to 0 [] 0 [] rfl))
      · skip
        have hb1 := of_decide_eq_false h3
        refine RL.skip rfl rfl rfl ?_
        refine RL.skip rfl rfl rfl ?_
        refine RL.skip rfl rfl rfl ?_
        refine RL.skip rfl rfl rfl ?_
        refine RL.pickF rfl rfl rfl rfl ?_
        refine RL.nil ?_
        refine NX.seq ?_
        refine TR.condF rfl ?_
        refine TR.skip ?_
        refine NX.off ?_
        refine NX.seq ?_
        refine TR.region ?_
        refine RL.move rfl rfl rfl ?_
        refine RL.bin rfl rfl rfl (BinV.add ((z.1 + 1 : Nat) : Int) (by omega) (by omega) (by omega)) rfl ?_
        refine RL.assign rfl rfl rfl ?_
        refine RL.nil ?_
        have hif : (if 48 ≤ b.toNat ∧ b.toNat ≤ 57 then 10 * z.2 + (b.toNat - 48) else z.2) = z.2 := if_neg (by omega)
        refine NX.roundP (z.1 + 1, z.2) ⟨by omega, by omega, by
          have h9 := hz.2.2
          rw [show 4 - z.1 = (4 - (z.1 + 1)) + 1 from by omega, valG_step hb, hif] at h9
          exact h9⟩ (by show 4 - (z.1 + 1) < 4 - z.1; omega) ⟨rfl, rfl, rfl, trivial⟩ (fun w hw => (hw.to 0 [] 0 [] rfl))
    · skip
      have hl2 := of_decide_eq_false h2
      refine TR.exit ?_
      refine NX.exitThen ?_
      refine NX.exitThen ?_
      refine NX.exitHere ?_
      refine NX.seq ?_
      refine TR.seq ?_
      refine TR.region ?_
      refine RL.move rfl rfl rfl ?_
      refine RL.assign rfl rfl rfl ?_
      refine RL.nil ?_
      refine NX.seq ?_
      refine TR.ret ?_
      have h9 := hz.2.2
      rw [valG_end (by omega)] at h9
      exact NX.ret1 () rfl rfl (by rw [h9]) (fun w hw => hw)
  · skip
    have hl1 := of_decide_eq_false h1
    refine RL.skip rfl rfl rfl ?_
    refine RL.skip rfl rfl rfl ?_
    refine RL.pickF rfl rfl rfl rfl ?_
    refine RL.nil ?_
    refine NX.seq ?_
    refine TR.condF rfl ?_
    refine TR.exit ?_
    refine NX.exitThen ?_
    refine NX.exitThen ?_
    refine NX.exitHere ?_
    refine NX.seq ?_
    refine TR.seq ?_
    refine TR.region ?_
    refine RL.move rfl rfl rfl ?_
    refine RL.assign rfl rfl rfl ?_
    refine RL.nil ?_
    refine NX.seq ?_
    refine TR.ret ?_
    have h9 := hz.2.2
    rw [valG_end (by omega)] at h9
    exact NX.ret1 () rfl rfl (by rw [h9]) (fun w hw => hw)
def numC (v : Nat) : List Value := [I ((v % 5 : Nat) : Int), I ((v / 5 % 10 : Nat) : Int), I ((v / 50 % 10 : Nat) : Int), I ((v / 500 % 10 : Nat) : Int)]
theorem numbers_spec {l : List UInt8} {M : List HP} {F : List Fact} : Ctr Try.prog 28 [S l] M F Nat (fun z => .slice (some ⟨z, 0, none⟩) 4 4) (fun _ => M) (fun z => CellsF z 0 (numC (valB l)) :: F) := by
  refine Ctr.body Try.func28 rfl rfl ?_
  refine TR.seq ?_
  refine TR.region ?_
  refine RL.assign rfl rfl rfl ?_
  refine RL.nil ?_
  refine NX.seq ?_
  refine TR.seq ?_
  refine TR.region ?_
  refine RL.move rfl rfl rfl ?_
  refine RL.call rfl rfl Try.call29 rfl (value_spec) (fun _ => ?_)
  have hvl := valB_lt l
  refine RL.assign rfl rfl rfl ?_
  refine RL.nil ?_
  refine NX.seq ?_
  refine TR.seq ?_
  refine TR.region ?_
  refine RL.move rfl rfl rfl ?_
  refine RL.bin rfl rfl rfl (BinV.remK (a := valB l) (b := 5) (by decide)) rfl ?_
  refine RL.move rfl rfl rfl ?_
  refine RL.bin rfl rfl rfl (BinV.quo (by decide) ((valB l / 5 : Nat) : Int) (by rw [Int.tdiv_eq_ediv_of_nonneg (by omega)]; omega) (by omega) (by omega)) rfl ?_
  refine RL.bin rfl rfl rfl (BinV.remK (a := valB l / 5) (b := 10) (by decide)) rfl ?_
  refine RL.move rfl rfl rfl ?_
  refine RL.bin rfl rfl rfl (BinV.quo (by decide) ((valB l / 50 : Nat) : Int) (by rw [Int.tdiv_eq_ediv_of_nonneg (by omega)]; omega) (by omega) (by omega)) rfl ?_
  refine RL.bin rfl rfl rfl (BinV.remK (a := valB l / 50) (b := 10) (by decide)) rfl ?_
  refine RL.move rfl rfl rfl ?_
  refine RL.bin rfl rfl rfl (BinV.quo (by decide) ((valB l / 500 : Nat) : Int) (by rw [Int.tdiv_eq_ediv_of_nonneg (by omega)]; omega) (by omega) (by omega)) rfl ?_
  refine RL.bin rfl rfl rfl (BinV.remK (a := valB l / 500) (b := 10) (by decide)) rfl ?_
  refine RL.buildSlice rfl rfl (wm_bs22_4_0_1_2_3 _ _ _ _) rfl (fun b1 => ?_)
  refine RL.assign rfl rfl rfl ?_
  refine RL.nil ?_
  refine NX.seq ?_
  refine TR.ret ?_
  exact NX.ret1 b1 rfl rfl rfl (fun w hw => St.keep hw)
end Go.Proofs.Ythefimaaeilefaa
