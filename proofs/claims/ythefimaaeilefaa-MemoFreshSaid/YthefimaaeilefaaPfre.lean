/- The law MemoFresh holds: whatever the input, it returns true and the input reads as it did. No condition. -/
import Derived.Test.YthefimaaeilefaaPfrd
set_option linter.unusedVariables false
set_option linter.unusedSimpArgs false
namespace Go.Proofs.Ythefimaaeilefaa
open Go.GL
set_option linter.unusedVariables false
theorem vb_bs46_1_0 (x00 : List UInt8) (x010 : List UInt8) (x011 : Int) : BuildSV Try.prog 46 51 1 [(0, .agg #[S x00, S x010, .int .i64 x011])] [S x00, S x010, .int .i64 x011] := fun w => by kernel_rfl
theorem vb_bv51_0_1 (x0 : List UInt8) (x10 : List UInt8) (x11 : Int) : BuildV Try.prog 51 [(0, S x0), (1, .agg #[S x10, .int .i64 x11])] (.agg #[S x0, S x10, .int .i64 x11]) := fun w => by kernel_rfl
theorem vb_ni46 : noInt Try.prog 46 = true := by kernel_rfl
theorem vb_ta49 : tyAgg Try.prog 49 2 = true := by kernel_rfl
theorem vb_te51 : tyElem Try.prog 51 3 40 = true := by kernel_rfl
theorem vb_tf116_4 : fieldOff Try.prog 116 4 5 = true := by kernel_rfl
theorem vb_tf51_0 : fieldOff Try.prog 51 0 0 = true := by kernel_rfl
theorem vb_tf51_1 : fieldOff Try.prog 51 1 1 = true := by kernel_rfl
theorem vb_tf76_6 : fieldOff Try.prog 76 6 6 = true := by kernel_rfl
theorem vb_tf76_7 : fieldOff Try.prog 76 7 7 = true := by kernel_rfl
theorem vb_tl46 : tySlice Try.prog 46 51 = true := by kernel_rfl
theorem vb_tl74 : tySlice Try.prog 74 116 = true := by kernel_rfl
theorem vb_ts4 : tyScalar Try.prog 4 = true := by kernel_rfl
theorem vb_ts46 : tyScalar Try.prog 46 = true := by kernel_rfl
theorem vb_ts74 : tyScalar Try.prog 74 = true := by kernel_rfl
theorem vb_ts9 : tyScalar Try.prog 9 = true := by kernel_rfl
theorem vb_tz116 : tySize Try.prog 116 7 = true := by kernel_rfl
theorem vb_tz46 : tySize Try.prog 46 1 = true := by kernel_rfl
theorem vb_tz49 : tySize Try.prog 49 2 = true := by kernel_rfl
theorem vb_tz51 : tySize Try.prog 51 3 = true := by kernel_rfl
def ROb (m : Nat) (bud : Int) (ia : Option Addr) (ic d : Nat) : Prop := ∀ {X : RX} {k : Ky} {by_ : Option Nat} {bv : Int} {M : List HP} {F : List Fact}, ROk UR d 0 X → k ∈ UR → ByR X by_ bv → ArrF ia (inA X.inp) ∈ F → X.inp.length ≤ 1000 → 0 ≤ X.gets → X.gets ≤ 1099511627776 →
  Ctr Try.prog 56 [PtV m, S k, I bv] (REB m bud ia ic X :: M) F {Y : RX // Y.en = (obt ruleR d k by_ X.en).2 ∧ KpR X.fs.length X Y} (fun _ => anV (obt ruleR d k by_ X.en).1) (fun Y => REB m bud ia ic Y.1 :: M) (fun _ => F)
def rstp (d own : Nat) (k : Ky) (X : RX) (a : An) (Y : RX) : Prop := askG (fun k b e => obt ruleR d k (some b) e) own k X.en = (a, Y.en) ∧ KpR own X Y
theorem rruns_run {d own : Nat} {r : Ru} {X Y : RX} {a : An} (h : Runs (rstp d own) r X a Y) : runG (fun k b e => obt ruleR d k (some b) e) own r X.en = (a, Y.en) ∧ KpR own X Y := by
  induction h with
  | ret => exact ⟨rfl, KpR.refl _ _⟩
  | ask h1 _ ih => rw [runG_ask, h1.1]; exact ⟨ih.1, h1.2.trans ih.2⟩
theorem obt_inp (d : Nat) (k : Ky) (by_ : Option Nat) (e : En) : (obt ruleR d k by_ e).2.inp = e.inp := (obt_si (S := fun _ => False) ruleR d k by_ e ⟨fun _ h => h.elim⟩).2
theorem rok_kq {d c : Nat} {X Y : RX} {e : En} (h : ROk UR d c X) (hw : Wk UR Y.en) (hk : Kq X.en Y.en) (hr : Rich UR c Y.en) (ha : AllOk Y.en) (hq : QU UR Y.en) : ROk UR d c Y := by
  refine ⟨hw, ?_, hr, ha, Nat.le_trans hk.su h.su, hq⟩
  have h1 := h.dep
  by_cases h0 : X.fs.length = 0
  · omega
  · have := hk.lt (i := X.fs.length - 1) (by rw [ren_len]; omega)
    rw [ren_len] at this; omega
theorem rok_obt {d c d2 : Nat} {X Y : RX} {k : Ky} {by_ : Option Nat} (h : ROk UR d c X) (hk : k ∈ UR) (hY : Y.en = (obt ruleR d2 k by_ X.en).2) : ROk UR d c Y := by
  have h1 := obt_wk ruleR_k d2 k by_ X.en hk h.wk
  have h2 := obt_rich ruleR_k d2 k by_ X.en c hk h.wk h.rich
  have h3 := obt_all ruleR d2 k by_ X.en h.all
  have h4 := obt_qu ruleR_k d2 k by_ X.en hk h.wk h.qu
  rw [← hY] at h1 h2 h3 h4
  exact rok_kq (e := X.en) h h1.1 h1.2 h2.1 h3 h4
theorem run_trA {P : Program} {w : World} {K : List Nat} {b off T : Nat} {t : Tr} {i : Nat} {p : Ky × An} (h : CellsAt w K b off (trC t)) (hT : tyAgg P T 2 = true) (hp : t[i]? = some p) : Reads P w T ⟨b, off + ((i : Nat) : Int).toNat * 3 + 1, none⟩ (anV p.2) := by
  rw [Nat.add_assoc]
  refine run_loadCellsAt (cs := [S p.2.s, I p.2.e]) (h.at (o := ((i : Nat) : Int).toNat * 3 + 1) fun j v hv => ?_) hT
  rw [Int.toNat_natCast, Nat.add_assoc]
  exact trC_at hp (1 + j) v (by match j, hv with | 0, hv => exact hv | 1, hv => exact hv | j + 2, hv => simp at hv)
theorem trC_key {t : Tr} {i : Nat} {p : Ky × An} (h : t[i]? = some p) : (trC t)[((i : Nat) : Int).toNat * 3 + 0]? = some (S p.1) := by rw [Int.toNat_natCast]; exact trC_at h 0 _ rfl
def rnote (k : Ky) (a : An) (oa : Option Addr) (ca : Nat) (y : RF) : RF := ⟨{ y.f with tr := y.f.tr ++ [(k, a)] }, oa, ca, y.an⟩
theorem rnote_en {Y : RX} {own : Nat} {y : RF} {k : Ky} {a : An} {oa : Option Addr} {ca : Nat} (hy : Y.fs[own]? = some y) : ({ Y with fs := Y.fs.set own (rnote k a oa ca y) } : RX).en = addTr Y.en own k a := ren_set hy rfl
theorem rask_new {d own : Nat} {X Y : RX} {k : Ky} {x y : RF} {oa : Option Addr} {ca : Nat} (hx : X.fs[own]? = some x) (hn : aGet x.f.tr k = none) (hY : Y.en = (obt ruleR d k (some own) X.en).2) (hy : Y.fs[own]? = some y) : askG (fun k b e => obt ruleR d k (some b) e) own k X.en = ((obt ruleR d k (some own) X.en).1, ({ Y with fs := Y.fs.set own (rnote k (obt ruleR d k (some own) X.en).1 oa ca y) } : RX).en) := by
  unfold askG
  rw [trOf_is (ren_at hx), hn, rnote_en hy, hY]
theorem rask_old {d own : Nat} {X : RX} {k : Ky} {x : RF} {a : An} (hx : X.fs[own]? = some x) (hn : aGet x.f.tr k = some a) : askG (fun k b e => obt ruleR d k (some b) e) own k X.en = (a, X.en) := by
  unfold askG
  rw [trOf_is (ren_at hx), hn]
theorem rok_note {d : Nat} {X Y : RX} {own : Nat} {k : Ky} {a : An} (h : ROk UR d 0 X) (hk : k ∈ UR) (hl : own < X.fs.length) (hY : askG (fun k b e => obt ruleR d k (some b) e) own k X.en = (a, Y.en)) : ROk UR d 0 Y := by
  have h1 := ask_w3 (obt_wob ruleR_k d) (own := own) hk (by rw [ren_len]; exact hl) h.wk
  have h2 : Rich UR 0 (askG (fun k b e => obt ruleR d k (some b) e) own k X.en).2 ∧ AllOk (askG (fun k b e => obt ruleR d k (some b) e) own k X.en).2 := by
    unfold askG
    split
    · exact ⟨h.rich, h.all⟩
    · have h3 := obt_rich ruleR_k d k (some own) X.en 0 hk h.wk h.rich
      exact ⟨h3.1.le (mod_kn _ _ _ fun _ => rfl) rfl rfl, obt_all ruleR d k (some own) X.en h.all⟩
  have h3 := ask_qu (own := own) (ob := fun k b e => obt ruleR d k (some b) e) (fun k b e => obt_qu ruleR_k d k (some b) e) hk h.wk h.qu
  rw [hY] at h1 h2 h3
  refine ⟨h1.1, ?_, h2.1, h2.2, Nat.le_trans h1.2.1.su h.su, h3⟩
  have := h1.2.1.lt (i := X.fs.length - 1) (by rw [ren_len]; omega)
  rw [ren_len] at this
  have := h.dep; omega
theorem obt_gets (d : Nat) (k : Ky) (by_ : Option Nat) (e : En) : (obt ruleR d k by_ e).2.gets = e.gets := by
  have hold : ∀ {ob : Ky → Nat → En → An × En} {own : Nat}, (∀ k b e, (ob k b e).2.gets = e.gets) → ∀ (T : Tr) (e : En), (holdG ob own T e).2.gets = e.gets := by
    intro ob own ho T
    induction T with
    | nil => exact fun e => rfl
    | cons p T ih =>
      intro e
      obtain ⟨k, a⟩ := p
      rw [holdG]
      split
      · exact ho k own e
      · rw [ih]; exact ho k own e
  have run : ∀ {ob : Ky → Nat → En → An × En} {own : Nat}, (∀ k b e, (ob k b e).2.gets = e.gets) → ∀ (r : Ru) (e : En), (runG ob own r e).2.gets = e.gets := by
    intro ob own ho r
    induction r with
    | ret a => exact fun e => rfl
    | ask k f ih =>
      intro e
      rw [runG]
      split
      · exact ih _ e
      · rw [ih]; exact ho k own e
  have comp : ∀ {ob : Ky → Nat → En → An × En} {own : Nat}, (∀ k b e, (ob k b e).2.gets = e.gets) → ∀ (r : Ru) (k : Ky) (e : En), (compG ob r k own e).gets = e.gets := by
    intro ob own ho r k e
    unfold compG
    split
    · rfl
    · have h1 := run (own := own) ho r { e with fuel := e.fuel - 1 }
      split
      · exact h1
      · exact h1
  induction d generalizing k by_ e with
  | zero => rfl
  | succ d ih =>
    have ho : ∀ k b e, ((fun k b e => obt ruleR d k (some b) e) k b e).2.gets = e.gets := fun k b e => ih k (some b) e
    rw [obt]
    split
    · rfl
    · split
      · rfl
      · split
        · unfold hit
          split
          · rfl
          · split <;> rfl
        · split
          · rfl
          · have hv : (visit (fun k b e => obt ruleR d k (some b) e) (ruleR k) k e).gets = e.gets := by
              unfold visit
              split
              · rename_i q _
                have h1 := hold (own := e.st.length) ho q.tr (push e k)
                split
                · exact h1
                · exact (comp ho _ k _).trans h1
              · exact comp ho _ k (push e k)
            unfold leave
            split
            · exact hv
            · split
              · unfold bump
                split
                · exact hv
                · exact hv
              · exact hv
set_option maxHeartbeats 1000000 in
theorem rask_spec {m : Nat} {bud : Int} {ia : Option Addr} {ic : Nat} {X : RX} {M : List HP} {F : List Fact} {d own : Nat} {k : Ky} {x : RF} (hob : ROb m bud ia ic d) (hX : ROk UR d 0 X) (hk : k ∈ UR) (hx : X.fs[own]? = some x) (hin : ArrF ia (inA X.inp) ∈ F) (hil : X.inp.length ≤ 1000) (hg0 : 0 ≤ X.gets) (hg1 : X.gets ≤ 1099511627776) (hT : ArrF x.oa (trC x.f.tr) ∈ F) : Ctr Try.prog 91 [PtV m, S k, I (own : Nat)] (REB m bud ia ic (X) :: M) F {q : An × RX × RF // rstp d own k X q.1 q.2.1 ∧ ROk UR d 0 q.2.1 ∧ (q.2.1.inp = X.inp ∧ q.2.1.gets = X.gets) ∧ q.2.1.fs[own]? = some q.2.2 ∧ q.2.2.f.key = x.f.key} (fun q => anV q.1.1) (fun q => REB m bud ia ic (q.1.2.1) :: M) (fun q => ArrF q.1.2.2.oa (trC q.1.2.2.f.tr) :: F) := by
  refine Ctr.body Try.func91 rfl rfl ?_
  refine TR.seq ?_
  refine TR.region ?_
  refine RL.allocA rfl (Try.zeroValue49) rfl (fun b1 => ?_)
  refine RL.nil ?_
  refine NX.seq ?_
  refine TR.seq ?_
  refine TR.seq ?_
  refine TR.pick 2 [1, 0] rfl ?_
  refine TR.open (fun w hw => (St.exOpen (show St w (Ex _ :: _) _ from hw))) (fun h => ?_)
  have hown : own < X.fs.length := (List.getElem?_eq_some_iff.1 hx).1
  have hXl : X.fs.length ≤ 1000 := by have h9 := hX.wk.len; rw [ren_len] at h9; exact Nat.le_trans h9 (by decide)
  have hxtl : x.f.tr.length ≤ 1000 := by have h9 := (hX.wk.st x.f (List.mem_of_getElem? (ren_at hx))).2.len; exact Nat.le_trans h9 (by decide)
  refine TR.openP (fun w hw => own_at (i := 3) rfl (rf_ne hx) hw) (fun g hg => ?_)
  refine TR.region ?_
  refine RL.assign rfl rfl rfl ?_
  refine RL.nil ?_
  refine NX.seq ?_
  refine TR.block ?_
  refine TR.loopP (ι := Nat) (fun i => i ≤ x.f.tr.length ∧ ∀ q, q ∈ x.f.tr.take i → q.1 ≠ k) (fun i => [(0, PtV m), (1, S k), (2, I (own : Nat)), (6, PtV b1), (7, I (i : Nat))]) (fun i => Box b1 49 [S [], I 0] :: Box m 76 [I bud, .slice ia X.inp.length ic, .slice h.la X.qs.length h.lc, .slice h.ca X.comp.length h.cc, I X.gets, I (X.fuel : Nat), .bool false, .slice h.sa X.fs.length h.sc] :: OwnSl 105 7 h.la X.qs.length h.lc (flC RQ.cs X.qs) :: OwnSl 9 1 h.ca X.comp.length h.cc (coC X.comp) :: OwnSl 116 7 h.sa X.fs.length h.sc (flC RF.cs X.fs) :: M) (fun i => F) (fun i => (x.f.tr.length - i)) 0 ⟨Nat.zero_le _, fun q hq => by simp at hq⟩ ⟨rfl, rfl, rfl, rfl, rfl, trivial⟩ (fun w hw => (hw.to 5 [4, 0, 1, 2, 3] 0 [] rfl)) (fun i hi0 => ?_)
  refine TR.seq ?_
  refine TR.seq ?_
  refine TR.region ?_
  refine RL.move rfl rfl rfl ?_
  refine RL.move rfl rfl rfl ?_
  refine RL.nilCheck rfl rfl rfl ?_
  refine RL.fieldAddr rfl vb_tf76_7 rfl rfl ?_
  refine RL.load1 1 rfl vb_ts74 rfl rfl rfl rfl ?_
  refine RL.move rfl rfl rfl ?_
  refine RL.indexAddr rfl vb_tl74 vb_tz116 (congrArg (fun a => some (Value.slice a _ _)) hg) rfl (by omega) (by omega) rfl ?_
  refine RL.fieldAddr rfl vb_tf116_4 rfl rfl ?_
  refine RL.loadS rfl rfl (own_one (i := 4) rfl hg vb_ts46 (rf_at hx 5 rfl)) rfl ?_
  refine RL.lenSlice rfl vb_tl46 rfl rfl ?_
  refine RL.bin rfl rfl rfl BinV.lss rfl ?_
  refine RL.nil ?_
  refine NX.seq ?_
  refine TR.cond rfl (fun h2 => ?_) (fun h2 => ?_)
  · skip
    have hi : i < x.f.tr.length := by have := of_decide_eq_true h2; omega
    obtain ⟨p, hp⟩ : ∃ p, x.f.tr[i]? = some p := ⟨_, List.getElem?_eq_getElem hi⟩
    refine TR.openP (open_arr hT (trC_ne hp)) (fun ta hta => ?_)
    refine TR.skip ?_
    refine NX.seq ?_
    refine TR.seq ?_
    refine TR.block ?_
    refine TR.seq ?_
    refine TR.region ?_
    refine RL.move rfl rfl rfl ?_
    refine RL.nilCheck rfl rfl rfl ?_
    refine RL.fieldAddr rfl vb_tf76_7 rfl rfl ?_
    refine RL.load1 1 rfl vb_ts74 rfl rfl rfl rfl ?_
    refine RL.move rfl rfl rfl ?_
    refine RL.indexAddr rfl vb_tl74 vb_tz116 (congrArg (fun a => some (Value.slice a _ _)) hg) rfl (by omega) (by omega) rfl ?_
    refine RL.fieldAddr rfl vb_tf116_4 rfl rfl ?_
    refine RL.loadS rfl rfl (own_one (i := 4) rfl hg vb_ts46 (rf_at hx 5 rfl)) rfl ?_
    refine RL.move rfl rfl rfl ?_
    refine RL.indexAddr rfl vb_tl46 vb_tz51 (congrArg (fun a => some (Value.slice a _ _)) hta) rfl (by omega) (by omega) rfl ?_
    refine RL.fieldAddr rfl vb_tf51_0 rfl rfl ?_
    refine RL.loadF rfl rfl (fun w K hF => run_loadCell1 (j := ((i : Nat) : Int).toNat * 3 + 0) (hF (CellsF ta.1 ta.2 (trC x.f.tr)) (.head _)) vb_ts9 (trC_key hp)) rfl ?_
    refine RL.move rfl rfl rfl ?_
    refine RL.bin rfl rfl rfl BinV.eqlS rfl ?_
    refine RL.nil ?_
    refine NX.seq ?_
    refine TR.cond rfl (fun h3 => ?_) (fun h3 => ?_)
    · skip
      have h36 := of_decide_eq_true h3
      obtain ⟨v9, e91, hag, _⟩ := kIdx_some (kIdx_first hp h36 hi0.2)
      rw [hp] at e91
      have e92 : v9 = p.2 := by cases e91; rfl
      subst e92
      refine TR.seq ?_
      refine TR.region ?_
      refine RL.move rfl rfl rfl ?_
      refine RL.nilCheck rfl rfl rfl ?_
      refine RL.fieldAddr rfl vb_tf76_7 rfl rfl ?_
      refine RL.load1 1 rfl vb_ts74 rfl rfl rfl rfl ?_
      refine RL.move rfl rfl rfl ?_
      refine RL.indexAddr rfl vb_tl74 vb_tz116 (congrArg (fun a => some (Value.slice a _ _)) hg) rfl (by omega) (by omega) rfl ?_
      refine RL.fieldAddr rfl vb_tf116_4 rfl rfl ?_
      refine RL.loadS rfl rfl (own_one (i := 4) rfl hg vb_ts46 (rf_at hx 5 rfl)) rfl ?_
      refine RL.move rfl rfl rfl ?_
      refine RL.indexAddr rfl vb_tl46 vb_tz51 (congrArg (fun a => some (Value.slice a _ _)) hta) rfl (by omega) (by omega) rfl ?_
      refine RL.fieldAddr rfl vb_tf51_1 rfl rfl ?_
      refine RL.loadF rfl rfl (fun w K hF => run_trA (hF (CellsF ta.1 ta.2 (trC x.f.tr)) (.head _)) vb_ta49 hp) rfl ?_
      refine RL.storeA 0 rfl rfl rfl rfl vb_tz49 rfl rfl ?_
      refine RL.nil ?_
      refine NX.seq ?_
      refine TR.ret ?_
      refine NX.retBlock ?_
      refine NX.retThen ?_
      refine NX.retThen ?_
      refine NX.retBlock ?_
      refine NX.retThen ?_
      refine NX.retC (j := 0) (⟨(p.2, X, x), ⟨rask_old hx hag, KpR.refl _ _⟩, hX, ⟨rfl, rfl⟩, hx, rfl⟩ : {q : An × RX × RF // rstp d own k X q.1 q.2.1 ∧ ROk UR d 0 q.2.1 ∧ (q.2.1.inp = X.inp ∧ q.2.1.gets = X.gets) ∧ q.2.1.fs[own]? = some q.2.2 ∧ q.2.2.f.key = x.f.key}) rfl rfl rfl vb_ta49 rfl (fun w hw => ?_)
      exact (St.rebClose (X) h rfl rfl rfl rfl rfl rfl rfl (hw.to 5 [1, 2, 3, 4] 1 [] rfl)).derive (ψ := ArrF x.oa (trC x.f.tr)) (fun K hf => hf _ hT)
    · skip
      have h36 := of_decide_eq_false h3
      refine TR.skip ?_
      refine NX.off ?_
      refine NX.seq ?_
      refine TR.region ?_
      refine RL.move rfl rfl rfl ?_
      refine RL.bin rfl rfl rfl (BinV.add ((i + 1 : Nat) : Int) (by omega) (by omega) (by omega)) rfl ?_
      refine RL.assign rfl rfl rfl ?_
      refine RL.nil ?_
      refine NX.roundP (i + 1) ⟨by omega, fun q hq => by
        rw [List.take_add_one, hp] at hq
        rcases List.mem_append.1 hq with hq | hq
        · exact hi0.2 q hq
        · simp at hq; rw [hq]; exact h36⟩ (by omega) ⟨rfl, rfl, rfl, rfl, rfl, trivial⟩ (fun w hw => (hw.to 5 [0, 1, 2, 3, 4] 1 [] rfl))
  · skip
    have hi : x.f.tr.length ≤ i := by have := of_decide_eq_false h2; omega
    refine TR.exit ?_
    refine NX.exitThen ?_
    refine NX.exitThen ?_
    refine NX.exitHere ?_
    refine NX.seq ?_
    refine TR.seq ?_
    refine TR.weak (fun w hw => St.rebClose (X) h rfl rfl rfl rfl rfl rfl rfl (show St w (_ :: _ :: _ :: _ :: _) _ from hw.toM 5 [1, 2, 3, 4, 0] rfl)) ?_
    refine TR.region ?_
    refine RL.move rfl rfl rfl ?_
    refine RL.move rfl rfl rfl ?_
    refine RL.move rfl rfl rfl ?_
    refine RL.call rfl rfl Try.call56 rfl (hob hX hk (.inr ⟨own, x, rfl, hx, rfl⟩) hin hil hg0 hg1) (fun Y => ?_)
    obtain ⟨Y, hYe, hYk⟩ := Y
    obtain ⟨y, hy, hyoa, hyca, hytr, hyk⟩ := hYk.kp own x hown hx
    have hYi : Y.inp = X.inp := by show Y.en.inp = _; rw [hYe]; exact obt_inp _ _ _ _
    have hYg : Y.gets = X.gets := by show Y.en.gets = _; rw [hYe]; exact obt_gets _ _ _ _
    have hYl : Y.fs.length ≤ 1000 := by have h9 := (rok_obt hX hk hYe).wk.len; rw [ren_len] at h9; exact Nat.le_trans h9 (by decide)
    have hag : aGet x.f.tr k = none := (kIdx_none (kIdx_never (l := x.f.tr) (fun q hq => hi0.2 q (by rw [List.take_of_length_le hi]; exact hq)))).1
    have hyl : own < Y.fs.length := (List.getElem?_eq_some_iff.1 hy).1
    have hytl : y.f.tr.length ≤ 1000 := by rw [hytr]; exact hxtl
    dsimp only
    refine RL.allocA rfl (Try.zeroValue49) rfl (fun b4 => ?_)
    refine RL.storeA 0 rfl rfl rfl rfl vb_tz49 rfl rfl ?_
    refine RL.nil ?_
    refine NX.seq ?_
    refine TR.seq ?_
    refine TR.seq ?_
    refine TR.pick 2 [1, 0] rfl ?_
    refine TR.open (fun w hw => (St.exOpen (show St w (Ex _ :: _) _ from hw))) (fun h => ?_)
    refine TR.openP (fun w hw => own_at (i := 3) rfl (rf_ne hy) hw) (fun g2 hg2 => ?_)
    refine TR.region ?_
    refine RL.move rfl rfl rfl ?_
    refine RL.nilCheck rfl rfl rfl ?_
    refine RL.fieldAddr rfl vb_tf76_6 rfl rfl ?_
    refine RL.load1 0 rfl vb_ts4 rfl rfl rfl rfl ?_
    refine RL.not rfl rfl rfl ?_
    refine RL.nil ?_
    refine NX.seq ?_
    refine TR.condT rfl ?_
    refine TR.seq ?_
    refine TR.region ?_
    refine RL.assign rfl rfl rfl ?_
    refine RL.weak (fun w hw => OwnSl.nil_new 51 3 hw) ?_
    refine RL.nil ?_
    refine NX.seq ?_
    refine TR.seq ?_
    refine TR.region ?_
    refine RL.move rfl rfl rfl ?_
    refine RL.move rfl rfl rfl ?_
    refine RL.nilCheck rfl rfl rfl ?_
    refine RL.fieldAddr rfl vb_tf76_7 rfl rfl ?_
    refine RL.load1 1 rfl vb_ts74 rfl rfl rfl rfl ?_
    refine RL.move rfl rfl rfl ?_
    refine RL.indexAddr rfl vb_tl74 vb_tz116 (congrArg (fun a => some (Value.slice a _ _)) hg2) rfl (by omega) (by omega) rfl ?_
    refine RL.fieldAddr rfl vb_tf116_4 rfl rfl ?_
    refine RL.loadS rfl rfl (own_one (i := 4) rfl hg2 vb_ts46 (rf_at hy 5 rfl)) rfl ?_
    refine RL.ofGV rfl rfl (GV.append (j := 0) vb_tl46 vb_ni46 vb_te51 rfl rfl rfl (src_fact (xs := trC y.f.tr) (by rw [hyoa, hytr]; exact hT) (trC_len _) (trC_one _)) (by omega) (by omega)) (fun y1 => ?_)
    refine RL.assign rfl rfl rfl ?_
    refine RL.nil ?_
    refine NX.seq ?_
    refine TR.sub (E' := [(0, _), (1, _), (2, _), (6, _), (8, _), (9, _), (49, _)]) ⟨rfl, rfl, rfl, rfl, rfl, rfl, rfl, trivial⟩ ?_
    refine TR.draw mixed ?_
    apply AR.more [(0, _), (1, _), (2, _), (3, _), (4, _), (5, _), (6, _), (7, _), (8, _)]
    refine AR.eff [0, 1, 2, 3, 4, 5, 6, 7, 8] 9 [0, 1, 2, 3, 4, 5, 6, 7, 8, 9, 10, 11, 12, 13] ⟨QOne.yes rfl rfl rfl (PV.move rfl), QOne.yes rfl rfl rfl (PV.nilCheck rfl), QOne.yes rfl rfl rfl (PV.fieldAddr vb_tf76_7 rfl), QOne.yes rfl rfl rfl (PV.load1 1 vb_ts74 rfl rfl rfl), QOne.yes rfl rfl rfl (PV.move rfl), QOne.yes rfl rfl rfl (PV.move rfl), QOne.yes rfl rfl rfl (PV.move rfl), QOne.yes rfl rfl rfl (PV.loadA 5 rfl rfl vb_ta49), QOne.yes rfl rfl rfl (PV.build rfl (vb_bv51_0_1 _ _ _)), trivial⟩ rfl rfl rfl rfl rfl rfl rfl (EV.buildSlice rfl (vb_bs46_1_0 _ _ _)) (fun b6 => ?_)
    refine AR.done [8, 6, 7] rfl ?_
    refine AR.eff [0, 1, 2, 3, 4, 5] 10 [0, 1, 2, 3, 4, 5, 6, 7, 8, 9, 10, 11, 12, 13] ⟨QOne.yes rfl rfl rfl (PV.move rfl), QOne.yes rfl rfl rfl (PV.nilCheck rfl), QOne.yes rfl rfl rfl (PV.fieldAddr vb_tf76_7 rfl), QOne.yes rfl rfl rfl (PV.load1 2 vb_ts74 rfl rfl rfl), QOne.yes rfl rfl rfl (PV.move rfl), QOne.yes rfl rfl rfl (PV.move rfl), trivial⟩ rfl rfl rfl rfl rfl rfl rfl (EV.ofGV (GV.append (j := 1) vb_tl46 vb_ni46 vb_te51 rfl rfl rfl (src_box (i := 0) rfl rfl rfl) (by omega) (by omega))) (fun y2 => ?_)
    refine AR.done [5] rfl ?_
    apply AR.more [(11, _), (12, _)]
    refine AR.eff [0, 1, 2, 3, 4, 11, 12] 13 [0, 1, 2, 3, 4, 5, 6, 7, 8, 9, 10, 11, 12, 13] ⟨QOne.yes rfl rfl rfl (PV.move rfl), QOne.yes rfl rfl rfl (PV.nilCheck rfl), QOne.yes rfl rfl rfl (PV.fieldAddr vb_tf76_7 rfl), QOne.yes rfl rfl rfl (PV.load1 2 vb_ts74 rfl rfl rfl), QOne.yes rfl rfl rfl (PV.move rfl), QOne.yes rfl rfl rfl (PV.indexAddr vb_tl74 vb_tz116 (congrArg (fun a => some (Value.slice a _ _)) hg2) rfl (by omega) (by omega)), QOne.yes rfl rfl rfl (PV.fieldAddr vb_tf116_4 rfl), trivial⟩ rfl rfl rfl rfl rfl rfl rfl (EV.storeO (vs := [.slice y2.1 (0 + y.f.tr.length + 1) y2.2]) 5 rfl rfl rfl hg2 vb_tz46 rfl (rf_room (o := 6) hy (by decide)) rfl) (fun _ => ?_)
    refine AR.done [12, 0, 1, 2, 3, 4, 11] rfl ?_
    refine AR.last [] [0, 1, 2, 3, 4, 5, 6, 7, 8, 9, 10, 11, 12, 13] trivial rfl rfl rfl ?_
    refine NX.sub (E' := [(6, _), (8, _), (49, _)]) ⟨rfl, rfl, rfl, trivial⟩ ?_
    refine NX.seq ?_
    refine TR.seq ?_
    refine TR.region ?_
    refine RL.loadA 6 rfl rfl rfl vb_ta49 rfl ?_
    refine RL.storeA 7 rfl rfl rfl rfl vb_tz49 rfl rfl ?_
    refine RL.nil ?_
    refine NX.seq ?_
    refine TR.ret ?_
    have hask := rask_new (oa := y2.1) (ca := y2.2) hx hag hYe hy
    have hsz : (Y.fs.set own (rnote k (obt ruleR d k (some own) X.en).1 y2.1 y2.2 y))[own]? = some (rnote k (obt ruleR d k (some own) X.en).1 y2.1 y2.2 y) := set_at hy
    refine NX.retC (j := 7) (⟨((obt ruleR d k (some own) X.en).1, { Y with fs := Y.fs.set own (rnote k (obt ruleR d k (some own) X.en).1 y2.1 y2.2 y) }, (rnote k (obt ruleR d k (some own) X.en).1 y2.1 y2.2 y)), ⟨hask, (hYk.le (by omega)).trans (KpR.above (Nat.le_refl _))⟩, rok_note hX hk (by omega) hask, ⟨hYi, hYg⟩, hsz, hyk⟩ : {q : An × RX × RF // rstp d own k X q.1 q.2.1 ∧ ROk UR d 0 q.2.1 ∧ (q.2.1.inp = X.inp ∧ q.2.1.gets = X.gets) ∧ q.2.1.fs[own]? = some q.2.2 ∧ q.2.2.f.key = x.f.key}) rfl rfl rfl vb_ta49 rfl (fun w hw => ?_)
    have h1 := (hw.to 8 [1, 2, 3, 4, 5] 0 [] rfl)
    have h2 := St.keepSl h1
    have h3 := h2.derive (ψ := ArrF (rnote k (obt ruleR d k (some own) X.en).1 y2.1 y2.2 y).oa (trC (rnote k (obt ruleR d k (some own) X.en).1 y2.1 y2.2 y).f.tr)) (fun K hf => by have h9 := hf _ (.head _); show ArrAt _ _ _ (trC (y.f.tr ++ [(k, (obt ruleR d k (some own) X.en).1)])); rw [trC_append]; exact h9)
    have h4 := St.rebClose (m := m) (bud := bud) (ia := ia) (ic := ic) (M := M) ({ Y with fs := Y.fs.set own (rnote k (obt ruleR d k (some own) X.en).1 y2.1 y2.2 y) }) h (by show _ = [I bud, .slice ia Y.inp.length ic, .slice h.la Y.qs.length h.lc, .slice h.ca Y.comp.length h.cc, I Y.gets, I (Y.fuel : Nat), .bool false, .slice h.sa (Y.fs.set own (rnote k (obt ruleR d k (some own) X.en).1 y2.1 y2.2 y)).length h.sc]; rw [List.length_set]) rfl rfl rfl rfl (by show _ = (Y.fs.set own (rnote k (obt ruleR d k (some own) X.en).1 y2.1 y2.2 y)).length; rw [List.length_set]) (rf_set (vs := [.slice y2.1 (0 + y.f.tr.length + 1) y2.2]) hy (by show 5 + 1 ≤ 7; decide) (by show _ = _; unfold rnote RF.cs; simp only [List.length_append, List.length_cons, List.length_nil, Nat.zero_add]; rfl)) (show St w (_ :: _ :: _ :: _ :: M) _ from h3)
    exact h4.facts (fun φ hφ => by
      rcases List.mem_cons.1 hφ with e | e
      · rw [e]; exact .head _
      · exact .tail _ (.tail _ e))
end Go.Proofs.Ythefimaaeilefaa

namespace Go.Proofs.Ythefimaaeilefaa
open Go.GL
set_option linter.unusedVariables false
theorem vc_bv49_0 (x0 : List UInt8) : BuildV Try.prog 49 [(0, S x0)] (.agg #[S x0, .int .i64 0]) := fun w => by kernel_rfl
theorem vc_bv49_1 (x1 : Int) : BuildV Try.prog 49 [(1, .int .i64 x1)] (.agg #[S [], .int .i64 x1]) := fun w => by kernel_rfl
theorem vc_ta49 : tyAgg Try.prog 49 2 = true := by kernel_rfl
theorem vc_tf49_0 : fieldOff Try.prog 49 0 0 = true := by kernel_rfl
theorem vc_tf49_1 : fieldOff Try.prog 49 1 1 = true := by kernel_rfl
theorem vc_tl22 : tySlice Try.prog 22 3 = true := by kernel_rfl
theorem vc_ts25 : tyScalar Try.prog 25 = true := by kernel_rfl
theorem vc_ts3 : tyScalar Try.prog 3 = true := by kernel_rfl
theorem vc_ts9 : tyScalar Try.prog 9 = true := by kernel_rfl
theorem vc_tstr9 : tyStr Try.prog 9 = true := by kernel_rfl
theorem vc_tz3 : tySize Try.prog 3 1 = true := by kernel_rfl
theorem vc_tz49 : tySize Try.prog 49 2 = true := by kernel_rfl
set_option maxHeartbeats 2000000 in
theorem rrule_spec {m : Nat} {bud : Int} {ia : Option Addr} {ic : Nat} {X : RX} {M : List HP} {F : List Fact} {d own : Nat} {k : Ky} {x : RF} (hob : ROb m bud ia ic d) (hX : ROk UR d 0 X) (hk : k ∈ UR) (hx : X.fs[own]? = some x) (hin : ArrF ia (inA X.inp) ∈ F) (hil : X.inp.length ≤ 1000) (hg0 : 0 ≤ X.gets) (hg1 : X.gets ≤ 1099511627776) (hT : ArrF x.oa (trC x.f.tr) ∈ F) : Ctr Try.prog 83 [PtV m, S k, I (own : Nat)] (REB m bud ia ic (X) :: M) F {q : An × RX × RF // Runs (rstp d own) (ruleR k) X q.1 q.2.1 ∧ ROk UR d 0 q.2.1 ∧ (q.2.1.inp = X.inp ∧ q.2.1.gets = X.gets) ∧ q.2.1.fs[own]? = some q.2.2 ∧ q.2.2.f.key = x.f.key} (fun q => anV q.1.1) (fun q => REB m bud ia ic (q.1.2.1) :: M) (fun q => ArrF q.1.2.2.oa (trC q.1.2.2.f.tr) :: F) := by
  refine Ctr.body Try.func83 rfl rfl ?_
  refine TR.seq ?_
  refine TR.region ?_
  refine RL.allocA rfl (Try.zeroValue49) rfl (fun b1 => ?_)
  refine RL.nil ?_
  refine NX.seq ?_
  refine TR.seq ?_
  refine TR.seq ?_
  obtain ⟨c1, c, rfl, hkr⟩ := UR_two hk
  refine TR.region ?_
  refine RL.move rfl rfl rfl ?_
  refine RL.lenStr rfl vc_tstr9 rfl rfl ?_
  refine RL.bin rfl rfl rfl (BinV.to (d := false) BinV.neq (decide_eq_false (by show ¬ ((2 : Nat) : Int) ≠ 2; decide))) rfl ?_
  refine RL.move rfl rfl rfl ?_
  refine RL.move rfl rfl rfl ?_
  refine RL.indexS (u := c1) rfl vc_tstr9 rfl rfl (by decide) rfl rfl ?_
  refine RL.bin rfl rfl rfl BinV.neq rfl ?_
  refine RL.pickF rfl rfl rfl rfl ?_
  refine RL.nil ?_
  refine NX.seq ?_
  refine TR.cond rfl (fun h2 => ?_) (fun h2 => ?_)
  · skip
    have h18 : c1 ≠ 110 := by rintro rfl; exact of_decide_eq_true h2 rfl
    refine TR.seq ?_
    refine TR.region ?_
    refine RL.build rfl rfl (vc_bv49_1 _) rfl ?_
    refine RL.storeA 0 rfl rfl rfl rfl vc_tz49 rfl rfl ?_
    refine RL.nil ?_
    refine NX.seq ?_
    refine TR.ret ?_
    refine NX.retThen ?_
    refine NX.retC (j := 0) (⟨(⟨[], 7⟩, X, x), by rw [ruleR_o h18]; exact .ret, hX, ⟨rfl, rfl⟩, hx, rfl⟩ : {q : An × RX × RF // Runs (rstp d own) (ruleR [c1, c]) X q.1 q.2.1 ∧ ROk UR d 0 q.2.1 ∧ (q.2.1.inp = X.inp ∧ q.2.1.gets = X.gets) ∧ q.2.1.fs[own]? = some q.2.2 ∧ q.2.2.f.key = x.f.key}) rfl rfl rfl vc_ta49 rfl (fun w hw => ?_)
    exact ((hw.to 2 [1] 0 [] rfl)).derive (ψ := ArrF x.oa (trC x.f.tr)) (fun K hf => hf _ hT)
  · skip
    obtain rfl : c1 = 110 := u8_110 (Decidable.not_not.1 (of_decide_eq_false h2))
    refine TR.skip ?_
    refine NX.seq ?_
    refine TR.seq ?_
    refine TR.region ?_
    refine RL.move rfl rfl rfl ?_
    refine RL.move rfl rfl rfl ?_
    refine RL.sliceSfrom rfl vc_tstr9 rfl rfl (by decide) (by show ((1 : Nat) : Int) ≤ ((2 : Nat) : Int); decide) rfl ?_
    refine RL.bin rfl rfl rfl (BinV.addS (by simp)) rfl ?_
    refine RL.move rfl rfl rfl ?_
    refine RL.call rfl rfl Try.call91 rfl (Ctr.pick 2 [1, 0] rfl (rask_spec (k := [114, c]) (X := X) (own := own) hob hX hkr hx hin hil hg0 hg1 hT)) (fun qr => ?_)
    obtain ⟨⟨r, Xr, xr⟩, hqr, hXr, hir, hxr, hkr⟩ := qr
    dsimp only at hqr hXr hir hxr hkr ⊢
    refine RL.allocA rfl (Try.zeroValue49) rfl (fun b3 => ?_)
    refine RL.storeA 0 rfl rfl rfl rfl vc_tz49 rfl rfl ?_
    refine RL.nil ?_
    refine NX.seq ?_
    refine TR.seq ?_
    refine TR.seq ?_
    refine TR.region ?_
    refine RL.fieldAddr rfl vc_tf49_1 rfl rfl ?_
    refine RL.load1 0 rfl vc_ts25 rfl rfl rfl rfl ?_
    refine RL.bin rfl rfl rfl BinV.neq rfl ?_
    refine RL.nil ?_
    refine NX.seq ?_
    refine TR.cond rfl (fun h4 => ?_) (fun h4 => ?_)
    · skip
      have h28 := of_decide_eq_true h4
      refine TR.seq ?_
      refine TR.region ?_
      refine RL.loadA 0 rfl rfl rfl vc_ta49 rfl ?_
      refine RL.storeA 2 rfl rfl rfl rfl vc_tz49 rfl rfl ?_
      refine RL.nil ?_
      refine NX.seq ?_
      refine TR.ret ?_
      refine NX.retThen ?_
      refine NX.retC (j := 2) (⟨(r, Xr, xr), by rw [ruleR_n]; exact .ask hqr (by rw [if_pos h28]; exact .ret), hXr, hir, hxr, hkr⟩ : {q : An × RX × RF // Runs (rstp d own) (ruleR [110, c]) X q.1 q.2.1 ∧ ROk UR d 0 q.2.1 ∧ (q.2.1.inp = X.inp ∧ q.2.1.gets = X.gets) ∧ q.2.1.fs[own]? = some q.2.2 ∧ q.2.2.f.key = x.f.key}) rfl rfl rfl vc_ta49 rfl (fun w hw => ?_)
      exact (hw.to 3 [1] 1 [0] rfl)
    · skip
      have h28 := of_decide_eq_false h4
      refine TR.skip ?_
      refine NX.seq ?_
      refine TR.seq ?_
      refine TR.region ?_
      refine RL.fieldAddr rfl vc_tf49_0 rfl rfl ?_
      refine RL.load1 0 rfl vc_ts9 rfl rfl rfl rfl ?_
      refine RL.call rfl rfl Try.call28 rfl (numbers_spec (l := r.s)) (fun z => ?_)
      refine RL.assign rfl rfl rfl ?_
      refine RL.nil ?_
      refine NX.seq ?_
      refine TR.seq ?_
      refine TR.seq ?_
      refine TR.region ?_
      refine RL.move rfl rfl rfl ?_
      refine RL.indexAddr rfl vc_tl22 vc_tz3 rfl rfl (by omega) (by omega) rfl ?_
      refine RL.loadF rfl rfl (fun w K hF => run_loadCell1 (j := (0 : Int).toNat * 1) (hF (CellsF z 0 (numC (valB r.s))) (.head _)) vc_ts3 rfl) rfl ?_
      refine RL.bin rfl rfl rfl BinV.eql rfl ?_
      refine RL.nil ?_
      refine NX.seq ?_
      refine TR.cond rfl (fun h5 => ?_) (fun h5 => ?_)
      · skip
        have h36 : valB r.s % 5 = 0 := by have := of_decide_eq_true h5; omega
        refine TR.seq ?_
        refine TR.region ?_
        refine RL.move rfl rfl rfl ?_
        refine RL.indexAddr rfl vc_tl22 vc_tz3 rfl rfl (by omega) (by omega) rfl ?_
        refine RL.loadF rfl rfl (fun w K hF => run_loadCell1 (j := (3 : Int).toNat * 1) (hF (CellsF z 0 (numC (valB r.s))) (.head _)) vc_ts3 rfl) rfl ?_
        refine RL.call rfl rfl Try.call13 rfl (dec_spec (n := valB r.s / 500 % 10) (by omega)) (fun _ => ?_)
        refine RL.build rfl rfl (vc_bv49_0 _) rfl ?_
        refine RL.storeA 2 rfl rfl rfl rfl vc_tz49 rfl rfl ?_
        refine RL.nil ?_
        refine NX.seq ?_
        refine TR.ret ?_
        refine NX.retThen ?_
        refine NX.retC (j := 2) (⟨(⟨dec (valB r.s / 500 % 10), 0⟩, Xr, xr), by rw [ruleR_n]; exact .ask hqr (by rw [if_neg h28]; unfold bodyR; rw [if_pos h36]; exact .ret), hXr, hir, hxr, hkr⟩ : {q : An × RX × RF // Runs (rstp d own) (ruleR [110, c]) X q.1 q.2.1 ∧ ROk UR d 0 q.2.1 ∧ (q.2.1.inp = X.inp ∧ q.2.1.gets = X.gets) ∧ q.2.1.fs[own]? = some q.2.2 ∧ q.2.2.f.key = x.f.key}) rfl rfl rfl vc_ta49 rfl (fun w hw => ?_)
        exact (hw.to 3 [1] 2 [1] rfl)
      · skip
        have h36 : ¬ valB r.s % 5 = 0 := by have := of_decide_eq_false h5; omega
        refine TR.skip ?_
        refine NX.seq ?_
        refine TR.seq ?_
        have hva := valB_lt r.s
        refine TR.region ?_
        refine RL.move rfl rfl rfl ?_
        refine RL.move rfl rfl rfl ?_
        refine RL.indexAddr rfl vc_tl22 vc_tz3 rfl rfl (by omega) (by omega) rfl ?_
        refine RL.loadF rfl rfl (fun w K hF => run_loadCell1 (j := (1 : Int).toNat * 1) (hF (CellsF z 0 (numC (valB r.s))) (.head _)) vc_ts3 rfl) rfl ?_
        refine RL.call rfl rfl Try.call16 rfl (node_spec (n := valB r.s / 5 % 10)) (fun _ => ?_)
        refine RL.move rfl rfl rfl ?_
        refine RL.call rfl rfl Try.call91 rfl (Ctr.pick 3 [1, 0, 2] rfl (rask_spec (k := (nK (valB r.s / 5 % 10))) (X := Xr) (own := own) hob hXr (nK_in _) hxr (by rw [hir.1]; exact (.tail _ (.tail _ hin))) (by rw [hir.1]; exact hil) (by rw [hir.2]; exact hg0) (by rw [hir.2]; exact hg1) (.tail _ (.head _)))) (fun qa => ?_)
        obtain ⟨⟨a, Xa, xa⟩, hqa, hXa, hia, hxa, hka⟩ := qa
        dsimp only at hqa hXa hia hxa hka ⊢
        have hia : Xa.inp = X.inp ∧ Xa.gets = X.gets := ⟨hia.1.trans hir.1, hia.2.trans hir.2⟩
        have hka := hka.trans hkr
        refine RL.allocA rfl (Try.zeroValue49) rfl (fun b6 => ?_)
        refine RL.storeA 0 rfl rfl rfl rfl vc_tz49 rfl rfl ?_
        refine RL.nil ?_
        refine NX.seq ?_
        refine TR.seq ?_
        refine TR.seq ?_
        refine TR.region ?_
        refine RL.move rfl rfl rfl ?_
        refine RL.indexAddr rfl vc_tl22 vc_tz3 rfl rfl (by omega) (by omega) rfl ?_
        refine RL.loadF rfl rfl (fun w K hF => run_loadCell1 (j := (0 : Int).toNat * 1) (hF (CellsF z 0 (numC (valB r.s))) (.tail _ (.head _))) vc_ts3 rfl) rfl ?_
        refine RL.nil ?_
        refine NX.seq ?_
        refine TR.block ?_
        refine TR.seq ?_
        refine TR.region ?_
        refine RL.bin rfl rfl rfl BinV.eql rfl ?_
        refine RL.assign rfl rfl rfl ?_
        refine RL.nil ?_
        refine NX.seq ?_
        refine TR.cond rfl (fun h7 => ?_) (fun h7 => ?_)
        · skip
          have h52 : valB r.s % 5 = 1 := by have := of_decide_eq_true h7; omega
          refine TR.seq ?_
          refine TR.seq ?_
          refine TR.region ?_
          refine RL.fieldAddr rfl vc_tf49_1 rfl rfl ?_
          refine RL.load1 0 rfl vc_ts25 rfl rfl rfl rfl ?_
          refine RL.bin rfl rfl rfl BinV.neq rfl ?_
          refine RL.nil ?_
          refine NX.seq ?_
          refine TR.cond rfl (fun h8 => ?_) (fun h8 => ?_)
          · skip
            have h56 := of_decide_eq_true h8
            refine TR.seq ?_
            refine TR.region ?_
            refine RL.loadA 0 rfl rfl rfl vc_ta49 rfl ?_
            refine RL.storeA 3 rfl rfl rfl rfl vc_tz49 rfl rfl ?_
            refine RL.nil ?_
            refine NX.seq ?_
            refine TR.ret ?_
            refine NX.retThen ?_
            refine NX.retBlock ?_
            refine NX.retThen ?_
            refine NX.retC (j := 3) (⟨(a, Xa, xa), by rw [ruleR_n]; exact .ask hqr (by rw [if_neg h28]; unfold bodyR; rw [if_neg h36]; exact .ask hqa (by rw [if_pos h52, if_pos h56]; exact .ret)), hXa, hia, hxa, hka⟩ : {q : An × RX × RF // Runs (rstp d own) (ruleR [110, c]) X q.1 q.2.1 ∧ ROk UR d 0 q.2.1 ∧ (q.2.1.inp = X.inp ∧ q.2.1.gets = X.gets) ∧ q.2.1.fs[own]? = some q.2.2 ∧ q.2.2.f.key = x.f.key}) rfl rfl rfl vc_ta49 rfl (fun w hw => ?_)
            exact (hw.to 4 [1] 3 [0] rfl)
          · skip
            have h56 := of_decide_eq_false h8
            refine TR.skip ?_
            refine NX.seq ?_
            refine TR.seq ?_
            refine TR.region ?_
            refine RL.move rfl rfl rfl ?_
            refine RL.move rfl rfl rfl ?_
            refine RL.indexAddr rfl vc_tl22 vc_tz3 rfl rfl (by omega) (by omega) rfl ?_
            refine RL.loadF rfl rfl (fun w K hF => run_loadCell1 (j := (2 : Int).toNat * 1) (hF (CellsF z 0 (numC (valB r.s))) (.tail _ (.head _))) vc_ts3 rfl) rfl ?_
            refine RL.call rfl rfl Try.call16 rfl (node_spec (n := valB r.s / 50 % 10)) (fun _ => ?_)
            refine RL.move rfl rfl rfl ?_
            refine RL.call rfl rfl Try.call91 rfl (Ctr.pick 4 [1, 0, 2, 3] rfl (rask_spec (k := (nK (valB r.s / 50 % 10))) (X := Xa) (own := own) hob hXa (nK_in _) hxa (by rw [hia.1]; exact (.tail _ (.tail _ (.tail _ hin)))) (by rw [hia.1]; exact hil) (by rw [hia.2]; exact hg0) (by rw [hia.2]; exact hg1) (.head _))) (fun qb => ?_)
            obtain ⟨⟨b, Xb, xb⟩, hqb, hXb, hib, hxb, hkb⟩ := qb
            dsimp only at hqb hXb hib hxb hkb ⊢
            have hib : Xb.inp = X.inp ∧ Xb.gets = X.gets := ⟨hib.1.trans hia.1, hib.2.trans hia.2⟩
            have hkb := hkb.trans hka
            refine RL.allocA rfl (Try.zeroValue49) rfl (fun b9 => ?_)
            refine RL.storeA 0 rfl rfl rfl rfl vc_tz49 rfl rfl ?_
            refine RL.nil ?_
            refine NX.seq ?_
            refine TR.seq ?_
            refine TR.seq ?_
            refine TR.region ?_
            refine RL.fieldAddr rfl vc_tf49_1 rfl rfl ?_
            refine RL.load1 0 rfl vc_ts25 rfl rfl rfl rfl ?_
            refine RL.bin rfl rfl rfl BinV.neq rfl ?_
            refine RL.nil ?_
            refine NX.seq ?_
            refine TR.cond rfl (fun h10 => ?_) (fun h10 => ?_)
            · skip
              have h67 := of_decide_eq_true h10
              refine TR.seq ?_
              refine TR.region ?_
              refine RL.loadA 0 rfl rfl rfl vc_ta49 rfl ?_
              refine RL.storeA 4 rfl rfl rfl rfl vc_tz49 rfl rfl ?_
              refine RL.nil ?_
              refine NX.seq ?_
              refine TR.ret ?_
              refine NX.retThen ?_
              refine NX.retBlock ?_
              refine NX.retThen ?_
              refine NX.retC (j := 4) (⟨(b, Xb, xb), by rw [ruleR_n]; exact .ask hqr (by rw [if_neg h28]; unfold bodyR; rw [if_neg h36]; exact .ask hqa (by rw [if_pos h52, if_neg h56]; exact .ask hqb (by rw [if_pos h67]; exact .ret))), hXb, hib, hxb, hkb⟩ : {q : An × RX × RF // Runs (rstp d own) (ruleR [110, c]) X q.1 q.2.1 ∧ ROk UR d 0 q.2.1 ∧ (q.2.1.inp = X.inp ∧ q.2.1.gets = X.gets) ∧ q.2.1.fs[own]? = some q.2.2 ∧ q.2.2.f.key = x.f.key}) rfl rfl rfl vc_ta49 rfl (fun w hw => ?_)
              exact (hw.to 5 [1] 4 [0] rfl)
            · skip
              have h67 := of_decide_eq_false h10
              refine TR.skip ?_
              refine NX.seq ?_
              refine TR.seq ?_
              have hva1 := valB_lt a.s
              have hva2 := valB_lt b.s
              refine TR.sub (E' := [(6, _), (8, _), (9, _), (10, _), (49, _)]) ⟨rfl, rfl, rfl, rfl, rfl, trivial⟩ ?_
              refine TR.draw mixed ?_
              apply AR.more [(0, _), (1, _), (3, _), (4, _), (7, _), (8, _), (9, _)]
              refine AR.eff [0, 1, 3, 4, 7, 8, 9] 2 [0, 1, 2, 3, 4, 5, 6, 7, 8, 9, 10, 11, 12, 13, 14] ⟨QOne.yes rfl rfl rfl (PV.fieldAddr vc_tf49_0 rfl), QOne.yes rfl rfl rfl (PV.load1 2 vc_ts9 rfl rfl rfl), QOne.yes rfl rfl rfl (PV.fieldAddr vc_tf49_0 rfl), QOne.yes rfl rfl rfl (PV.load1 0 vc_ts9 rfl rfl rfl), QOne.yes rfl rfl rfl (PV.move rfl), QOne.yes rfl rfl rfl (PV.indexAddr vc_tl22 vc_tz3 rfl rfl (by omega) (by omega)), QOne.yes rfl rfl rfl (PV.loadF rfl (fun w K hF => run_loadCell1 (j := (3 : Int).toNat * 1) (hF (CellsF z 0 (numC (valB r.s))) (.tail _ (.tail _ (.head _)))) vc_ts3 rfl)), trivial⟩ rfl rfl rfl rfl rfl rfl rfl (EV.call rfl Try.call29 (value_spec (l := a.s))) (fun _ => ?_)
              refine AR.done [1, 0] rfl ?_
              refine AR.eff [3, 4, 7, 8, 9] 5 [0, 1, 2, 3, 4, 5, 6, 7, 8, 9, 10, 11, 12, 13, 14] ⟨QOne.yes rfl rfl rfl (PV.fieldAddr vc_tf49_0 rfl), QOne.yes rfl rfl rfl (PV.load1 0 vc_ts9 rfl rfl rfl), QOne.yes rfl rfl rfl (PV.move rfl), QOne.yes rfl rfl rfl (PV.indexAddr vc_tl22 vc_tz3 rfl rfl (by omega) (by omega)), QOne.yes rfl rfl rfl (PV.loadF rfl (fun w K hF => run_loadCell1 (j := (3 : Int).toNat * 1) (hF (CellsF z 0 (numC (valB r.s))) (.tail _ (.tail _ (.head _)))) vc_ts3 rfl)), trivial⟩ rfl rfl rfl rfl rfl rfl rfl (EV.call rfl Try.call29 (value_spec (l := b.s))) (fun _ => ?_)
              refine AR.done [4, 3] rfl ?_
              apply AR.more [(6, _), (10, _), (11, _)]
              refine AR.eff [6, 7, 8, 9, 10, 11] 12 [0, 1, 2, 3, 4, 5, 6, 7, 8, 9, 10, 11, 12, 13, 14] ⟨QOne.yes rfl rfl rfl (PV.bin rfl rfl (BinV.add ((valB a.s + valB b.s : Nat) : Int) (by omega) (by omega) (by omega))), QOne.yes rfl rfl rfl (PV.move rfl), QOne.yes rfl rfl rfl (PV.indexAddr vc_tl22 vc_tz3 rfl rfl (by omega) (by omega)), QOne.yes rfl rfl rfl (PV.loadF rfl (fun w K hF => run_loadCell1 (j := (3 : Int).toNat * 1) (hF (CellsF z 0 (numC (valB r.s))) (.tail _ (.tail _ (.head _)))) vc_ts3 rfl)), QOne.yes rfl rfl rfl (PV.bin rfl rfl (BinV.add ((valB a.s + valB b.s + valB r.s / 500 % 10 : Nat) : Int) (by omega) (by omega) (by omega))), QOne.yes rfl rfl rfl (PV.bin rfl rfl (BinV.remK (a := valB a.s + valB b.s + valB r.s / 500 % 10) (b := 1000) (by decide))), trivial⟩ rfl rfl rfl rfl rfl rfl rfl (EV.call rfl Try.call13 (dec_spec (n := (valB a.s + valB b.s + valB r.s / 500 % 10) % 1000) (by omega))) (fun _ => ?_)
              refine AR.done [11, 10, 6, 9, 8, 7] rfl ?_
              apply AR.more [(13, _)]
              refine AR.eff [13] 14 [0, 1, 2, 3, 4, 5, 6, 7, 8, 9, 10, 11, 12, 13, 14] ⟨QOne.yes rfl rfl rfl (PV.build rfl (vc_bv49_0 _)), trivial⟩ rfl rfl rfl rfl rfl rfl rfl (EV.storeA 4 rfl rfl rfl vc_tz49 rfl rfl) (fun _ => ?_)
              refine AR.done [13] rfl ?_
              refine AR.last [] [0, 1, 2, 3, 4, 5, 6, 7, 8, 9, 10, 11, 12, 13, 14] trivial rfl rfl rfl ?_
              refine NX.sub (E' := [(6, _), (9, _), (49, _)]) ⟨rfl, rfl, rfl, trivial⟩ ?_
              refine NX.seq ?_
              refine TR.ret ?_
              refine NX.retBlock ?_
              refine NX.retThen ?_
              refine NX.retC (j := 4) (⟨(⟨dec ((valB a.s + valB b.s + valB r.s / 500 % 10) % 1000), 0⟩, Xb, xb), by rw [ruleR_n]; exact .ask hqr (by rw [if_neg h28]; unfold bodyR; rw [if_neg h36]; exact .ask hqa (by rw [if_pos h52, if_neg h56]; exact .ask hqb (by rw [if_neg h67]; exact .ret))), hXb, hib, hxb, hkb⟩ : {q : An × RX × RF // Runs (rstp d own) (ruleR [110, c]) X q.1 q.2.1 ∧ ROk UR d 0 q.2.1 ∧ (q.2.1.inp = X.inp ∧ q.2.1.gets = X.gets) ∧ q.2.1.fs[own]? = some q.2.2 ∧ q.2.2.f.key = x.f.key}) rfl rfl rfl vc_ta49 rfl (fun w hw => ?_)
              exact (hw.to 5 [1] 4 [0] rfl)
        · skip
          have h52 : ¬ valB r.s % 5 = 1 := by have := of_decide_eq_false h7; omega
          refine TR.seq ?_
          refine TR.region ?_
          refine RL.bin rfl rfl rfl BinV.eql rfl ?_
          refine RL.assign rfl rfl rfl ?_
          refine RL.nil ?_
          refine NX.seq ?_
          refine TR.cond rfl (fun h11 => ?_) (fun h11 => ?_)
          · skip
            have h83 : valB r.s % 5 = 2 := by have := of_decide_eq_true h11; omega
            refine TR.seq ?_
            refine TR.seq ?_
            refine TR.region ?_
            refine RL.fieldAddr rfl vc_tf49_1 rfl rfl ?_
            refine RL.load1 0 rfl vc_ts25 rfl rfl rfl rfl ?_
            refine RL.bin rfl rfl rfl BinV.neq rfl ?_
            refine RL.nil ?_
            refine NX.seq ?_
            refine TR.cond rfl (fun h12 => ?_) (fun h12 => ?_)
            · skip
              have h87 := of_decide_eq_true h12
              refine TR.seq ?_
              refine TR.region ?_
              refine RL.build rfl rfl (vc_bv49_0 _) rfl ?_
              refine RL.storeA 3 rfl rfl rfl rfl vc_tz49 rfl rfl ?_
              refine RL.nil ?_
              refine NX.seq ?_
              refine TR.ret ?_
              refine NX.retThen ?_
              refine NX.retBlock ?_
              refine NX.retThen ?_
              refine NX.retC (j := 3) (⟨(⟨[55], 0⟩, Xa, xa), by rw [ruleR_n]; exact .ask hqr (by rw [if_neg h28]; unfold bodyR; rw [if_neg h36]; exact .ask hqa (by rw [if_neg h52, if_pos h83, if_pos h87]; exact .ret)), hXa, hia, hxa, hka⟩ : {q : An × RX × RF // Runs (rstp d own) (ruleR [110, c]) X q.1 q.2.1 ∧ ROk UR d 0 q.2.1 ∧ (q.2.1.inp = X.inp ∧ q.2.1.gets = X.gets) ∧ q.2.1.fs[own]? = some q.2.2 ∧ q.2.2.f.key = x.f.key}) rfl rfl rfl vc_ta49 rfl (fun w hw => ?_)
              exact (hw.to 4 [1] 3 [0] rfl)
            · skip
              have h87 := of_decide_eq_false h12
              refine TR.skip ?_
              refine NX.seq ?_
              refine TR.seq ?_
              refine TR.region ?_
              refine RL.loadA 0 rfl rfl rfl vc_ta49 rfl ?_
              refine RL.storeA 3 rfl rfl rfl rfl vc_tz49 rfl rfl ?_
              refine RL.nil ?_
              refine NX.seq ?_
              refine TR.ret ?_
              refine NX.retBlock ?_
              refine NX.retThen ?_
              refine NX.retC (j := 3) (⟨(⟨a.s, 0⟩, Xa, xa), by rw [ruleR_n]; exact .ask hqr (by rw [if_neg h28]; unfold bodyR; rw [if_neg h36]; exact .ask hqa (by rw [if_neg h52, if_pos h83, if_neg h87]; exact .ret)), hXa, hia, hxa, hka⟩ : {q : An × RX × RF // Runs (rstp d own) (ruleR [110, c]) X q.1 q.2.1 ∧ ROk UR d 0 q.2.1 ∧ (q.2.1.inp = X.inp ∧ q.2.1.gets = X.gets) ∧ q.2.1.fs[own]? = some q.2.2 ∧ q.2.2.f.key = x.f.key}) rfl rfl rfl vc_ta49 (by show anV a = anV ⟨a.s, 0⟩; rw [← Decidable.not_not.1 h87]) (fun w hw => ?_)
              exact (hw.to 4 [1] 3 [0] rfl)
          · skip
            have h83 : ¬ valB r.s % 5 = 2 := by have := of_decide_eq_false h11; omega
            refine TR.seq ?_
            refine TR.region ?_
            refine RL.bin rfl rfl rfl BinV.eql rfl ?_
            refine RL.assign rfl rfl rfl ?_
            refine RL.nil ?_
            refine NX.seq ?_
            refine TR.cond rfl (fun h13 => ?_) (fun h13 => ?_)
            · skip
              have h90 : valB r.s % 5 = 3 := by have := of_decide_eq_true h13; omega
              refine TR.seq ?_
              refine TR.seq ?_
              have hva1 := valB_lt a.s
              refine TR.region ?_
              refine RL.fieldAddr rfl vc_tf49_1 rfl rfl ?_
              refine RL.load1 0 rfl vc_ts25 rfl rfl rfl rfl ?_
              refine RL.bin rfl rfl rfl BinV.eql rfl ?_
              refine RL.move rfl rfl rfl ?_
              refine RL.part (fun h14 => ?_) (fun h14 => ?_)
              · skip
                have h94 := of_decide_eq_true h14
                refine RL.fieldAddr rfl vc_tf49_0 rfl rfl ?_
                refine RL.load1 0 rfl vc_ts9 rfl rfl rfl rfl ?_
                refine RL.call rfl rfl Try.call29 rfl (value_spec (l := a.s)) (fun _ => ?_)
                refine RL.bin rfl rfl rfl (BinV.remK (a := valB a.s) (b := 2) (by decide)) rfl ?_
                refine RL.bin rfl rfl rfl BinV.eql rfl ?_
                refine RL.pickT rfl rfl rfl rfl ?_
                refine RL.nil ?_
                refine NX.seq ?_
                refine TR.cond rfl (fun h15 => ?_) (fun h15 => ?_)
                · skip
                  have h101 : valB a.s % 2 = 0 := by have := of_decide_eq_true h15; omega
                  refine TR.seq ?_
                  refine TR.region ?_
                  refine RL.move rfl rfl rfl ?_
                  refine RL.move rfl rfl rfl ?_
                  refine RL.indexAddr rfl vc_tl22 vc_tz3 rfl rfl (by omega) (by omega) rfl ?_
                  refine RL.loadF rfl rfl (fun w K hF => run_loadCell1 (j := (2 : Int).toNat * 1) (hF (CellsF z 0 (numC (valB r.s))) (.tail _ (.head _))) vc_ts3 rfl) rfl ?_
                  refine RL.call rfl rfl Try.call16 rfl (node_spec (n := valB r.s / 50 % 10)) (fun _ => ?_)
                  refine RL.move rfl rfl rfl ?_
                  refine RL.call rfl rfl Try.call91 rfl (Ctr.pick 4 [1, 0, 2, 3] rfl (rask_spec (k := (nK (valB r.s / 50 % 10))) (X := Xa) (own := own) hob hXa (nK_in _) hxa (by rw [hia.1]; exact (.tail _ (.tail _ (.tail _ hin)))) (by rw [hia.1]; exact hil) (by rw [hia.2]; exact hg0) (by rw [hia.2]; exact hg1) (.head _))) (fun qb => ?_)
                  obtain ⟨⟨b, Xb, xb⟩, hqb, hXb, hib, hxb, hkb⟩ := qb
                  dsimp only at hqb hXb hib hxb hkb ⊢
                  have hib : Xb.inp = X.inp ∧ Xb.gets = X.gets := ⟨hib.1.trans hia.1, hib.2.trans hia.2⟩
                  have hkb := hkb.trans hka
                  refine RL.storeA 3 rfl rfl rfl rfl vc_tz49 rfl rfl ?_
                  refine RL.nil ?_
                  refine NX.seq ?_
                  refine TR.ret ?_
                  refine NX.retThen ?_
                  refine NX.retBlock ?_
                  refine NX.retThen ?_
                  refine NX.retC (j := 3) (⟨(b, Xb, xb), by rw [ruleR_n]; exact .ask hqr (by rw [if_neg h28]; unfold bodyR; rw [if_neg h36]; exact .ask hqa (by rw [if_neg h52, if_neg h83, if_pos h90, if_pos ⟨h94, h101⟩]; exact .ask hqb .ret)), hXb, hib, hxb, hkb⟩ : {q : An × RX × RF // Runs (rstp d own) (ruleR [110, c]) X q.1 q.2.1 ∧ ROk UR d 0 q.2.1 ∧ (q.2.1.inp = X.inp ∧ q.2.1.gets = X.gets) ∧ q.2.1.fs[own]? = some q.2.2 ∧ q.2.2.f.key = x.f.key}) rfl rfl rfl vc_ta49 rfl (fun w hw => ?_)
                  exact (hw.to 4 [0] 4 [0] rfl)
                · skip
                  have h101 : ¬ valB a.s % 2 = 0 := by have := of_decide_eq_false h15; omega
                  refine TR.skip ?_
                  refine NX.seq ?_
                  refine TR.seq ?_
                  refine TR.region ?_
                  refine RL.move rfl rfl rfl ?_
                  refine RL.move rfl rfl rfl ?_
                  refine RL.indexAddr rfl vc_tl22 vc_tz3 rfl rfl (by omega) (by omega) rfl ?_
                  refine RL.loadF rfl rfl (fun w K hF => run_loadCell1 (j := (3 : Int).toNat * 1) (hF (CellsF z 0 (numC (valB r.s))) (.tail _ (.head _))) vc_ts3 rfl) rfl ?_
                  refine RL.call rfl rfl Try.call16 rfl (node_spec (n := valB r.s / 500 % 10)) (fun _ => ?_)
                  refine RL.move rfl rfl rfl ?_
                  refine RL.call rfl rfl Try.call91 rfl (Ctr.pick 4 [1, 0, 2, 3] rfl (rask_spec (k := (nK (valB r.s / 500 % 10))) (X := Xa) (own := own) hob hXa (nK_in _) hxa (by rw [hia.1]; exact (.tail _ (.tail _ (.tail _ hin)))) (by rw [hia.1]; exact hil) (by rw [hia.2]; exact hg0) (by rw [hia.2]; exact hg1) (.head _))) (fun qb => ?_)
                  obtain ⟨⟨b, Xb, xb⟩, hqb, hXb, hib, hxb, hkb⟩ := qb
                  dsimp only at hqb hXb hib hxb hkb ⊢
                  have hib : Xb.inp = X.inp ∧ Xb.gets = X.gets := ⟨hib.1.trans hia.1, hib.2.trans hia.2⟩
                  have hkb := hkb.trans hka
                  refine RL.storeA 3 rfl rfl rfl rfl vc_tz49 rfl rfl ?_
                  refine RL.nil ?_
                  refine NX.seq ?_
                  refine TR.ret ?_
                  refine NX.retBlock ?_
                  refine NX.retThen ?_
                  refine NX.retC (j := 3) (⟨(b, Xb, xb), by rw [ruleR_n]; exact .ask hqr (by rw [if_neg h28]; unfold bodyR; rw [if_neg h36]; exact .ask hqa (by rw [if_neg h52, if_neg h83, if_pos h90, if_neg (fun e => h101 e.2)]; exact .ask hqb .ret)), hXb, hib, hxb, hkb⟩ : {q : An × RX × RF // Runs (rstp d own) (ruleR [110, c]) X q.1 q.2.1 ∧ ROk UR d 0 q.2.1 ∧ (q.2.1.inp = X.inp ∧ q.2.1.gets = X.gets) ∧ q.2.1.fs[own]? = some q.2.2 ∧ q.2.2.f.key = x.f.key}) rfl rfl rfl vc_ta49 rfl (fun w hw => ?_)
                  exact (hw.to 4 [0] 4 [0] rfl)
              · skip
                have h94 := of_decide_eq_false h14
                refine RL.skip rfl rfl rfl ?_
                refine RL.skip rfl rfl rfl ?_
                refine RL.skip rfl rfl rfl ?_
                refine RL.skip rfl rfl rfl ?_
                refine RL.skip rfl rfl rfl ?_
                refine RL.pickF rfl rfl rfl rfl ?_
                refine RL.nil ?_
                refine NX.seq ?_
                refine TR.condF rfl ?_
                refine TR.skip ?_
                refine NX.seq ?_
                refine TR.seq ?_
                refine TR.region ?_
                refine RL.move rfl rfl rfl ?_
                refine RL.move rfl rfl rfl ?_
                refine RL.indexAddr rfl vc_tl22 vc_tz3 rfl rfl (by omega) (by omega) rfl ?_
                refine RL.loadF rfl rfl (fun w K hF => run_loadCell1 (j := (3 : Int).toNat * 1) (hF (CellsF z 0 (numC (valB r.s))) (.tail _ (.head _))) vc_ts3 rfl) rfl ?_
                refine RL.call rfl rfl Try.call16 rfl (node_spec (n := valB r.s / 500 % 10)) (fun _ => ?_)
                refine RL.move rfl rfl rfl ?_
                refine RL.call rfl rfl Try.call91 rfl (Ctr.pick 4 [1, 0, 2, 3] rfl (rask_spec (k := (nK (valB r.s / 500 % 10))) (X := Xa) (own := own) hob hXa (nK_in _) hxa (by rw [hia.1]; exact (.tail _ (.tail _ (.tail _ hin)))) (by rw [hia.1]; exact hil) (by rw [hia.2]; exact hg0) (by rw [hia.2]; exact hg1) (.head _))) (fun qb => ?_)
                obtain ⟨⟨b, Xb, xb⟩, hqb, hXb, hib, hxb, hkb⟩ := qb
                dsimp only at hqb hXb hib hxb hkb ⊢
                have hib : Xb.inp = X.inp ∧ Xb.gets = X.gets := ⟨hib.1.trans hia.1, hib.2.trans hia.2⟩
                have hkb := hkb.trans hka
                refine RL.storeA 3 rfl rfl rfl rfl vc_tz49 rfl rfl ?_
                refine RL.nil ?_
                refine NX.seq ?_
                refine TR.ret ?_
                refine NX.retBlock ?_
                refine NX.retThen ?_
                refine NX.retC (j := 3) (⟨(b, Xb, xb), by rw [ruleR_n]; exact .ask hqr (by rw [if_neg h28]; unfold bodyR; rw [if_neg h36]; exact .ask hqa (by rw [if_neg h52, if_neg h83, if_pos h90, if_neg (fun e => h94 e.1)]; exact .ask hqb .ret)), hXb, hib, hxb, hkb⟩ : {q : An × RX × RF // Runs (rstp d own) (ruleR [110, c]) X q.1 q.2.1 ∧ ROk UR d 0 q.2.1 ∧ (q.2.1.inp = X.inp ∧ q.2.1.gets = X.gets) ∧ q.2.1.fs[own]? = some q.2.2 ∧ q.2.2.f.key = x.f.key}) rfl rfl rfl vc_ta49 rfl (fun w hw => ?_)
                exact (hw.to 4 [0] 4 [0] rfl)
            · skip
              have h90 : ¬ valB r.s % 5 = 3 := by have := of_decide_eq_false h13; omega
              refine TR.skip ?_
              refine NX.off ?_
              refine NX.seq ?_
              refine TR.seq ?_
              refine TR.seq ?_
              refine TR.region ?_
              refine RL.fieldAddr rfl vc_tf49_1 rfl rfl ?_
              refine RL.load1 0 rfl vc_ts25 rfl rfl rfl rfl ?_
              refine RL.bin rfl rfl rfl BinV.neq rfl ?_
              refine RL.nil ?_
              refine NX.seq ?_
              refine TR.cond rfl (fun h16 => ?_) (fun h16 => ?_)
              · skip
                have h118 := of_decide_eq_true h16
                refine TR.seq ?_
                refine TR.region ?_
                refine RL.loadA 0 rfl rfl rfl vc_ta49 rfl ?_
                refine RL.storeA 3 rfl rfl rfl rfl vc_tz49 rfl rfl ?_
                refine RL.nil ?_
                refine NX.seq ?_
                refine TR.ret ?_
                refine NX.retThen ?_
                refine NX.retC (j := 3) (⟨(a, Xa, xa), by rw [ruleR_n]; exact .ask hqr (by rw [if_neg h28]; unfold bodyR; rw [if_neg h36]; exact .ask hqa (by rw [if_neg h52, if_neg h83, if_neg h90, if_pos h118]; exact .ret)), hXa, hia, hxa, hka⟩ : {q : An × RX × RF // Runs (rstp d own) (ruleR [110, c]) X q.1 q.2.1 ∧ ROk UR d 0 q.2.1 ∧ (q.2.1.inp = X.inp ∧ q.2.1.gets = X.gets) ∧ q.2.1.fs[own]? = some q.2.2 ∧ q.2.2.f.key = x.f.key}) rfl rfl rfl vc_ta49 rfl (fun w hw => ?_)
                exact (hw.to 4 [1] 3 [0] rfl)
              · skip
                have h118 := of_decide_eq_false h16
                refine TR.skip ?_
                refine NX.seq ?_
                refine TR.seq ?_
                have hva1 := valB_lt a.s
                refine TR.region ?_
                refine RL.fieldAddr rfl vc_tf49_0 rfl rfl ?_
                refine RL.load1 0 rfl vc_ts9 rfl rfl rfl rfl ?_
                refine RL.call rfl rfl Try.call29 rfl (value_spec (l := a.s)) (fun _ => ?_)
                refine RL.bin rfl rfl rfl (BinV.quo (by decide) ((valB a.s / 4 : Nat) : Int) (by rw [Int.tdiv_eq_ediv_of_nonneg (by omega)]; omega) (by omega) (by omega)) rfl ?_
                refine RL.bin rfl rfl rfl (BinV.remK (a := valB a.s / 4) (b := 2) (by decide)) rfl ?_
                refine RL.call rfl rfl Try.call13 rfl (dec_spec (n := valB a.s / 4 % 2) (by omega)) (fun _ => ?_)
                refine RL.build rfl rfl (vc_bv49_0 _) rfl ?_
                refine RL.storeA 3 rfl rfl rfl rfl vc_tz49 rfl rfl ?_
                refine RL.nil ?_
                refine NX.seq ?_
                refine TR.ret ?_
                refine NX.retC (j := 3) (⟨(⟨dec (valB a.s / 4 % 2), 0⟩, Xa, xa), by rw [ruleR_n]; exact .ask hqr (by rw [if_neg h28]; unfold bodyR; rw [if_neg h36]; exact .ask hqa (by rw [if_neg h52, if_neg h83, if_neg h90, if_neg h118]; exact .ret)), hXa, hia, hxa, hka⟩ : {q : An × RX × RF // Runs (rstp d own) (ruleR [110, c]) X q.1 q.2.1 ∧ ROk UR d 0 q.2.1 ∧ (q.2.1.inp = X.inp ∧ q.2.1.gets = X.gets) ∧ q.2.1.fs[own]? = some q.2.2 ∧ q.2.2.f.key = x.f.key}) rfl rfl rfl vc_ta49 rfl (fun w hw => ?_)
                exact (hw.to 4 [1] 3 [0] rfl)
end Go.Proofs.Ythefimaaeilefaa

namespace Go.Proofs.Ythefimaaeilefaa
open Go.GL
set_option linter.unusedVariables false
theorem vd_bs35_1_0 (x0 : List UInt8) : BuildSV Try.prog 35 9 1 [(0, S x0)] [S x0] := fun w => by kernel_rfl
theorem vd_ni35 : noInt Try.prog 35 = true := by kernel_rfl
theorem vd_ta49 : tyAgg Try.prog 49 2 = true := by kernel_rfl
theorem vd_te9 : tyElem Try.prog 9 1 16 = true := by kernel_rfl
theorem vd_tf116_3 : fieldOff Try.prog 116 3 3 = true := by kernel_rfl
theorem vd_tf116_4 : fieldOff Try.prog 116 4 5 = true := by kernel_rfl
theorem vd_tf116_5 : fieldOff Try.prog 116 5 6 = true := by kernel_rfl
theorem vd_tf76_3 : fieldOff Try.prog 76 3 3 = true := by kernel_rfl
theorem vd_tf76_5 : fieldOff Try.prog 76 5 5 = true := by kernel_rfl
theorem vd_tf76_6 : fieldOff Try.prog 76 6 6 = true := by kernel_rfl
theorem vd_tf76_7 : fieldOff Try.prog 76 7 7 = true := by kernel_rfl
theorem vd_tl35 : tySlice Try.prog 35 9 = true := by kernel_rfl
theorem vd_tl74 : tySlice Try.prog 74 116 = true := by kernel_rfl
theorem vd_ts3 : tyScalar Try.prog 3 = true := by kernel_rfl
theorem vd_ts35 : tyScalar Try.prog 35 = true := by kernel_rfl
theorem vd_ts4 : tyScalar Try.prog 4 = true := by kernel_rfl
theorem vd_ts74 : tyScalar Try.prog 74 = true := by kernel_rfl
theorem vd_tz116 : tySize Try.prog 116 7 = true := by kernel_rfl
theorem vd_tz4 : tySize Try.prog 4 1 = true := by kernel_rfl
theorem vd_tz46 : tySize Try.prog 46 1 = true := by kernel_rfl
theorem vd_tz49 : tySize Try.prog 49 2 = true := by kernel_rfl
theorem rcl_en {X : RX} {own : Nat} {x : RF} {oa : Option Addr} {ca : Nat} {an : Bool} (hx : X.fs[own]? = some x) : ({ X with fuel := X.fuel - 1, fs := X.fs.set own ⟨x.f, oa, ca, an⟩ } : RX).en = { X.en with fuel := X.en.fuel - 1 } := by
  have h := ren_set (X := { X with fuel := X.fuel - 1 }) (b := own) (x := x) (y := ⟨x.f, oa, ca, an⟩) (F := fun f => f) hx rfl
  refine h.trans ?_
  unfold En.mod
  rw [upd_id _ _ _ fun _ => rfl]; rfl
theorem rown_en {Y : RX} {own : Nat} {y : RF} {a : An} {k : Ky} (hy : Y.fs[own]? = some y) : ({ Y with comp := Y.comp ++ [k], fs := Y.fs.set own ⟨{ y.f with own := a }, y.oa, y.ca, y.an⟩ } : RX).en = { setOwn Y.en own a with comp := Y.en.comp ++ [k] } := by
  have h := ren_set (X := { Y with comp := Y.comp ++ [k] }) (b := own) (x := y) (y := ⟨{ y.f with own := a }, y.oa, y.ca, y.an⟩) (F := fun f => { f with own := a }) hy rfl
  exact h.trans rfl
set_option maxHeartbeats 1000000 in
theorem rcompute_spec {m : Nat} {bud : Int} {ia : Option Addr} {ic : Nat} {X : RX} {M : List HP} {F : List Fact} {d own : Nat} {k : Ky} {x : RF} (hob : ROb m bud ia ic d) (hX : ROk UR d 1 X) (hk : k ∈ UR) (hx : X.fs[own]? = some x) (hxk : x.f.key = k) (hxt : x.f.tr = []) (hin : ArrF ia (inA X.inp) ∈ F) (hil : X.inp.length ≤ 1000) (hg0 : 0 ≤ X.gets) (hg1 : X.gets ≤ 1099511627776) : Ctr Try.prog 68 [PtV m, S k, I (own : Nat)] (REB m bud ia ic (X) :: M) F {Z : RX // Z.en = compG (fun k b e => obt ruleR d k (some b) e) (ruleR k) k own X.en ∧ KpR own X Z ∧ ∃ z, Z.fs[own]? = some z ∧ z.f.key = k} (fun _ => .tuple #[]) (fun Z => REB m bud ia ic (Z.1) :: M) (fun _ => F) := by
  refine Ctr.body Try.func68 rfl rfl ?_
  refine TR.seq ?_
  refine TR.seq ?_
  refine TR.open (fun w hw => (St.exOpen (show St w (Ex _ :: _) _ from hw))) (fun h => ?_)
  have hown : own < X.fs.length := (List.getElem?_eq_some_iff.1 hx).1
  have hfu : 1 ≤ X.fuel := by have h9 : _ ≤ X.fuel := hX.rich.2; omega
  have hsu := hX.su
  have hXl : X.fs.length ≤ 1000 := by have h9 := hX.wk.len; rw [ren_len] at h9; exact Nat.le_trans h9 (by decide)
  refine TR.openP (fun w hw => own_at (i := 3) rfl (rf_ne hx) hw) (fun g hg => ?_)
  refine TR.region ?_
  refine RL.move rfl rfl rfl ?_
  refine RL.nilCheck rfl rfl rfl ?_
  refine RL.fieldAddr rfl vd_tf76_5 rfl rfl ?_
  refine RL.load1 0 rfl vd_ts3 rfl rfl rfl rfl ?_
  refine RL.bin rfl rfl rfl (BinV.to (d := false) BinV.leq (decide_eq_false (by omega))) rfl ?_
  refine RL.nil ?_
  refine NX.seq ?_
  refine TR.condF rfl ?_
  refine TR.skip ?_
  refine NX.seq ?_
  refine TR.seq ?_
  refine TR.region ?_
  refine RL.move rfl rfl rfl ?_
  refine RL.move rfl rfl rfl ?_
  refine RL.nilCheck rfl rfl rfl ?_
  refine RL.fieldAddr rfl vd_tf76_5 rfl rfl ?_
  refine RL.load1 0 rfl vd_ts3 rfl rfl rfl rfl ?_
  refine RL.bin rfl rfl rfl (BinV.sub ((X.fuel - 1 : Nat) : Int) (by omega) (by omega) (by omega)) rfl ?_
  refine RL.nilCheck rfl rfl rfl ?_
  refine RL.fieldAddr rfl vd_tf76_5 rfl rfl ?_
  refine RL.store1 0 rfl vd_ts3 rfl rfl rfl rfl rfl ?_
  refine RL.nil ?_
  refine NX.seq ?_
  refine TR.seq ?_
  refine TR.region ?_
  refine RL.move rfl rfl rfl ?_
  refine RL.nilCheck rfl rfl rfl ?_
  refine RL.fieldAddr rfl vd_tf76_7 rfl rfl ?_
  refine RL.load1 0 rfl vd_ts74 rfl rfl rfl rfl ?_
  refine RL.move rfl rfl rfl ?_
  refine RL.indexAddr rfl vd_tl74 vd_tz116 (congrArg (fun a => some (Value.slice a _ _)) hg) rfl (by omega) (by omega) rfl ?_
  refine RL.fieldAddr rfl vd_tf116_4 rfl rfl ?_
  refine RL.ofEV rfl rfl (EV.storeO (vs := [.slice none 0 0]) 3 rfl rfl rfl hg vd_tz46 rfl (rf_room (o := 6) hx (by decide)) rfl) ?_
  refine RL.nil ?_
  refine NX.seq ?_
  refine TR.seq ?_
  refine TR.weak (fun w hw => St.rebClose (({ X with fuel := X.fuel - 1, fs := X.fs.set own (⟨x.f, none, 0, x.an⟩ : RF) } : RX)) h (by show _ = [I bud, .slice ia X.inp.length ic, .slice h.la X.qs.length h.lc, .slice h.ca X.comp.length h.cc, I X.gets, I ((X.fuel - 1 : Nat)), .bool false, .slice h.sa (X.fs.set own _).length h.sc]; rw [List.length_set]; rfl) rfl rfl rfl rfl (by show _ = (X.fs.set own _).length; rw [List.length_set]) (rf_set (vs := [.slice none 0 0]) hx (by show 5 + 1 ≤ 7; decide) (by show _ = _; unfold RF.cs; rw [hxt]; rfl)) (show St w (_ :: _ :: _ :: _ :: _) _ from hw.toM 4 [0, 1, 2, 3] rfl)) ?_
  have hxa : ({ X with fuel := X.fuel - 1, fs := X.fs.set own (⟨x.f, none, 0, x.an⟩ : RF) } : RX).fs[own]? = some ⟨x.f, none, 0, x.an⟩ := set_at hx
  refine TR.open (fun w hw => (St.exOpen (show St w (Ex _ :: _) _ from hw))) (fun h => ?_)
  refine TR.openP (fun w hw => own_at (i := 3) rfl (rf_ne hxa) hw) (fun gb hgb => ?_)
  have hown1 : own < ({ X with fuel := X.fuel - 1, fs := X.fs.set own (⟨x.f, none, 0, x.an⟩ : RF) } : RX).fs.length := (List.getElem?_eq_some_iff.1 hxa).1
  have hXl1 : ({ X with fuel := X.fuel - 1, fs := X.fs.set own (⟨x.f, none, 0, x.an⟩ : RF) } : RX).fs.length ≤ 1000 := by show (X.fs.set own _).length ≤ 1000; rw [List.length_set]; exact hXl
  refine TR.region ?_
  refine RL.move rfl rfl rfl ?_
  refine RL.nilCheck rfl rfl rfl ?_
  refine RL.fieldAddr rfl vd_tf76_7 rfl rfl ?_
  refine RL.load1 0 rfl vd_ts74 rfl rfl rfl rfl ?_
  refine RL.move rfl rfl rfl ?_
  refine RL.indexAddr rfl vd_tl74 vd_tz116 (congrArg (fun a => some (Value.slice a _ _)) hgb) rfl (by omega) (by omega) rfl ?_
  refine RL.fieldAddr rfl vd_tf116_5 rfl rfl ?_
  refine RL.ofEV rfl rfl (EV.storeO (vs := [.bool true]) 3 rfl rfl rfl hgb vd_tz4 rfl (rf_room (o := 7) hxa (by decide)) rfl) ?_
  refine RL.nil ?_
  refine NX.seq ?_
  refine TR.seq ?_
  refine TR.weak (fun w hw => St.rebClose (({ ({ X with fuel := X.fuel - 1, fs := X.fs.set own (⟨x.f, none, 0, x.an⟩ : RF) } : RX) with fs := ({ X with fuel := X.fuel - 1, fs := X.fs.set own (⟨x.f, none, 0, x.an⟩ : RF) } : RX).fs.set own (⟨x.f, none, 0, true⟩ : RF) } : RX)) h (by show _ = [I bud, .slice ia X.inp.length ic, .slice h.la X.qs.length h.lc, .slice h.ca X.comp.length h.cc, I X.gets, I ((X.fuel - 1 : Nat)), .bool false, .slice h.sa (({ X with fuel := X.fuel - 1, fs := X.fs.set own (⟨x.f, none, 0, x.an⟩ : RF) } : RX).fs.set own _).length h.sc]; rw [@List.length_set _ ({ X with fuel := X.fuel - 1, fs := X.fs.set own (⟨x.f, none, 0, x.an⟩ : RF) } : RX).fs]) rfl rfl rfl rfl (by show _ = (({ X with fuel := X.fuel - 1, fs := X.fs.set own (⟨x.f, none, 0, x.an⟩ : RF) } : RX).fs.set own _).length; rw [@List.length_set _ ({ X with fuel := X.fuel - 1, fs := X.fs.set own (⟨x.f, none, 0, x.an⟩ : RF) } : RX).fs]) (rf_set (vs := [.bool true]) hxa (by show 6 + 1 ≤ 7; decide) rfl) (show St w (_ :: _ :: _ :: _ :: _) _ from hw.toM 4 [0, 1, 2, 3] rfl)) ?_
  rw [show ({ ({ X with fuel := X.fuel - 1, fs := X.fs.set own (⟨x.f, none, 0, x.an⟩ : RF) } : RX) with fs := ({ X with fuel := X.fuel - 1, fs := X.fs.set own (⟨x.f, none, 0, x.an⟩ : RF) } : RX).fs.set own (⟨x.f, none, 0, true⟩ : RF) } : RX) = ({ X with fuel := X.fuel - 1, fs := X.fs.set own (⟨x.f, none, 0, true⟩ : RF) } : RX) from by show (⟨X.inp, X.qs, X.comp, X.gets, X.fuel - 1, (X.fs.set own _).set own _⟩ : RX) = _; rw [List.set_set]]
  have hX1 : ROk UR d 0 ({ X with fuel := X.fuel - 1, fs := X.fs.set own (⟨x.f, none, 0, true⟩ : RF) } : RX) := by
    have e := rcl_en (oa := none) (ca := 0) (an := true) hx
    refine ⟨?_, by show _ ≤ (X.fs.set own _).length + d; rw [List.length_set]; exact hX.dep, ?_, ?_, by show X.comp.length + (X.fuel - 1) ≤ _; have := hX.su; omega, ?_⟩
    · rw [e]; exact hX.wk.same rfl rfl rfl
    · rw [e]; exact ⟨hX.rich.1, by have h9 : pot UR { X.en with fuel := X.en.fuel - 1 } = pot UR X.en := rfl; rw [h9]; have := hX.rich.2; show _ ≤ X.en.fuel - 1; omega⟩
    · rw [e]; exact hX.all
    · rw [e]; exact hX.qu.same rfl
  have hx1 : ({ X with fuel := X.fuel - 1, fs := X.fs.set own (⟨x.f, none, 0, true⟩ : RF) } : RX).fs[own]? = some ⟨x.f, none, 0, true⟩ := set_at hx
  refine TR.weak (fun w hw => hw.derive (ψ := ArrF none (trC x.f.tr)) (fun K hf => by rw [hxt]; exact .inl rfl)) ?_
  refine TR.region ?_
  refine RL.move rfl rfl rfl ?_
  refine RL.move rfl rfl rfl ?_
  refine RL.move rfl rfl rfl ?_
  refine RL.call rfl rfl Try.call83 rfl (rrule_spec (own := own) (X := ({ X with fuel := X.fuel - 1, fs := X.fs.set own (⟨x.f, none, 0, true⟩ : RF) } : RX)) (x := ⟨x.f, none, 0, true⟩) hob hX1 hk hx1 (.tail _ hin) hil hg0 hg1 (.head _)) (fun q => ?_)
  obtain ⟨⟨a, Y, y⟩, hq, hXY, hi, hy, hyk⟩ := q
  dsimp only at hq hXY hi hy hyk ⊢
  have hYl : Y.fs.length ≤ 1000 := by have h9 := hXY.wk.len; rw [ren_len] at h9; exact Nat.le_trans h9 (by decide)
  have hyl : own < Y.fs.length := (List.getElem?_eq_some_iff.1 hy).1
  have hysu := hXY.su
  refine RL.allocA rfl (Try.zeroValue49) rfl (fun b1 => ?_)
  refine RL.storeA 0 rfl rfl rfl rfl vd_tz49 rfl rfl ?_
  refine RL.nil ?_
  refine NX.seq ?_
  refine TR.seq ?_
  refine TR.seq ?_
  refine TR.pick 2 [1, 0] rfl ?_
  refine TR.open (fun w hw => (St.exOpen (show St w (Ex _ :: _) _ from hw))) (fun h => ?_)
  refine TR.openP (fun w hw => own_at (i := 3) rfl (rf_ne hy) hw) (fun g2 hg2 => ?_)
  refine TR.region ?_
  refine RL.move rfl rfl rfl ?_
  refine RL.nilCheck rfl rfl rfl ?_
  refine RL.fieldAddr rfl vd_tf76_6 rfl rfl ?_
  refine RL.load1 0 rfl vd_ts4 rfl rfl rfl rfl ?_
  refine RL.nil ?_
  refine NX.seq ?_
  refine TR.condF rfl ?_
  refine TR.skip ?_
  refine NX.seq ?_
  refine TR.seq ?_
  refine TR.sub (E' := [(0, _), (1, _), (2, _), (6, _)]) ⟨rfl, rfl, rfl, rfl, trivial⟩ ?_
  refine TR.draw mixed ?_
  apply AR.more [(0, _), (1, _), (2, _), (3, _), (4, _), (5, _), (6, _), (7, _)]
  refine AR.eff [0, 1, 2, 3, 4, 5, 6, 7] 8 [0, 1, 2, 3, 4, 5, 6, 7, 8] ⟨QOne.yes rfl rfl rfl (PV.move rfl), QOne.yes rfl rfl rfl (PV.nilCheck rfl), QOne.yes rfl rfl rfl (PV.fieldAddr vd_tf76_7 rfl), QOne.yes rfl rfl rfl (PV.load1 0 vd_ts74 rfl rfl rfl), QOne.yes rfl rfl rfl (PV.move rfl), QOne.yes rfl rfl rfl (PV.loadS rfl (box_agg (vs := [_, _]) (i := 4) rfl vd_ta49 (agg2 rfl rfl))), QOne.yes rfl rfl rfl (PV.indexAddr vd_tl74 vd_tz116 (congrArg (fun a => some (Value.slice a _ _)) hg2) rfl (by omega) (by omega)), QOne.yes rfl rfl rfl (PV.fieldAddr vd_tf116_3 rfl), trivial⟩ rfl rfl rfl rfl rfl rfl rfl (EV.storeO (vs := [S a.s, I a.e]) 3 rfl rfl rfl hg2 vd_tz49 rfl (rf_room (o := 5) hy (by decide)) rfl) (fun _ => ?_)
  refine AR.done [7, 5, 0, 1, 2, 3, 4, 6] rfl ?_
  refine AR.last [] [0, 1, 2, 3, 4, 5, 6, 7, 8] trivial rfl rfl rfl ?_
  refine NX.sub (E' := [(0, _), (1, _)]) ⟨rfl, rfl, trivial⟩ ?_
  refine NX.seq ?_
  refine TR.region ?_
  refine RL.move rfl rfl rfl ?_
  refine RL.move rfl rfl rfl ?_
  refine RL.nilCheck rfl rfl rfl ?_
  refine RL.fieldAddr rfl vd_tf76_3 rfl rfl ?_
  refine RL.load1 0 rfl vd_ts35 rfl rfl rfl rfl ?_
  refine RL.move rfl rfl rfl ?_
  refine RL.buildSlice rfl rfl (vd_bs35_1_0 _) rfl (fun b2 => ?_)
  refine RL.ofGV rfl rfl (GV.append (j := 3) vd_tl35 vd_ni35 vd_te9 rfl rfl rfl (src_box (i := 0) rfl rfl rfl) (by omega) (by omega)) (fun y1 => ?_)
  refine RL.nilCheck rfl rfl rfl ?_
  refine RL.fieldAddr rfl vd_tf76_3 rfl rfl ?_
  refine RL.store1 1 rfl vd_ts35 rfl rfl rfl rfl rfl ?_
  refine RL.nil ?_
  have hrun := rruns_run hq
  rw [rcl_en hx] at hrun
  have hst : ¬ (X.en.out = true ∨ X.en.fuel = 0) := fun e => e.elim (fun e => by rw [hX.rich.1] at e; cases e) (fun e => by have := hX.rich.2; omega)
  have hZ : ({ Y with comp := Y.comp ++ [k], fs := Y.fs.set own (⟨{ y.f with own := a }, y.oa, y.ca, y.an⟩ : RF) } : RX).en = compG (fun k b e => obt ruleR d k (some b) e) (ruleR k) k own X.en := (rown_en hy).trans (comp_go hst hrun.1 (by show ¬ Y.en.out = true; rw [hXY.rich.1]; decide)).symm
  refine NX.end0 (⟨({ Y with comp := Y.comp ++ [k], fs := Y.fs.set own (⟨{ y.f with own := a }, y.oa, y.ca, y.an⟩ : RF) } : RX), hZ, (KpR.trans (⟨(KpR.above (X := X) (y := ⟨x.f, none, 0, true⟩) (Nat.le_refl own)).kp⟩ : KpR own X ({ X with fuel := X.fuel - 1, fs := X.fs.set own (⟨x.f, none, 0, true⟩ : RF) } : RX)) hrun.2).trans ⟨(KpR.above (X := Y) (y := ⟨{ y.f with own := a }, y.oa, y.ca, y.an⟩) (Nat.le_refl own)).kp⟩, _, set_at hy, hyk.trans hxk⟩ : {Z : RX // Z.en = compG (fun k b e => obt ruleR d k (some b) e) (ruleR k) k own X.en ∧ KpR own X Z ∧ ∃ z, Z.fs[own]? = some z ∧ z.f.key = k}) rfl rfl (fun w hw => ?_)
  have h1 := St.rebClose (m := m) (bud := bud) (ia := ia) (ic := ic) (M := M) ({ Y with comp := Y.comp ++ [k], fs := Y.fs.set own (⟨{ y.f with own := a }, y.oa, y.ca, y.an⟩ : RF) } : RX) (⟨h.la, h.lc, y1.1, y1.2, h.sa, h.sc⟩ : RH) (by show _ = [I bud, .slice ia Y.inp.length ic, .slice h.la Y.qs.length h.lc, .slice y1.1 (Y.comp ++ [k]).length y1.2, I Y.gets, I (Y.fuel : Nat), .bool false, .slice h.sa (Y.fs.set own _).length h.sc]; rw [List.length_set, List.length_append]; rfl) rfl rfl (by show _ = (Y.comp ++ [k]).length; rw [List.length_append]; rfl) (by show _ = coC (Y.comp ++ [k]); unfold coC; rw [List.map_append]; rfl) (by show _ = (Y.fs.set own _).length; rw [List.length_set]) (rf_set (vs := [S a.s, I a.e]) hy (by show 3 + 2 ≤ 7; decide) rfl) (hw.to 6 [1, 2, 3, 4] 2 [] rfl)
  exact h1
end Go.Proofs.Ythefimaaeilefaa

namespace Go.GL
set_option linter.unusedVariables false
theorem rf_own {l : List RF} {i : Nat} {a : RF} (h : l[i]? = some a) : ∀ j v, [S a.f.own.s, I a.f.own.e][j]? = some v → (flC RF.cs l)[0 + ((i : Nat) : Int).toNat * 7 + 3 + j]? = some v := fun j v hv => by
  rw [Nat.add_assoc]
  exact rf_at h (3 + j) (by match j, hv with | 0, hv => exact hv | 1, hv => exact hv | j + 2, hv => simp at hv)
def rqO (c : Bool) (gets : Int) (x : RF) : RQ := ⟨⟨x.f.own, x.f.tr, c, true, gets⟩, x.oa, x.ca⟩
def putR (c : Bool) (gets : Int) : List RF → List (Ky × RQ) → List (Ky × RQ)
  | [], qs => qs
  | x :: l, qs => putR c gets l (aSet qs x.f.key (rqO c gets x))
def cyR (X : RX) (own : Nat) (x : RF) : Bool := x.f.self || decide (own + 1 < X.fs.length)
theorem putR_drop {c : Bool} {g : Int} {l : List RF} {qs : List (Ky × RQ)} {i : Nat} {x : RF} (h : l[i]? = some x) : putR c g (l.drop i) qs = putR c g (l.drop (i + 1)) (aSet qs x.f.key (rqO c g x)) := by
  have hi := (List.getElem?_eq_some_iff.1 h).1
  have h2 := (List.getElem?_eq_some_iff.1 h).2
  rw [List.drop_eq_getElem_cons hi, h2]; rfl
theorem putR_en {c : Bool} {g : Int} : ∀ {l : List RF} {qs : List (Ky × RQ)}, (∀ f, f ∈ l.map RF.f → toQ g c f = toQ g (c || f.self) f) → (putR c g l qs).map (fun p => (p.1, p.2.q)) = putAll g c (l.map RF.f) (qs.map fun p => (p.1, p.2.q))
  | [], qs, _ => rfl
  | x :: l, qs, h => by
    have h1 := putR_en (c := c) (g := g) (l := l) (qs := aSet qs x.f.key (rqO c g x)) fun f hf => h f (.tail _ hf)
    have h2 := h x.f (.head _)
    show (putR c g l (aSet qs x.f.key (rqO c g x))).map _ = putAll g c (l.map RF.f) (aSet _ x.f.key (toQ g (c || x.f.self) x.f))
    rw [h1, rqs_set, ← h2]; rfl
theorem putAll_one {g : Int} {f : Fr} {qs : List (Ky × Qy)} : putAll g false [f] qs = putAll g f.self [f] qs := by
  show aSet qs f.key (toQ g (false || f.self) f) = aSet qs f.key (toQ g (f.self || f.self) f)
  rw [Bool.false_or, Bool.or_self]
theorem settle_ren {X : RX} {own : Nat} {x : RF} (hw : (X.en.st.map Fr.key).Nodup) (hx : X.fs[own]? = some x) : settle own X.en = ((if cyR X own x = true then cycA else x.f.own), ({ X with qs := putR (cyR X own x) X.gets (X.fs.drop own) X.qs, fs := X.fs.take own } : RX).en) := by
  have hi := (List.getElem?_eq_some_iff.1 hx).1
  have hd : X.en.st.drop own = (X.fs.drop own).map RF.f := by show (X.fs.map RF.f).drop own = _; rw [List.map_drop]
  have hl : (X.en.st.drop own).length = X.fs.length - own := by rw [hd, List.length_map, List.length_drop]
  have hfd : X.fs.drop own = x :: X.fs.drop (own + 1) := by
    rw [List.drop_eq_getElem_cons hi, (List.getElem?_eq_some_iff.1 hx).2]
  have hput : putAll X.gets (decide (1 < (X.en.st.drop own).length)) (X.en.st.drop own) X.en.qs = (putR (cyR X own x) X.gets (X.fs.drop own) X.qs).map (fun p => (p.1, p.2.q)) := by
    rw [hl, hd]
    by_cases h1 : own + 1 < X.fs.length
    · have hc : cyR X own x = true := by unfold cyR; rw [decide_eq_true h1, Bool.or_true]
      rw [hc, decide_eq_true (by omega), putR_en fun f _ => by rw [Bool.true_or]]; rfl
    · have hc : cyR X own x = x.f.self := by unfold cyR; rw [decide_eq_false h1, Bool.or_false]
      have hn : X.fs.drop (own + 1) = [] := List.drop_of_length_le (by omega)
      rw [decide_eq_false (by omega), hc, hfd, hn, putR_en fun f hf => by
        have : f = x.f := by simpa using hf
        rw [this, Bool.or_self]]
      exact putAll_one
  unfold settle
  simp only
  rw [ren_at hx, show X.en.gets = X.gets from rfl, hput]
  have hnd : ((X.en.st.drop own).map Fr.key).Nodup := by rw [List.map_drop]; exact hw.sublist (List.drop_sublist _ _)
  have hg := (putAll_get (gets := X.gets) (c := decide (1 < (X.en.st.drop own).length)) (grp := X.en.st.drop own) (qs := X.en.qs) hnd).1 x.f (by rw [hd, hfd]; exact .head _)
  rw [hput] at hg
  have hcy : (decide (1 < (X.en.st.drop own).length) || x.f.self) = cyR X own x := by
    rw [hl]; unfold cyR
    rw [Bool.or_comm]
    congr 1
    exact decide_eq_decide.2 (by omega)
  rw [hcy] at hg
  simp only
  rw [hg]
  refine Prod.ext ?_ ?_
  · rfl
  · show (⟨X.inp, _, X.comp, X.gets, X.fuel, false, (X.fs.map RF.f).take own⟩ : En) = ⟨X.inp, _, X.comp, X.gets, X.fuel, false, (X.fs.take own).map RF.f⟩
    rw [List.map_take]
theorem KpR.take {X : RX} {own : Nat} {qs : List (Ky × RQ)} : KpR own X { X with qs := qs, fs := X.fs.take own } := ⟨fun i x hi hx => ⟨x, by show (X.fs.take own)[i]? = _; rw [List.getElem?_take, if_pos hi]; exact hx, rfl, rfl, rfl, rfl⟩⟩
theorem flC_take {α : Type} {c : α → List Value} {n : Nat} (hc : ∀ a, (c a).length = n) : ∀ (l : List α) (k : Nat), (flC c l).take (k * n) = flC c (l.take k)
  | [], k => by simp [flC]
  | a :: l, 0 => by simp [flC]
  | a :: l, k + 1 => by
    rw [flC, List.take_succ_cons, flC, List.take_append, hc, Nat.succ_mul, List.take_of_length_le (by rw [hc]; omega), Nat.add_sub_cancel, flC_take hc l k]
theorem aSet_len {β : Type} {l : List (Ky × β)} {k : Ky} {v : β} : (aSet l k v).length ≤ l.length + 1 := by
  induction l with
  | nil => simp [aSet]
  | cons p l ih =>
    rw [aSet]
    split
    · simp
    · simp only [List.length_cons]; omega
end Go.GL

namespace Go.Proofs.Ythefimaaeilefaa
open Go.GL
set_option linter.unusedVariables false
theorem ve_bs73_1_0 (x00 : List UInt8) (x010 : List UInt8) (x011 : Int) (x02 : Option Addr) (x02n x02c : Nat) (x03 : Bool) (x04 : Bool) (x05 : Int) : BuildSV Try.prog 73 105 1 [(0, .agg #[S x00, S x010, .int .i64 x011, .slice x02 x02n x02c, .bool x03, .bool x04, .int .i64 x05])] [S x00, S x010, .int .i64 x011, .slice x02 x02n x02c, .bool x03, .bool x04, .int .i64 x05] := fun w => by kernel_rfl
theorem ve_bv105_0_1_2_3_4_5 (x0 : List UInt8) (x10 : List UInt8) (x11 : Int) (x2 : Option Addr) (x2n x2c : Nat) (x3 : Bool) (x4 : Bool) (x5 : Int) : BuildV Try.prog 105 [(0, S x0), (1, .agg #[S x10, .int .i64 x11]), (2, .slice x2 x2n x2c), (3, .bool x3), (4, .bool x4), (5, .int .i64 x5)] (.agg #[S x0, S x10, .int .i64 x11, .slice x2 x2n x2c, .bool x3, .bool x4, .int .i64 x5]) := fun w => by kernel_rfl
theorem ve_bv49_1 (x1 : Int) : BuildV Try.prog 49 [(1, .int .i64 x1)] (.agg #[S [], .int .i64 x1]) := fun w => by kernel_rfl
theorem ve_ni73 : noInt Try.prog 73 = true := by kernel_rfl
theorem ve_ta105 : tyAgg Try.prog 105 7 = true := by kernel_rfl
theorem ve_ta116 : tyAgg Try.prog 116 7 = true := by kernel_rfl
theorem ve_ta49 : tyAgg Try.prog 49 2 = true := by kernel_rfl
theorem ve_te105 : tyElem Try.prog 105 7 80 = true := by kernel_rfl
theorem ve_tf116_0 : fieldOff Try.prog 116 0 0 = true := by kernel_rfl
theorem ve_tf116_1 : fieldOff Try.prog 116 1 1 = true := by kernel_rfl
theorem ve_tf116_2 : fieldOff Try.prog 116 2 2 = true := by kernel_rfl
theorem ve_tf116_3 : fieldOff Try.prog 116 3 3 = true := by kernel_rfl
theorem ve_tf116_4 : fieldOff Try.prog 116 4 5 = true := by kernel_rfl
theorem ve_tf76_2 : fieldOff Try.prog 76 2 2 = true := by kernel_rfl
theorem ve_tf76_4 : fieldOff Try.prog 76 4 4 = true := by kernel_rfl
theorem ve_tf76_7 : fieldOff Try.prog 76 7 7 = true := by kernel_rfl
theorem ve_tl73 : tySlice Try.prog 73 105 = true := by kernel_rfl
theorem ve_tl74 : tySlice Try.prog 74 116 = true := by kernel_rfl
theorem ve_ts3 : tyScalar Try.prog 3 = true := by kernel_rfl
theorem ve_ts4 : tyScalar Try.prog 4 = true := by kernel_rfl
theorem ve_ts46 : tyScalar Try.prog 46 = true := by kernel_rfl
theorem ve_ts73 : tyScalar Try.prog 73 = true := by kernel_rfl
theorem ve_ts74 : tyScalar Try.prog 74 = true := by kernel_rfl
theorem ve_ts9 : tyScalar Try.prog 9 = true := by kernel_rfl
theorem ve_tz105 : tySize Try.prog 105 7 = true := by kernel_rfl
theorem ve_tz116 : tySize Try.prog 116 7 = true := by kernel_rfl
theorem ve_tz3 : tySize Try.prog 3 1 = true := by kernel_rfl
theorem ve_tz49 : tySize Try.prog 49 2 = true := by kernel_rfl
set_option maxHeartbeats 2000000 in
theorem rclose_spec {m : Nat} {bud : Int} {ia : Option Addr} {ic : Nat} {X : RX} {M : List HP} {F : List Fact} {own : Nat} {x : RF} {by_ : Option Nat} {bv : Int} (hW : Wk UR X.en) (hQl : X.qs.length ≤ 21) (hnd : (X.en.st.map Fr.key).Nodup) (hx : X.fs[own]? = some x) (hby : (by_ = none ∧ bv = -1 ∧ own = 0) ∨ ∃ (b : Nat) (xb : RF), by_ = some b ∧ X.fs[b]? = some xb ∧ bv = ((b : Nat) : Int) ∧ b < own) : Ctr Try.prog 69 [PtV m, I (own : Nat), I bv] (REB m bud ia ic (X) :: M) F {Y : RX // Y.en = (leave by_ own X.en).2 ∧ KpR own X Y} (fun _ => anV (leave by_ own X.en).1) (fun Y => REB m bud ia ic (Y.1) :: M) (fun _ => F) := by
  refine Ctr.body Try.func69 rfl rfl ?_
  refine TR.seq ?_
  refine TR.region ?_
  refine RL.allocA rfl (Try.zeroValue49) rfl (fun b1 => ?_)
  refine RL.nil ?_
  refine NX.seq ?_
  refine TR.seq ?_
  refine TR.seq ?_
  refine TR.pick 2 [1, 0] rfl ?_
  refine TR.open (fun w hw => (St.exOpen (show St w (Ex _ :: _) _ from hw))) (fun h => ?_)
  have hown : own < X.fs.length := (List.getElem?_eq_some_iff.1 hx).1
  have hXl : X.fs.length ≤ 21 := by have h9 := hW.len; rw [ren_len] at h9; exact Nat.le_trans h9 (by decide)
  have hql : X.qs.length ≤ 21 := hQl
  refine TR.openP (fun w hw => own_at (i := 3) rfl (rf_ne hx) hw) (fun g hg => ?_)
  refine TR.region ?_
  refine RL.move rfl rfl rfl ?_
  refine RL.nilCheck rfl rfl rfl ?_
  refine RL.fieldAddr rfl ve_tf76_7 rfl rfl ?_
  refine RL.load1 0 rfl ve_ts74 rfl rfl rfl rfl ?_
  refine RL.move rfl rfl rfl ?_
  refine RL.indexAddr rfl ve_tl74 ve_tz116 (congrArg (fun a => some (Value.slice a _ _)) hg) rfl (by omega) (by omega) rfl ?_
  refine RL.fieldAddr rfl ve_tf116_1 rfl rfl ?_
  refine RL.loadS rfl rfl (own_one (i := 3) rfl hg ve_ts3 (rf_at hx 1 rfl)) rfl ?_
  refine RL.move rfl rfl rfl ?_
  refine RL.bin rfl rfl rfl BinV.lss rfl ?_
  refine RL.nil ?_
  refine NX.seq ?_
  refine TR.cond rfl (fun h2 => ?_) (fun h2 => ?_)
  · skip
    have hlow : x.f.low < own := by have := of_decide_eq_true h2; omega
    obtain ⟨b, xb, rfl, hxb, rfl, hbl⟩ : ∃ (b : Nat) (xb : RF), by_ = some b ∧ X.fs[b]? = some xb ∧ bv = ((b : Nat) : Int) ∧ b < own := hby.elim (fun h => by omega) id
    refine TR.seq ?_
    refine TR.sub (E' := [(0, _), (1, _), (2, _), (6, _)]) ⟨rfl, rfl, rfl, rfl, trivial⟩ ?_
    refine TR.draw mixed ?_
    apply AR.more [(0, _), (1, _), (2, _), (3, _), (4, _), (5, _), (6, _), (7, _), (8, _), (9, _), (10, _), (11, _), (12, _), (13, _), (14, _), (15, _), (16, _), (17, _), (18, _), (19, _), (20, _), (21, _), (22, _), (23, _)]
    refine AR.eff [0, 1, 2, 3, 4, 5, 6, 7, 8, 9, 10, 11, 12, 13, 14, 15, 16, 17, 18, 19, 20, 21, 22, 23] 24 [0, 1, 2, 3, 4, 5, 6, 7, 8, 9, 10, 11, 12, 13, 14, 15, 16, 17, 18, 19, 20, 21, 22, 23, 24] ⟨QOne.yes rfl rfl rfl (PV.move rfl), QOne.yes rfl rfl rfl (PV.nilCheck rfl), QOne.yes rfl rfl rfl (PV.fieldAddr ve_tf76_7 rfl), QOne.yes rfl rfl rfl (PV.load1 0 ve_ts74 rfl rfl rfl), QOne.yes rfl rfl rfl (PV.move rfl), QOne.yes rfl rfl rfl (PV.move rfl), QOne.yes rfl rfl rfl (PV.nilCheck rfl), QOne.yes rfl rfl rfl (PV.fieldAddr ve_tf76_7 rfl), QOne.yes rfl rfl rfl (PV.load1 0 ve_ts74 rfl rfl rfl), QOne.yes rfl rfl rfl (PV.move rfl), QOne.yes rfl rfl rfl (PV.indexAddr ve_tl74 ve_tz116 (congrArg (fun a => some (Value.slice a _ _)) hg) rfl (by omega) (by omega)), QOne.yes rfl rfl rfl (PV.fieldAddr ve_tf116_1 rfl), QOne.yes rfl rfl rfl (PV.loadS rfl (own_one (i := 3) rfl hg ve_ts3 (rf_at hxb 1 rfl))), QOne.yes rfl rfl rfl (PV.move rfl), QOne.yes rfl rfl rfl (PV.nilCheck rfl), QOne.yes rfl rfl rfl (PV.fieldAddr ve_tf76_7 rfl), QOne.yes rfl rfl rfl (PV.load1 0 ve_ts74 rfl rfl rfl), QOne.yes rfl rfl rfl (PV.move rfl), QOne.yes rfl rfl rfl (PV.indexAddr ve_tl74 ve_tz116 (congrArg (fun a => some (Value.slice a _ _)) hg) rfl (by omega) (by omega)), QOne.yes rfl rfl rfl (PV.fieldAddr ve_tf116_1 rfl), QOne.yes rfl rfl rfl (PV.loadS rfl (own_one (i := 3) rfl hg ve_ts3 (rf_at hx 1 rfl))), QOne.yes rfl rfl rfl (PV.min rfl rfl), QOne.yes rfl rfl rfl (PV.indexAddr ve_tl74 ve_tz116 (congrArg (fun a => some (Value.slice a _ _)) hg) rfl (by omega) (by omega)), QOne.yes rfl rfl rfl (PV.fieldAddr ve_tf116_1 rfl), trivial⟩ rfl rfl rfl rfl rfl rfl rfl (EV.storeO (vs := [I (min ((xb.f.low : Nat) : Int) ((x.f.low : Nat) : Int))]) 3 rfl rfl rfl hg ve_tz3 rfl (rf_room (o := 2) hxb (by decide)) rfl) (fun _ => ?_)
    refine AR.done [23, 21, 0, 1, 2, 3, 4, 5, 6, 7, 8, 9, 10, 11, 12, 13, 14, 15, 16, 17, 18, 19, 20, 22] rfl ?_
    refine AR.last [] [0, 1, 2, 3, 4, 5, 6, 7, 8, 9, 10, 11, 12, 13, 14, 15, 16, 17, 18, 19, 20, 21, 22, 23, 24] trivial rfl rfl rfl ?_
    refine NX.sub (E' := [(0, _), (1, _), (6, _)]) ⟨rfl, rfl, rfl, trivial⟩ ?_
    refine NX.seq ?_
    refine TR.seq ?_
    refine TR.region ?_
    refine RL.build rfl rfl (ve_bv49_1 _) rfl ?_
    refine RL.storeA 4 rfl rfl rfl rfl ve_tz49 rfl rfl ?_
    refine RL.nil ?_
    refine NX.seq ?_
    refine TR.ret ?_
    refine NX.retThen ?_
    have hlv := leave_cyc (e := X.en) (by_ := some b) (own := own) (by show ¬ false = true; decide) (by rw [lowOf_is (ren_at hx)]; exact hlow)
    rw [lowOf_is (ren_at hx)] at hlv
    refine NX.retC (j := 4) (⟨({ X with fs := X.fs.set b (⟨{ xb.f with low := min xb.f.low x.f.low }, xb.oa, xb.ca, xb.an⟩ : RF) } : RX), by rw [hlv]; exact ren_set hxb rfl, KpR.set hxb rfl rfl rfl rfl⟩ : {Y : RX // Y.en = (leave (some b) own X.en).2 ∧ KpR own X Y}) rfl rfl rfl ve_ta49 (by rw [hlv]; rfl) (fun w hw => ?_)
    exact St.rebClose (({ X with fs := X.fs.set b (⟨{ xb.f with low := min xb.f.low x.f.low }, xb.oa, xb.ca, xb.an⟩ : RF) } : RX)) h (by show _ = [I bud, .slice ia X.inp.length ic, .slice h.la X.qs.length h.lc, .slice h.ca X.comp.length h.cc, I X.gets, I (X.fuel : Nat), .bool false, .slice h.sa (X.fs.set b _).length h.sc]; rw [List.length_set]) rfl rfl rfl rfl (by show _ = (X.fs.set b _).length; rw [List.length_set]) (rf_set (vs := [I (min ((xb.f.low : Nat) : Int) ((x.f.low : Nat) : Int))]) hxb (by show 1 + 1 ≤ 7; decide) (by show [S xb.f.key, I ((min xb.f.low x.f.low : Nat) : Int), .bool xb.f.self, S xb.f.own.s, I xb.f.own.e, .slice xb.oa xb.f.tr.length xb.ca, .bool xb.an] = _; rw [min_cast2]; rfl)) (hw.to 5 [0, 1, 2, 3] 0 [] rfl)
  · skip
    have hlow : ¬ x.f.low < own := by have := of_decide_eq_false h2; omega
    refine TR.skip ?_
    refine NX.seq ?_
    refine TR.seq ?_
    refine TR.region ?_
    refine RL.move rfl rfl rfl ?_
    refine RL.nilCheck rfl rfl rfl ?_
    refine RL.fieldAddr rfl ve_tf76_7 rfl rfl ?_
    refine RL.load1 0 rfl ve_ts74 rfl rfl rfl rfl ?_
    refine RL.move rfl rfl rfl ?_
    refine RL.indexAddr rfl ve_tl74 ve_tz116 (congrArg (fun a => some (Value.slice a _ _)) hg) rfl (by omega) (by omega) rfl ?_
    refine RL.fieldAddr rfl ve_tf116_2 rfl rfl ?_
    refine RL.loadS rfl rfl (own_one (i := 3) rfl hg ve_ts4 (rf_at hx 2 rfl)) rfl ?_
    refine RL.move rfl rfl rfl ?_
    refine RL.part (fun h3 => ?_) (fun h3 => ?_)
    · skip
      have hslf : x.f.self = true := h3
      have hcy : cyR X own x = true := by unfold cyR; rw [hslf]; rfl
      refine RL.skip rfl rfl rfl ?_
      refine RL.skip rfl rfl rfl ?_
      refine RL.skip rfl rfl rfl ?_
      refine RL.skip rfl rfl rfl ?_
      refine RL.skip rfl rfl rfl ?_
      refine RL.skip rfl rfl rfl ?_
      refine RL.skip rfl rfl rfl ?_
      refine RL.skip rfl rfl rfl ?_
      refine RL.pickT rfl rfl rfl rfl ?_
      refine RL.assign rfl rfl rfl ?_
      refine RL.nil ?_
      refine NX.seq ?_
      refine TR.seq ?_
      refine TR.seq ?_
      refine TR.weak (fun w hw => St.rebClose (X) h rfl rfl rfl rfl rfl rfl rfl (show St w (_ :: _ :: _ :: _ :: _) _ from hw.toM 5 [0, 1, 2, 3, 4] rfl)) ?_
      refine TR.region ?_
      refine RL.move rfl rfl rfl ?_
      refine RL.assign rfl rfl rfl ?_
      refine RL.nil ?_
      refine NX.seq ?_
      refine TR.block ?_
      refine TR.loopP (ι := (Nat × List (Ky × RQ))) (fun z => own ≤ z.1 ∧ z.1 ≤ X.fs.length ∧ putR (cyR X own x) X.gets (X.fs.drop z.1) z.2 = putR (cyR X own x) X.gets (X.fs.drop own) X.qs ∧ z.2.length + (X.fs.length - z.1) ≤ 100) (fun z => [(0, PtV m), (1, I (own : Nat)), (6, PtV b1), (7, .bool (cyR X own x)), (8, I (z.1 : Nat))]) (fun z => REB m bud ia ic { X with qs := z.2 } :: Box b1 49 [S [], I 0] :: M) (fun z => F) (fun z => (X.fs.length - z.1)) (own, X.qs) ⟨Nat.le_refl _, Nat.le_of_lt hown, rfl, by show X.qs.length + (X.fs.length - own) ≤ 100; omega⟩ ⟨rfl, rfl, rfl, congrArg (fun b => some (Value.bool b)) (by rw [hcy]), rfl, trivial⟩ (fun w hw => (hw.to 2 [0, 1] 0 [] rfl)) (fun z hz => ?_)
      refine TR.seq ?_
      refine TR.seq ?_
      refine TR.open (fun w hw => (St.exOpen (show St w (Ex _ :: _) _ from hw))) (fun h => ?_)
      have hXz : ({ X with qs := z.2 } : RX).fs.length = X.fs.length := rfl
      have hXq : ({ X with qs := z.2 } : RX).qs.length = z.2.length := rfl
      refine TR.region ?_
      refine RL.move rfl rfl rfl ?_
      refine RL.move rfl rfl rfl ?_
      refine RL.nilCheck rfl rfl rfl ?_
      refine RL.fieldAddr rfl ve_tf76_7 rfl rfl ?_
      refine RL.load1 0 rfl ve_ts74 rfl rfl rfl rfl ?_
      refine RL.lenSlice rfl ve_tl74 rfl rfl ?_
      refine RL.bin rfl rfl rfl BinV.lss rfl ?_
      refine RL.nil ?_
      refine NX.seq ?_
      refine TR.cond rfl (fun h4 => ?_) (fun h4 => ?_)
      · skip
        have hi : z.1 < X.fs.length := by have h8 := of_decide_eq_true h4; exact Int.ofNat_lt.1 h8
        obtain ⟨xi, hxi⟩ : ∃ xi, X.fs[z.1]? = some xi := ⟨_, List.getElem?_eq_getElem hi⟩
        refine TR.openP (fun w hw => own_at (i := 3) rfl (rf_ne hxi) hw) (fun gi hgi => ?_)
        refine TR.skip ?_
        refine NX.seq ?_
        refine TR.seq ?_
        refine TR.block ?_
        refine TR.seq ?_
        refine TR.region ?_
        refine RL.move rfl rfl rfl ?_
        refine RL.nilCheck rfl rfl rfl ?_
        refine RL.fieldAddr rfl ve_tf76_7 rfl rfl ?_
        refine RL.load1 0 rfl ve_ts74 rfl rfl rfl rfl ?_
        refine RL.move rfl rfl rfl ?_
        refine RL.indexAddr rfl ve_tl74 ve_tz116 (congrArg (fun a => some (Value.slice a _ _)) hgi) rfl (by omega) (by omega) rfl ?_
        refine RL.loadS rfl rfl (own_agg (i := 3) (vs := [S xi.f.key, I (xi.f.low : Nat), .bool xi.f.self, S xi.f.own.s, I xi.f.own.e, .slice xi.oa xi.f.tr.length xi.ca, .bool xi.an]) rfl hgi ve_ta116 (fun j v hj => rf_at hxi j hj)) rfl ?_
        refine RL.allocA rfl (Try.zeroValue116) rfl (fun b5 => ?_)
        refine RL.storeA 0 rfl rfl rfl rfl ve_tz116 rfl rfl ?_
        refine RL.nil ?_
        refine NX.seq ?_
        refine TR.seq ?_
        refine TR.sub (E' := [(0, _), (1, _), (6, _), (7, _), (8, _), (9, _), (67, _), (68, _), (69, _), (70, _), (71, _), (72, _), (73, _), (76, _), (77, _), (78, _), (79, _), (80, _), (81, _), (82, _)]) ⟨rfl, rfl, rfl, rfl, rfl, rfl, rfl, rfl, rfl, rfl, rfl, rfl, rfl, rfl, rfl, rfl, rfl, rfl, rfl, rfl, trivial⟩ ?_
        refine TR.draw mixed ?_
        apply AR.more [(0, _), (1, _), (2, _), (3, _), (4, _), (5, _), (6, _), (7, _), (8, _), (9, _), (10, _), (11, _)]
        refine AR.eff [0, 1, 2, 3, 4, 5, 6, 7, 8, 9, 10, 11] 12 [0, 1, 2, 3, 4, 5, 6, 7, 8, 9, 10, 11, 12, 13] ⟨QOne.yes rfl rfl rfl (PV.fieldAddr ve_tf116_0 rfl), QOne.yes rfl rfl rfl (PV.load1 0 ve_ts9 rfl rfl rfl), QOne.yes rfl rfl rfl (PV.fieldAddr ve_tf116_3 rfl), QOne.yes rfl rfl rfl (PV.loadS rfl (box_agg (vs := [_, _]) (i := 0) rfl ve_ta49 (agg2 rfl rfl))), QOne.yes rfl rfl rfl (PV.fieldAddr ve_tf116_4 rfl), QOne.yes rfl rfl rfl (PV.load1 0 ve_ts46 rfl rfl rfl), QOne.yes rfl rfl rfl (PV.move rfl), QOne.yes rfl rfl rfl (PV.move rfl), QOne.yes rfl rfl rfl (PV.nilCheck rfl), QOne.yes rfl rfl rfl (PV.fieldAddr ve_tf76_4 rfl), QOne.yes rfl rfl rfl (PV.load1 1 ve_ts3 rfl rfl rfl), QOne.yes rfl rfl rfl (PV.build rfl (ve_bv105_0_1_2_3_4_5 _ _ _ _ _ _ _ _ _)), trivial⟩ rfl rfl rfl rfl rfl rfl rfl (EV.allocA (Try.zeroValue105)) (fun b6 => ?_)
        refine AR.eff [0, 1, 2, 3, 4, 5, 6, 7, 8, 9, 10, 11] 13 [0, 1, 2, 3, 4, 5, 6, 7, 8, 9, 10, 11, 12, 13] ⟨QOne.yes rfl rfl rfl (PV.fieldAddr ve_tf116_0 rfl), QOne.yes rfl rfl rfl (PV.load1 1 ve_ts9 rfl rfl rfl), QOne.yes rfl rfl rfl (PV.fieldAddr ve_tf116_3 rfl), QOne.yes rfl rfl rfl (PV.loadS rfl (box_agg (vs := [_, _]) (i := 1) rfl ve_ta49 (agg2 rfl rfl))), QOne.yes rfl rfl rfl (PV.fieldAddr ve_tf116_4 rfl), QOne.yes rfl rfl rfl (PV.load1 1 ve_ts46 rfl rfl rfl), QOne.yes rfl rfl rfl (PV.move rfl), QOne.yes rfl rfl rfl (PV.move rfl), QOne.yes rfl rfl rfl (PV.nilCheck rfl), QOne.yes rfl rfl rfl (PV.fieldAddr ve_tf76_4 rfl), QOne.yes rfl rfl rfl (PV.load1 2 ve_ts3 rfl rfl rfl), QOne.yes rfl rfl rfl (PV.build rfl (ve_bv105_0_1_2_3_4_5 _ _ _ _ _ _ _ _ _)), trivial⟩ rfl rfl rfl rfl rfl rfl rfl (EV.storeA 0 rfl rfl rfl ve_tz105 rfl rfl) (fun _ => ?_)
        refine AR.done [11, 0, 1, 2, 3, 4, 5, 6, 7, 8, 9, 10] rfl ?_
        refine AR.last [] [0, 1, 2, 3, 4, 5, 6, 7, 8, 9, 10, 11, 12, 13] trivial rfl rfl rfl ?_
        refine NX.sub (E' := [(0, _), (1, _), (6, _), (7, _), (8, _), (9, _), (10, _), (67, _), (68, _), (69, _), (70, _), (71, _), (72, _), (73, _), (76, _), (77, _), (78, _), (79, _), (80, _), (81, _), (82, _), (83, _), (84, _), (85, _), (86, _), (87, _), (88, _), (89, _), (90, _), (91, _), (92, _), (93, _), (94, _)]) ⟨rfl, rfl, rfl, rfl, rfl, rfl, rfl, rfl, rfl, rfl, rfl, rfl, rfl, rfl, rfl, rfl, rfl, rfl, rfl, rfl, rfl, rfl, rfl, rfl, rfl, rfl, rfl, rfl, rfl, rfl, rfl, rfl, rfl, trivial⟩ ?_
        refine NX.seq ?_
        refine TR.seq ?_
        refine TR.weak (fun w hw => St.rebClose ({ X with qs := z.2 }) h rfl rfl rfl rfl rfl rfl rfl (show St w (_ :: _ :: _ :: _ :: _) _ from hw.toM 7 [2, 3, 4, 5, 0, 1, 6] rfl)) ?_
        refine TR.region ?_
        refine RL.move rfl rfl rfl ?_
        refine RL.fieldAddr rfl ve_tf116_0 rfl rfl ?_
        refine RL.load1 2 rfl ve_ts9 rfl rfl rfl rfl ?_
        refine RL.call rfl rfl Try.call50 rfl (rfind_spec (X := { X with qs := z.2 }) (k := xi.f.key) (by show z.2.length ≤ 1000; omega)) (fun _ => ?_)
        refine RL.assign rfl rfl rfl ?_
        refine RL.nil ?_
        refine NX.seq ?_
        refine TR.seq ?_
        refine TR.region ?_
        refine RL.move rfl rfl rfl ?_
        rcases hki : kIdx z.2 xi.f.key with _ | j
        · skip
          refine RL.bin rfl rfl rfl (BinV.to (d := false) BinV.geq (decide_eq_false (by show ¬ (0 : Int) ≤ -1; decide))) rfl ?_
          refine RL.nil ?_
          refine NX.seq ?_
          refine TR.condF rfl ?_
          refine TR.open (fun w hw => (St.exOpen (show St w (Ex _ :: _) _ from hw))) (fun h => ?_)
          obtain ⟨hv2, hv3⟩ := kIdx_none hki
          refine TR.sub (E' := [(0, _), (1, _), (6, _), (7, _), (8, _), (9, _), (10, _), (11, _), (67, _), (68, _), (69, _), (70, _), (71, _), (72, _), (73, _), (76, _), (77, _), (78, _), (79, _), (80, _), (81, _), (82, _), (83, _), (84, _), (85, _), (86, _), (87, _), (88, _), (89, _), (90, _), (91, _), (92, _), (93, _), (94, _), (95, _), (96, _), (97, _), (98, _), (99, _), (100, _)]) ⟨rfl, rfl, rfl, rfl, rfl, rfl, rfl, rfl, rfl, rfl, rfl, rfl, rfl, rfl, rfl, rfl, rfl, rfl, rfl, rfl, rfl, rfl, rfl, rfl, rfl, rfl, rfl, rfl, rfl, rfl, rfl, rfl, rfl, rfl, rfl, rfl, rfl, rfl, rfl, rfl, trivial⟩ ?_
          refine TR.draw mixed ?_
          apply AR.more [(0, _), (1, _), (2, _), (3, _), (4, _), (5, _)]
          refine AR.eff [0, 1, 2, 3, 4, 5] 6 [0, 1, 2, 3, 4, 5, 6, 7, 8, 9, 10] ⟨QOne.yes rfl rfl rfl (PV.move rfl), QOne.yes rfl rfl rfl (PV.move rfl), QOne.yes rfl rfl rfl (PV.nilCheck rfl), QOne.yes rfl rfl rfl (PV.fieldAddr ve_tf76_2 rfl), QOne.yes rfl rfl rfl (PV.load1 0 ve_ts73 rfl rfl rfl), QOne.yes rfl rfl rfl (PV.loadA 4 rfl rfl ve_ta105), trivial⟩ rfl rfl rfl rfl rfl rfl rfl (EV.buildSlice rfl (ve_bs73_1_0 _ _ _ _ _ _ _ _ _)) (fun b7 => ?_)
          refine AR.done [5] rfl ?_
          refine AR.eff [0, 1, 2, 3, 4] 7 [0, 1, 2, 3, 4, 5, 6, 7, 8, 9, 10] ⟨QOne.yes rfl rfl rfl (PV.move rfl), QOne.yes rfl rfl rfl (PV.move rfl), QOne.yes rfl rfl rfl (PV.nilCheck rfl), QOne.yes rfl rfl rfl (PV.fieldAddr ve_tf76_2 rfl), QOne.yes rfl rfl rfl (PV.load1 1 ve_ts73 rfl rfl rfl), trivial⟩ rfl rfl rfl rfl rfl rfl rfl (EV.ofGV (GV.append (j := 2) ve_tl73 ve_ni73 ve_te105 rfl rfl rfl (src_box (i := 0) rfl rfl rfl) (by omega) (by omega))) (fun yq => ?_)
          refine AR.done [4, 3, 2, 1] rfl ?_
          apply AR.more [(8, _), (9, _)]
          refine AR.eff [0, 8, 9] 10 [0, 1, 2, 3, 4, 5, 6, 7, 8, 9, 10] ⟨QOne.yes rfl rfl rfl (PV.move rfl), QOne.yes rfl rfl rfl (PV.nilCheck rfl), QOne.yes rfl rfl rfl (PV.fieldAddr ve_tf76_2 rfl), trivial⟩ rfl rfl rfl rfl rfl rfl rfl (EV.store1 1 ve_ts73 rfl rfl rfl rfl rfl) (fun _ => ?_)
          refine AR.done [9, 0, 8] rfl ?_
          refine AR.last [] [0, 1, 2, 3, 4, 5, 6, 7, 8, 9, 10] trivial rfl rfl rfl ?_
          refine NX.sub (E' := [(0, _), (1, _), (6, _), (7, _), (8, _), (9, _), (10, _), (11, _), (67, _), (68, _), (69, _), (70, _), (71, _), (72, _), (73, _), (76, _), (77, _), (78, _), (79, _), (80, _), (81, _), (82, _), (83, _), (84, _), (85, _), (86, _), (87, _), (88, _), (89, _), (90, _), (91, _), (92, _), (93, _), (94, _), (95, _), (96, _), (97, _), (98, _), (99, _), (100, _), (108, _), (109, _), (110, _), (111, _), (112, _), (113, _), (114, _), (115, _), (116, _), (117, _)]) ⟨rfl, rfl, rfl, rfl, rfl, rfl, rfl, rfl, rfl, rfl, rfl, rfl, rfl, rfl, rfl, rfl, rfl, rfl, rfl, rfl, rfl, rfl, rfl, rfl, rfl, rfl, rfl, rfl, rfl, rfl, rfl, rfl, rfl, rfl, rfl, rfl, rfl, rfl, rfl, rfl, rfl, rfl, rfl, rfl, rfl, rfl, rfl, rfl, rfl, rfl, trivial⟩ ?_
          refine NX.off ?_
          refine NX.seq ?_
          refine TR.region ?_
          refine RL.move rfl rfl rfl ?_
          refine RL.bin rfl rfl rfl (BinV.add ((z.1 + 1 : Nat) : Int) (by omega) (by omega) (by omega)) rfl ?_
          refine RL.assign rfl rfl rfl ?_
          refine RL.nil ?_
          refine NX.roundP (z.1 + 1, (aSet z.2 xi.f.key (rqO (cyR X own x) X.gets xi))) ⟨by omega, by omega, (putR_drop hxi).symm.trans hz.2.2.1, by show (aSet z.2 xi.f.key (rqO (cyR X own x) X.gets xi)).length + (X.fs.length - (z.1 + 1)) ≤ 100; have h7 : (aSet z.2 xi.f.key (rqO (cyR X own x) X.gets xi)).length ≤ z.2.length + 1 := aSet_len; omega⟩ (by show X.fs.length - (z.1 + 1) < X.fs.length - z.1; omega) ⟨rfl, rfl, rfl, rfl, rfl, trivial⟩ (fun w hw => (St.rebClose (({ X with qs := (aSet z.2 xi.f.key (rqO (cyR X own x) X.gets xi)) } : RX)) (⟨yq.1, yq.2, h.ca, h.cc, h.sa, h.sc⟩ : RH) (by show _ = [I bud, .slice ia X.inp.length ic, .slice yq.1 (aSet z.2 xi.f.key (rqO (cyR X own x) X.gets xi)).length yq.2, .slice h.ca X.comp.length h.cc, I X.gets, I (X.fuel : Nat), .bool false, .slice h.sa X.fs.length h.sc]; rw [hv3, List.length_append] <;> rfl) (by show _ = (aSet z.2 xi.f.key (rqO (cyR X own x) X.gets xi)).length; rw [hv3, List.length_append] <;> rfl) (by show _ = flC RQ.cs (aSet z.2 xi.f.key (rqO (cyR X own x) X.gets xi)); rw [hv3, flC_append, flC_one]; rfl) rfl rfl rfl rfl (hw.to 8 [1, 2, 3, 4, 7] 0 [] rfl)))
        · skip
          refine RL.bin rfl rfl rfl (BinV.to (d := true) BinV.geq (decide_eq_true (by show (0 : Int) ≤ ((j : Nat) : Int); omega))) rfl ?_
          refine RL.nil ?_
          refine NX.seq ?_
          refine TR.condT rfl ?_
          refine TR.open (fun w hw => (St.exOpen (show St w (Ex _ :: _) _ from hw))) (fun h => ?_)
          obtain ⟨v, hv1, hv2, hv3⟩ := kIdx_some hki
          have hjz : idxZ (some j) = ((j : Nat) : Int) := rfl
          have hjl : j < z.2.length := (List.getElem?_eq_some_iff.1 hv1).1
          refine TR.openP (fun w hw => own_at (i := 1) rfl (rq_ne hv1) hw) (fun gq hgq => ?_)
          refine TR.sub (E' := [(0, _), (1, _), (6, _), (7, _), (8, _), (9, _), (10, _), (11, _), (67, _), (68, _), (69, _), (70, _), (71, _), (72, _), (73, _), (76, _), (77, _), (78, _), (79, _), (80, _), (81, _), (82, _), (83, _), (84, _), (85, _), (86, _), (87, _), (88, _), (89, _), (90, _), (91, _), (92, _), (93, _), (94, _), (95, _), (96, _), (97, _), (98, _), (99, _), (100, _)]) ⟨rfl, rfl, rfl, rfl, rfl, rfl, rfl, rfl, rfl, rfl, rfl, rfl, rfl, rfl, rfl, rfl, rfl, rfl, rfl, rfl, rfl, rfl, rfl, rfl, rfl, rfl, rfl, rfl, rfl, rfl, rfl, rfl, rfl, rfl, rfl, rfl, rfl, rfl, rfl, rfl, trivial⟩ ?_
          refine TR.draw mixed ?_
          apply AR.more [(0, _), (1, _), (2, _), (3, _), (4, _), (5, _), (6, _)]
          refine AR.eff [0, 1, 2, 3, 4, 5, 6] 7 [0, 1, 2, 3, 4, 5, 6, 7] ⟨QOne.yes rfl rfl rfl (PV.move rfl), QOne.yes rfl rfl rfl (PV.nilCheck rfl), QOne.yes rfl rfl rfl (PV.fieldAddr ve_tf76_2 rfl), QOne.yes rfl rfl rfl (PV.load1 0 ve_ts73 rfl rfl rfl), QOne.yes rfl rfl rfl (PV.move rfl), QOne.yes rfl rfl rfl (PV.loadA 4 rfl rfl ve_ta105), QOne.yes rfl rfl rfl (PV.indexAddr ve_tl73 ve_tz105 (congrArg (fun a => some (Value.slice a _ _)) hgq) rfl (by omega) (by omega)), trivial⟩ rfl rfl rfl rfl rfl rfl rfl (EV.storeO (vs := [S xi.f.key, S xi.f.own.s, I xi.f.own.e, .slice xi.oa xi.f.tr.length xi.ca, .bool (cyR X own x), .bool true, I X.gets]) 1 rfl rfl rfl hgq ve_tz105 rfl (rq_room (o := 7) hv1 (by decide)) rfl) (fun _ => ?_)
          refine AR.done [6, 5, 0, 1, 2, 3, 4] rfl ?_
          refine AR.last [] [0, 1, 2, 3, 4, 5, 6, 7] trivial rfl rfl rfl ?_
          refine NX.sub (E' := [(0, _), (1, _), (6, _), (7, _), (8, _), (9, _), (10, _), (11, _), (67, _), (68, _), (69, _), (70, _), (71, _), (72, _), (73, _), (76, _), (77, _), (78, _), (79, _), (80, _), (81, _), (82, _), (83, _), (84, _), (85, _), (86, _), (87, _), (88, _), (89, _), (90, _), (91, _), (92, _), (93, _), (94, _), (95, _), (96, _), (97, _), (98, _), (99, _), (100, _), (101, _), (102, _), (103, _), (104, _), (105, _), (106, _), (107, _)]) ⟨rfl, rfl, rfl, rfl, rfl, rfl, rfl, rfl, rfl, rfl, rfl, rfl, rfl, rfl, rfl, rfl, rfl, rfl, rfl, rfl, rfl, rfl, rfl, rfl, rfl, rfl, rfl, rfl, rfl, rfl, rfl, rfl, rfl, rfl, rfl, rfl, rfl, rfl, rfl, rfl, rfl, rfl, rfl, rfl, rfl, rfl, rfl, trivial⟩ ?_
          refine NX.off ?_
          refine NX.seq ?_
          refine TR.region ?_
          refine RL.move rfl rfl rfl ?_
          refine RL.bin rfl rfl rfl (BinV.add ((z.1 + 1 : Nat) : Int) (by omega) (by omega) (by omega)) rfl ?_
          refine RL.assign rfl rfl rfl ?_
          refine RL.nil ?_
          refine NX.roundP (z.1 + 1, (aSet z.2 xi.f.key (rqO (cyR X own x) X.gets xi))) ⟨by omega, by omega, (putR_drop hxi).symm.trans hz.2.2.1, by show (aSet z.2 xi.f.key (rqO (cyR X own x) X.gets xi)).length + (X.fs.length - (z.1 + 1)) ≤ 100; have h7 : (aSet z.2 xi.f.key (rqO (cyR X own x) X.gets xi)).length ≤ z.2.length + 1 := aSet_len; omega⟩ (by show X.fs.length - (z.1 + 1) < X.fs.length - z.1; omega) ⟨rfl, rfl, rfl, rfl, rfl, trivial⟩ (fun w hw => (St.rebClose (({ X with qs := (aSet z.2 xi.f.key (rqO (cyR X own x) X.gets xi)) } : RX)) h (by show _ = [I bud, .slice ia X.inp.length ic, .slice h.la (aSet z.2 xi.f.key (rqO (cyR X own x) X.gets xi)).length h.lc, .slice h.ca X.comp.length h.cc, I X.gets, I (X.fuel : Nat), .bool false, .slice h.sa X.fs.length h.sc]; rw [hv3, List.length_set] <;> rfl) (by show _ = (aSet z.2 xi.f.key (rqO (cyR X own x) X.gets xi)).length; rw [hv3, List.length_set]) (by show _ = flC RQ.cs (aSet z.2 xi.f.key (rqO (cyR X own x) X.gets xi)); rw [hv3]; exact rq_set (o := 0) (vs := [S xi.f.key, S xi.f.own.s, I xi.f.own.e, .slice xi.oa xi.f.tr.length xi.ca, .bool (cyR X own x), .bool true, I X.gets]) hv1 (by show 0 + 7 ≤ 7; decide) rfl) rfl rfl rfl rfl (hw.to 7 [0, 1, 2, 3, 6] 0 [] rfl)))
      · skip
        have hi : X.fs.length ≤ z.1 := by have h8 := of_decide_eq_false h4; exact Int.ofNat_le.1 (Int.not_lt.1 h8)
        refine TR.openP (fun w hw => own_at (i := 3) rfl (rf_ne hx) hw) (fun gx hgx => ?_)
        refine TR.open1 (fun w hw => ⟨(hw.front (i := 3) rfl).ownLen, hw⟩) (fun hol => ?_)
        have hsc := hol.2
        refine TR.exit ?_
        refine NX.exitThen ?_
        refine NX.exitThen ?_
        refine NX.exitHere ?_
        refine NX.seq ?_
        refine TR.seq ?_
        refine TR.region ?_
        refine RL.move rfl rfl rfl ?_
        refine RL.nilCheck rfl rfl rfl ?_
        refine RL.fieldAddr rfl ve_tf76_7 rfl rfl ?_
        refine RL.load1 0 rfl ve_ts74 rfl rfl rfl rfl ?_
        refine RL.move rfl rfl rfl ?_
        refine RL.indexAddr rfl ve_tl74 ve_tz116 (congrArg (fun a => some (Value.slice a _ _)) hgx) rfl (by omega) (by omega) rfl ?_
        refine RL.fieldAddr rfl ve_tf116_3 rfl rfl ?_
        refine RL.loadS rfl rfl (own_agg (i := 3) (vs := [S x.f.own.s, I x.f.own.e]) rfl hgx ve_ta49 (rf_own hx)) rfl ?_
        refine RL.allocA rfl (Try.zeroValue49) rfl (fun b9 => ?_)
        refine RL.storeA 0 rfl rfl rfl rfl ve_tz49 rfl rfl ?_
        refine RL.nil ?_
        refine NX.seq ?_
        refine TR.seq ?_
        refine TR.region ?_
        refine RL.move rfl rfl rfl ?_
        refine RL.move rfl rfl rfl ?_
        refine RL.nilCheck rfl rfl rfl ?_
        refine RL.fieldAddr rfl ve_tf76_7 rfl rfl ?_
        refine RL.load1 1 rfl ve_ts74 rfl rfl rfl rfl ?_
        refine RL.move rfl rfl rfl ?_
        refine RL.sliceLH (l := 0) (h := own) rfl ve_tl74 ve_tz116 rfl (.inl ⟨rfl, rfl⟩) (.inr ⟨_, rfl, rfl⟩) (by omega) (by omega) rfl ?_
        refine RL.nilCheck rfl rfl rfl ?_
        refine RL.fieldAddr rfl ve_tf76_7 rfl rfl ?_
        refine RL.store1 1 rfl ve_ts74 rfl rfl rfl rfl rfl ?_
        refine RL.nil ?_
        refine NX.seq ?_
        refine TR.seq ?_
        refine TR.seq ?_
        refine TR.region ?_
        refine RL.move rfl rfl rfl ?_
        refine RL.nil ?_
        refine NX.seq ?_
        refine TR.cond rfl (fun h10 => ?_) (fun h10 => ?_)
        · skip
          have hc9 : cyR X own x = true := h10
          refine TR.seq ?_
          refine TR.region ?_
          refine RL.build rfl rfl (ve_bv49_1 _) rfl ?_
          refine RL.storeA 5 rfl rfl rfl rfl ve_tz49 rfl rfl ?_
          refine RL.nil ?_
          refine NX.seq ?_
          refine TR.ret ?_
          refine NX.retThen ?_
          have hse := settle_ren hnd hx
          have hq : putR (cyR X own x) X.gets (X.fs.drop own) X.qs = z.2 := by have h8 := hz.2.2.1; rw [List.drop_of_length_le (by omega)] at h8; exact h8.symm
          rw [hq] at hse
          have hlv : leave by_ own X.en = Go.GL.settle own X.en := leave_end (by show ¬ false = true; decide) (by rw [lowOf_is (ren_at hx)]; exact hlow)
          refine NX.retC (j := 5) (⟨({ X with qs := z.2, fs := X.fs.take own } : RX), by rw [hlv, hse], KpR.take⟩ : {Y : RX // Y.en = (leave by_ own X.en).2 ∧ KpR own X Y}) rfl rfl rfl ve_ta49 (by rw [hlv]; show _ = anV (Go.GL.settle own X.en).1; rw [hse]; show _ = anV (if cyR X own x = true then cycA else x.f.own); rw [if_pos hc9]; rfl) (fun w hw => ?_)
          have h1 := (hw.to 6 [4, 1, 2, 3] 0 [] rfl)
          have h2 := own_take own (by omega) (show St w (OwnSl 116 7 h.sa X.fs.length h.sc (flC RF.cs X.fs) :: _) _ from h1) (by rw [hgx]; simp)
          exact St.rebClose ({ X with qs := z.2, fs := X.fs.take own } : RX) h (show _ = [I bud, .slice ia X.inp.length ic, .slice h.la z.2.length h.lc, .slice h.ca X.comp.length h.cc, I X.gets, I (X.fuel : Nat), .bool false, .slice h.sa (X.fs.take own).length h.sc] from by rw [List.length_take, Nat.min_eq_left (by omega)]; show [I bud, .slice ia X.inp.length ic, .slice h.la z.2.length h.lc, .slice h.ca X.comp.length h.cc, I X.gets, I (X.fuel : Nat), .bool false, .slice (cutA h.sa 0 h.sc 7) (own - 0) (h.sc - 0)] = _; rw [(cutA_zero hgx).trans hgx.symm]; rfl) rfl rfl rfl rfl (by show own = (X.fs.take own).length; rw [List.length_take]; omega) (by show (flC RF.cs X.fs).take (own * 7) = flC RF.cs (X.fs.take own); exact flC_take RF.len _ _) (show St w (_ :: _ :: _ :: _ :: M) _ from h2.to 4 [1, 2, 3, 0] 0 [] rfl)
        · skip
          have hc9 : ¬ cyR X own x = true := by rw [h10]; decide
          refine TR.skip ?_
          refine NX.seq ?_
          refine TR.seq ?_
          refine TR.region ?_
          refine RL.loadA 0 rfl rfl rfl ve_ta49 rfl ?_
          refine RL.storeA 5 rfl rfl rfl rfl ve_tz49 rfl rfl ?_
          refine RL.nil ?_
          refine NX.seq ?_
          refine TR.ret ?_
          have hse := settle_ren hnd hx
          have hq : putR (cyR X own x) X.gets (X.fs.drop own) X.qs = z.2 := by have h8 := hz.2.2.1; rw [List.drop_of_length_le (by omega)] at h8; exact h8.symm
          rw [hq] at hse
          have hlv : leave by_ own X.en = Go.GL.settle own X.en := leave_end (by show ¬ false = true; decide) (by rw [lowOf_is (ren_at hx)]; exact hlow)
          refine NX.retC (j := 5) (⟨({ X with qs := z.2, fs := X.fs.take own } : RX), by rw [hlv, hse], KpR.take⟩ : {Y : RX // Y.en = (leave by_ own X.en).2 ∧ KpR own X Y}) rfl rfl rfl ve_ta49 (by rw [hlv]; show _ = anV (Go.GL.settle own X.en).1; rw [hse]; show _ = anV (if cyR X own x = true then cycA else x.f.own); rw [if_neg hc9]; rfl) (fun w hw => ?_)
          have h1 := (hw.to 6 [4, 1, 2, 3] 0 [] rfl)
          have h2 := own_take own (by omega) (show St w (OwnSl 116 7 h.sa X.fs.length h.sc (flC RF.cs X.fs) :: _) _ from h1) (by rw [hgx]; simp)
          exact St.rebClose ({ X with qs := z.2, fs := X.fs.take own } : RX) h (show _ = [I bud, .slice ia X.inp.length ic, .slice h.la z.2.length h.lc, .slice h.ca X.comp.length h.cc, I X.gets, I (X.fuel : Nat), .bool false, .slice h.sa (X.fs.take own).length h.sc] from by rw [List.length_take, Nat.min_eq_left (by omega)]; show [I bud, .slice ia X.inp.length ic, .slice h.la z.2.length h.lc, .slice h.ca X.comp.length h.cc, I X.gets, I (X.fuel : Nat), .bool false, .slice (cutA h.sa 0 h.sc 7) (own - 0) (h.sc - 0)] = _; rw [(cutA_zero hgx).trans hgx.symm]; rfl) rfl rfl rfl rfl (by show own = (X.fs.take own).length; rw [List.length_take]; omega) (by show (flC RF.cs X.fs).take (own * 7) = flC RF.cs (X.fs.take own); exact flC_take RF.len _ _) (show St w (_ :: _ :: _ :: _ :: M) _ from h2.to 4 [1, 2, 3, 0] 0 [] rfl)
    · skip
      have hslf : x.f.self = false := h3
      have hcy : cyR X own x = decide (own + 1 < X.fs.length) := by unfold cyR; rw [hslf]; rfl
      refine RL.move rfl rfl rfl ?_
      refine RL.nilCheck rfl rfl rfl ?_
      refine RL.fieldAddr rfl ve_tf76_7 rfl rfl ?_
      refine RL.load1 0 rfl ve_ts74 rfl rfl rfl rfl ?_
      refine RL.lenSlice rfl ve_tl74 rfl rfl ?_
      refine RL.move rfl rfl rfl ?_
      refine RL.bin rfl rfl rfl (BinV.add ((own + 1 : Nat) : Int) (by omega) (by omega) (by omega)) rfl ?_
      refine RL.bin rfl rfl rfl BinV.gtr rfl ?_
      refine RL.pickF rfl rfl rfl rfl ?_
      refine RL.assign rfl rfl rfl ?_
      refine RL.nil ?_
      refine NX.seq ?_
      refine TR.seq ?_
      refine TR.seq ?_
      refine TR.weak (fun w hw => St.rebClose (X) h rfl rfl rfl rfl rfl rfl rfl (show St w (_ :: _ :: _ :: _ :: _) _ from hw.toM 5 [0, 1, 2, 3, 4] rfl)) ?_
      refine TR.region ?_
      refine RL.move rfl rfl rfl ?_
      refine RL.assign rfl rfl rfl ?_
      refine RL.nil ?_
      refine NX.seq ?_
      refine TR.block ?_
      refine TR.loopP (ι := (Nat × List (Ky × RQ))) (fun z => own ≤ z.1 ∧ z.1 ≤ X.fs.length ∧ putR (cyR X own x) X.gets (X.fs.drop z.1) z.2 = putR (cyR X own x) X.gets (X.fs.drop own) X.qs ∧ z.2.length + (X.fs.length - z.1) ≤ 100) (fun z => [(0, PtV m), (1, I (own : Nat)), (6, PtV b1), (7, .bool (cyR X own x)), (8, I (z.1 : Nat))]) (fun z => REB m bud ia ic { X with qs := z.2 } :: Box b1 49 [S [], I 0] :: M) (fun z => F) (fun z => (X.fs.length - z.1)) (own, X.qs) ⟨Nat.le_refl _, Nat.le_of_lt hown, rfl, by show X.qs.length + (X.fs.length - own) ≤ 100; omega⟩ ⟨rfl, rfl, rfl, congrArg (fun b => some (Value.bool b)) (by rw [hcy]; exact decide_eq_decide.2 (by omega)), rfl, trivial⟩ (fun w hw => (hw.to 2 [0, 1] 0 [] rfl)) (fun z hz => ?_)
      refine TR.seq ?_
      refine TR.seq ?_
      refine TR.open (fun w hw => (St.exOpen (show St w (Ex _ :: _) _ from hw))) (fun h => ?_)
      have hXz : ({ X with qs := z.2 } : RX).fs.length = X.fs.length := rfl
      have hXq : ({ X with qs := z.2 } : RX).qs.length = z.2.length := rfl
      refine TR.region ?_
      refine RL.move rfl rfl rfl ?_
      refine RL.move rfl rfl rfl ?_
      refine RL.nilCheck rfl rfl rfl ?_
      refine RL.fieldAddr rfl ve_tf76_7 rfl rfl ?_
      refine RL.load1 0 rfl ve_ts74 rfl rfl rfl rfl ?_
      refine RL.lenSlice rfl ve_tl74 rfl rfl ?_
      refine RL.bin rfl rfl rfl BinV.lss rfl ?_
      refine RL.nil ?_
      refine NX.seq ?_
      refine TR.cond rfl (fun h11 => ?_) (fun h11 => ?_)
      · skip
        have hi : z.1 < X.fs.length := by have h8 := of_decide_eq_true h11; exact Int.ofNat_lt.1 h8
        obtain ⟨xi, hxi⟩ : ∃ xi, X.fs[z.1]? = some xi := ⟨_, List.getElem?_eq_getElem hi⟩
        refine TR.openP (fun w hw => own_at (i := 3) rfl (rf_ne hxi) hw) (fun gi hgi => ?_)
        refine TR.skip ?_
        refine NX.seq ?_
        refine TR.seq ?_
        refine TR.block ?_
        refine TR.seq ?_
        refine TR.region ?_
        refine RL.move rfl rfl rfl ?_
        refine RL.nilCheck rfl rfl rfl ?_
        refine RL.fieldAddr rfl ve_tf76_7 rfl rfl ?_
        refine RL.load1 0 rfl ve_ts74 rfl rfl rfl rfl ?_
        refine RL.move rfl rfl rfl ?_
        refine RL.indexAddr rfl ve_tl74 ve_tz116 (congrArg (fun a => some (Value.slice a _ _)) hgi) rfl (by omega) (by omega) rfl ?_
        refine RL.loadS rfl rfl (own_agg (i := 3) (vs := [S xi.f.key, I (xi.f.low : Nat), .bool xi.f.self, S xi.f.own.s, I xi.f.own.e, .slice xi.oa xi.f.tr.length xi.ca, .bool xi.an]) rfl hgi ve_ta116 (fun j v hj => rf_at hxi j hj)) rfl ?_
        refine RL.allocA rfl (Try.zeroValue116) rfl (fun b12 => ?_)
        refine RL.storeA 0 rfl rfl rfl rfl ve_tz116 rfl rfl ?_
        refine RL.nil ?_
        refine NX.seq ?_
        refine TR.seq ?_
        refine TR.sub (E' := [(0, _), (1, _), (6, _), (7, _), (8, _), (9, _), (67, _), (68, _), (69, _), (70, _), (71, _), (72, _), (73, _), (76, _), (77, _), (78, _), (79, _), (80, _), (81, _), (82, _)]) ⟨rfl, rfl, rfl, rfl, rfl, rfl, rfl, rfl, rfl, rfl, rfl, rfl, rfl, rfl, rfl, rfl, rfl, rfl, rfl, rfl, trivial⟩ ?_
        refine TR.draw mixed ?_
        apply AR.more [(0, _), (1, _), (2, _), (3, _), (4, _), (5, _), (6, _), (7, _), (8, _), (9, _), (10, _), (11, _)]
        refine AR.eff [0, 1, 2, 3, 4, 5, 6, 7, 8, 9, 10, 11] 12 [0, 1, 2, 3, 4, 5, 6, 7, 8, 9, 10, 11, 12, 13] ⟨QOne.yes rfl rfl rfl (PV.fieldAddr ve_tf116_0 rfl), QOne.yes rfl rfl rfl (PV.load1 0 ve_ts9 rfl rfl rfl), QOne.yes rfl rfl rfl (PV.fieldAddr ve_tf116_3 rfl), QOne.yes rfl rfl rfl (PV.loadS rfl (box_agg (vs := [_, _]) (i := 0) rfl ve_ta49 (agg2 rfl rfl))), QOne.yes rfl rfl rfl (PV.fieldAddr ve_tf116_4 rfl), QOne.yes rfl rfl rfl (PV.load1 0 ve_ts46 rfl rfl rfl), QOne.yes rfl rfl rfl (PV.move rfl), QOne.yes rfl rfl rfl (PV.move rfl), QOne.yes rfl rfl rfl (PV.nilCheck rfl), QOne.yes rfl rfl rfl (PV.fieldAddr ve_tf76_4 rfl), QOne.yes rfl rfl rfl (PV.load1 1 ve_ts3 rfl rfl rfl), QOne.yes rfl rfl rfl (PV.build rfl (ve_bv105_0_1_2_3_4_5 _ _ _ _ _ _ _ _ _)), trivial⟩ rfl rfl rfl rfl rfl rfl rfl (EV.allocA (Try.zeroValue105)) (fun b13 => ?_)
        refine AR.eff [0, 1, 2, 3, 4, 5, 6, 7, 8, 9, 10, 11] 13 [0, 1, 2, 3, 4, 5, 6, 7, 8, 9, 10, 11, 12, 13] ⟨QOne.yes rfl rfl rfl (PV.fieldAddr ve_tf116_0 rfl), QOne.yes rfl rfl rfl (PV.load1 1 ve_ts9 rfl rfl rfl), QOne.yes rfl rfl rfl (PV.fieldAddr ve_tf116_3 rfl), QOne.yes rfl rfl rfl (PV.loadS rfl (box_agg (vs := [_, _]) (i := 1) rfl ve_ta49 (agg2 rfl rfl))), QOne.yes rfl rfl rfl (PV.fieldAddr ve_tf116_4 rfl), QOne.yes rfl rfl rfl (PV.load1 1 ve_ts46 rfl rfl rfl), QOne.yes rfl rfl rfl (PV.move rfl), QOne.yes rfl rfl rfl (PV.move rfl), QOne.yes rfl rfl rfl (PV.nilCheck rfl), QOne.yes rfl rfl rfl (PV.fieldAddr ve_tf76_4 rfl), QOne.yes rfl rfl rfl (PV.load1 2 ve_ts3 rfl rfl rfl), QOne.yes rfl rfl rfl (PV.build rfl (ve_bv105_0_1_2_3_4_5 _ _ _ _ _ _ _ _ _)), trivial⟩ rfl rfl rfl rfl rfl rfl rfl (EV.storeA 0 rfl rfl rfl ve_tz105 rfl rfl) (fun _ => ?_)
        refine AR.done [11, 0, 1, 2, 3, 4, 5, 6, 7, 8, 9, 10] rfl ?_
        refine AR.last [] [0, 1, 2, 3, 4, 5, 6, 7, 8, 9, 10, 11, 12, 13] trivial rfl rfl rfl ?_
        refine NX.sub (E' := [(0, _), (1, _), (6, _), (7, _), (8, _), (9, _), (10, _), (67, _), (68, _), (69, _), (70, _), (71, _), (72, _), (73, _), (76, _), (77, _), (78, _), (79, _), (80, _), (81, _), (82, _), (83, _), (84, _), (85, _), (86, _), (87, _), (88, _), (89, _), (90, _), (91, _), (92, _), (93, _), (94, _)]) ⟨rfl, rfl, rfl, rfl, rfl, rfl, rfl, rfl, rfl, rfl, rfl, rfl, rfl, rfl, rfl, rfl, rfl, rfl, rfl, rfl, rfl, rfl, rfl, rfl, rfl, rfl, rfl, rfl, rfl, rfl, rfl, rfl, rfl, trivial⟩ ?_
        refine NX.seq ?_
        refine TR.seq ?_
        refine TR.weak (fun w hw => St.rebClose ({ X with qs := z.2 }) h rfl rfl rfl rfl rfl rfl rfl (show St w (_ :: _ :: _ :: _ :: _) _ from hw.toM 7 [2, 3, 4, 5, 0, 1, 6] rfl)) ?_
        refine TR.region ?_
        refine RL.move rfl rfl rfl ?_
        refine RL.fieldAddr rfl ve_tf116_0 rfl rfl ?_
        refine RL.load1 2 rfl ve_ts9 rfl rfl rfl rfl ?_
        refine RL.call rfl rfl Try.call50 rfl (rfind_spec (X := { X with qs := z.2 }) (k := xi.f.key) (by show z.2.length ≤ 1000; omega)) (fun _ => ?_)
        refine RL.assign rfl rfl rfl ?_
        refine RL.nil ?_
        refine NX.seq ?_
        refine TR.seq ?_
        refine TR.region ?_
        refine RL.move rfl rfl rfl ?_
        rcases hki : kIdx z.2 xi.f.key with _ | j
        · skip
          refine RL.bin rfl rfl rfl (BinV.to (d := false) BinV.geq (decide_eq_false (by show ¬ (0 : Int) ≤ -1; decide))) rfl ?_
          refine RL.nil ?_
          refine NX.seq ?_
          refine TR.condF rfl ?_
          refine TR.open (fun w hw => (St.exOpen (show St w (Ex _ :: _) _ from hw))) (fun h => ?_)
          obtain ⟨hv2, hv3⟩ := kIdx_none hki
          refine TR.sub (E' := [(0, _), (1, _), (6, _), (7, _), (8, _), (9, _), (10, _), (11, _), (67, _), (68, _), (69, _), (70, _), (71, _), (72, _), (73, _), (76, _), (77, _), (78, _), (79, _), (80, _), (81, _), (82, _), (83, _), (84, _), (85, _), (86, _), (87, _), (88, _), (89, _), (90, _), (91, _), (92, _), (93, _), (94, _), (95, _), (96, _), (97, _), (98, _), (99, _), (100, _)]) ⟨rfl, rfl, rfl, rfl, rfl, rfl, rfl, rfl, rfl, rfl, rfl, rfl, rfl, rfl, rfl, rfl, rfl, rfl, rfl, rfl, rfl, rfl, rfl, rfl, rfl, rfl, rfl, rfl, rfl, rfl, rfl, rfl, rfl, rfl, rfl, rfl, rfl, rfl, rfl, rfl, trivial⟩ ?_
          refine TR.draw mixed ?_
          apply AR.more [(0, _), (1, _), (2, _), (3, _), (4, _), (5, _)]
          refine AR.eff [0, 1, 2, 3, 4, 5] 6 [0, 1, 2, 3, 4, 5, 6, 7, 8, 9, 10] ⟨QOne.yes rfl rfl rfl (PV.move rfl), QOne.yes rfl rfl rfl (PV.move rfl), QOne.yes rfl rfl rfl (PV.nilCheck rfl), QOne.yes rfl rfl rfl (PV.fieldAddr ve_tf76_2 rfl), QOne.yes rfl rfl rfl (PV.load1 0 ve_ts73 rfl rfl rfl), QOne.yes rfl rfl rfl (PV.loadA 4 rfl rfl ve_ta105), trivial⟩ rfl rfl rfl rfl rfl rfl rfl (EV.buildSlice rfl (ve_bs73_1_0 _ _ _ _ _ _ _ _ _)) (fun b14 => ?_)
          refine AR.done [5] rfl ?_
          refine AR.eff [0, 1, 2, 3, 4] 7 [0, 1, 2, 3, 4, 5, 6, 7, 8, 9, 10] ⟨QOne.yes rfl rfl rfl (PV.move rfl), QOne.yes rfl rfl rfl (PV.move rfl), QOne.yes rfl rfl rfl (PV.nilCheck rfl), QOne.yes rfl rfl rfl (PV.fieldAddr ve_tf76_2 rfl), QOne.yes rfl rfl rfl (PV.load1 1 ve_ts73 rfl rfl rfl), trivial⟩ rfl rfl rfl rfl rfl rfl rfl (EV.ofGV (GV.append (j := 2) ve_tl73 ve_ni73 ve_te105 rfl rfl rfl (src_box (i := 0) rfl rfl rfl) (by omega) (by omega))) (fun yq => ?_)
          refine AR.done [4, 3, 2, 1] rfl ?_
          apply AR.more [(8, _), (9, _)]
          refine AR.eff [0, 8, 9] 10 [0, 1, 2, 3, 4, 5, 6, 7, 8, 9, 10] ⟨QOne.yes rfl rfl rfl (PV.move rfl), QOne.yes rfl rfl rfl (PV.nilCheck rfl), QOne.yes rfl rfl rfl (PV.fieldAddr ve_tf76_2 rfl), trivial⟩ rfl rfl rfl rfl rfl rfl rfl (EV.store1 1 ve_ts73 rfl rfl rfl rfl rfl) (fun _ => ?_)
          refine AR.done [9, 0, 8] rfl ?_
          refine AR.last [] [0, 1, 2, 3, 4, 5, 6, 7, 8, 9, 10] trivial rfl rfl rfl ?_
          refine NX.sub (E' := [(0, _), (1, _), (6, _), (7, _), (8, _), (9, _), (10, _), (11, _), (67, _), (68, _), (69, _), (70, _), (71, _), (72, _), (73, _), (76, _), (77, _), (78, _), (79, _), (80, _), (81, _), (82, _), (83, _), (84, _), (85, _), (86, _), (87, _), (88, _), (89, _), (90, _), (91, _), (92, _), (93, _), (94, _), (95, _), (96, _), (97, _), (98, _), (99, _), (100, _), (108, _), (109, _), (110, _), (111, _), (112, _), (113, _), (114, _), (115, _), (116, _), (117, _)]) ⟨rfl, rfl, rfl, rfl, rfl, rfl, rfl, rfl, rfl, rfl, rfl, rfl, rfl, rfl, rfl, rfl, rfl, rfl, rfl, rfl, rfl, rfl, rfl, rfl, rfl, rfl, rfl, rfl, rfl, rfl, rfl, rfl, rfl, rfl, rfl, rfl, rfl, rfl, rfl, rfl, rfl, rfl, rfl, rfl, rfl, rfl, rfl, rfl, rfl, rfl, trivial⟩ ?_
          refine NX.off ?_
          refine NX.seq ?_
          refine TR.region ?_
          refine RL.move rfl rfl rfl ?_
          refine RL.bin rfl rfl rfl (BinV.add ((z.1 + 1 : Nat) : Int) (by omega) (by omega) (by omega)) rfl ?_
          refine RL.assign rfl rfl rfl ?_
          refine RL.nil ?_
          refine NX.roundP (z.1 + 1, (aSet z.2 xi.f.key (rqO (cyR X own x) X.gets xi))) ⟨by omega, by omega, (putR_drop hxi).symm.trans hz.2.2.1, by show (aSet z.2 xi.f.key (rqO (cyR X own x) X.gets xi)).length + (X.fs.length - (z.1 + 1)) ≤ 100; have h7 : (aSet z.2 xi.f.key (rqO (cyR X own x) X.gets xi)).length ≤ z.2.length + 1 := aSet_len; omega⟩ (by show X.fs.length - (z.1 + 1) < X.fs.length - z.1; omega) ⟨rfl, rfl, rfl, rfl, rfl, trivial⟩ (fun w hw => (St.rebClose (({ X with qs := (aSet z.2 xi.f.key (rqO (cyR X own x) X.gets xi)) } : RX)) (⟨yq.1, yq.2, h.ca, h.cc, h.sa, h.sc⟩ : RH) (by show _ = [I bud, .slice ia X.inp.length ic, .slice yq.1 (aSet z.2 xi.f.key (rqO (cyR X own x) X.gets xi)).length yq.2, .slice h.ca X.comp.length h.cc, I X.gets, I (X.fuel : Nat), .bool false, .slice h.sa X.fs.length h.sc]; rw [hv3, List.length_append] <;> rfl) (by show _ = (aSet z.2 xi.f.key (rqO (cyR X own x) X.gets xi)).length; rw [hv3, List.length_append] <;> rfl) (by show _ = flC RQ.cs (aSet z.2 xi.f.key (rqO (cyR X own x) X.gets xi)); rw [hv3, flC_append, flC_one]; rfl) rfl rfl rfl rfl (hw.to 8 [1, 2, 3, 4, 7] 0 [] rfl)))
        · skip
          refine RL.bin rfl rfl rfl (BinV.to (d := true) BinV.geq (decide_eq_true (by show (0 : Int) ≤ ((j : Nat) : Int); omega))) rfl ?_
          refine RL.nil ?_
          refine NX.seq ?_
          refine TR.condT rfl ?_
          refine TR.open (fun w hw => (St.exOpen (show St w (Ex _ :: _) _ from hw))) (fun h => ?_)
          obtain ⟨v, hv1, hv2, hv3⟩ := kIdx_some hki
          have hjz : idxZ (some j) = ((j : Nat) : Int) := rfl
          have hjl : j < z.2.length := (List.getElem?_eq_some_iff.1 hv1).1
          refine TR.openP (fun w hw => own_at (i := 1) rfl (rq_ne hv1) hw) (fun gq hgq => ?_)
          refine TR.sub (E' := [(0, _), (1, _), (6, _), (7, _), (8, _), (9, _), (10, _), (11, _), (67, _), (68, _), (69, _), (70, _), (71, _), (72, _), (73, _), (76, _), (77, _), (78, _), (79, _), (80, _), (81, _), (82, _), (83, _), (84, _), (85, _), (86, _), (87, _), (88, _), (89, _), (90, _), (91, _), (92, _), (93, _), (94, _), (95, _), (96, _), (97, _), (98, _), (99, _), (100, _)]) ⟨rfl, rfl, rfl, rfl, rfl, rfl, rfl, rfl, rfl, rfl, rfl, rfl, rfl, rfl, rfl, rfl, rfl, rfl, rfl, rfl, rfl, rfl, rfl, rfl, rfl, rfl, rfl, rfl, rfl, rfl, rfl, rfl, rfl, rfl, rfl, rfl, rfl, rfl, rfl, rfl, trivial⟩ ?_
          refine TR.draw mixed ?_
          apply AR.more [(0, _), (1, _), (2, _), (3, _), (4, _), (5, _), (6, _)]
          refine AR.eff [0, 1, 2, 3, 4, 5, 6] 7 [0, 1, 2, 3, 4, 5, 6, 7] ⟨QOne.yes rfl rfl rfl (PV.move rfl), QOne.yes rfl rfl rfl (PV.nilCheck rfl), QOne.yes rfl rfl rfl (PV.fieldAddr ve_tf76_2 rfl), QOne.yes rfl rfl rfl (PV.load1 0 ve_ts73 rfl rfl rfl), QOne.yes rfl rfl rfl (PV.move rfl), QOne.yes rfl rfl rfl (PV.loadA 4 rfl rfl ve_ta105), QOne.yes rfl rfl rfl (PV.indexAddr ve_tl73 ve_tz105 (congrArg (fun a => some (Value.slice a _ _)) hgq) rfl (by omega) (by omega)), trivial⟩ rfl rfl rfl rfl rfl rfl rfl (EV.storeO (vs := [S xi.f.key, S xi.f.own.s, I xi.f.own.e, .slice xi.oa xi.f.tr.length xi.ca, .bool (cyR X own x), .bool true, I X.gets]) 1 rfl rfl rfl hgq ve_tz105 rfl (rq_room (o := 7) hv1 (by decide)) rfl) (fun _ => ?_)
          refine AR.done [6, 5, 0, 1, 2, 3, 4] rfl ?_
          refine AR.last [] [0, 1, 2, 3, 4, 5, 6, 7] trivial rfl rfl rfl ?_
          refine NX.sub (E' := [(0, _), (1, _), (6, _), (7, _), (8, _), (9, _), (10, _), (11, _), (67, _), (68, _), (69, _), (70, _), (71, _), (72, _), (73, _), (76, _), (77, _), (78, _), (79, _), (80, _), (81, _), (82, _), (83, _), (84, _), (85, _), (86, _), (87, _), (88, _), (89, _), (90, _), (91, _), (92, _), (93, _), (94, _), (95, _), (96, _), (97, _), (98, _), (99, _), (100, _), (101, _), (102, _), (103, _), (104, _), (105, _), (106, _), (107, _)]) ⟨rfl, rfl, rfl, rfl, rfl, rfl, rfl, rfl, rfl, rfl, rfl, rfl, rfl, rfl, rfl, rfl, rfl, rfl, rfl, rfl, rfl, rfl, rfl, rfl, rfl, rfl, rfl, rfl, rfl, rfl, rfl, rfl, rfl, rfl, rfl, rfl, rfl, rfl, rfl, rfl, rfl, rfl, rfl, rfl, rfl, rfl, rfl, trivial⟩ ?_
          refine NX.off ?_
          refine NX.seq ?_
          refine TR.region ?_
          refine RL.move rfl rfl rfl ?_
          refine RL.bin rfl rfl rfl (BinV.add ((z.1 + 1 : Nat) : Int) (by omega) (by omega) (by omega)) rfl ?_
          refine RL.assign rfl rfl rfl ?_
          refine RL.nil ?_
          refine NX.roundP (z.1 + 1, (aSet z.2 xi.f.key (rqO (cyR X own x) X.gets xi))) ⟨by omega, by omega, (putR_drop hxi).symm.trans hz.2.2.1, by show (aSet z.2 xi.f.key (rqO (cyR X own x) X.gets xi)).length + (X.fs.length - (z.1 + 1)) ≤ 100; have h7 : (aSet z.2 xi.f.key (rqO (cyR X own x) X.gets xi)).length ≤ z.2.length + 1 := aSet_len; omega⟩ (by show X.fs.length - (z.1 + 1) < X.fs.length - z.1; omega) ⟨rfl, rfl, rfl, rfl, rfl, trivial⟩ (fun w hw => (St.rebClose (({ X with qs := (aSet z.2 xi.f.key (rqO (cyR X own x) X.gets xi)) } : RX)) h (by show _ = [I bud, .slice ia X.inp.length ic, .slice h.la (aSet z.2 xi.f.key (rqO (cyR X own x) X.gets xi)).length h.lc, .slice h.ca X.comp.length h.cc, I X.gets, I (X.fuel : Nat), .bool false, .slice h.sa X.fs.length h.sc]; rw [hv3, List.length_set] <;> rfl) (by show _ = (aSet z.2 xi.f.key (rqO (cyR X own x) X.gets xi)).length; rw [hv3, List.length_set]) (by show _ = flC RQ.cs (aSet z.2 xi.f.key (rqO (cyR X own x) X.gets xi)); rw [hv3]; exact rq_set (o := 0) (vs := [S xi.f.key, S xi.f.own.s, I xi.f.own.e, .slice xi.oa xi.f.tr.length xi.ca, .bool (cyR X own x), .bool true, I X.gets]) hv1 (by show 0 + 7 ≤ 7; decide) rfl) rfl rfl rfl rfl (hw.to 7 [0, 1, 2, 3, 6] 0 [] rfl)))
      · skip
        have hi : X.fs.length ≤ z.1 := by have h8 := of_decide_eq_false h11; exact Int.ofNat_le.1 (Int.not_lt.1 h8)
        refine TR.openP (fun w hw => own_at (i := 3) rfl (rf_ne hx) hw) (fun gx hgx => ?_)
        refine TR.open1 (fun w hw => ⟨(hw.front (i := 3) rfl).ownLen, hw⟩) (fun hol => ?_)
        have hsc := hol.2
        refine TR.exit ?_
        refine NX.exitThen ?_
        refine NX.exitThen ?_
        refine NX.exitHere ?_
        refine NX.seq ?_
        refine TR.seq ?_
        refine TR.region ?_
        refine RL.move rfl rfl rfl ?_
        refine RL.nilCheck rfl rfl rfl ?_
        refine RL.fieldAddr rfl ve_tf76_7 rfl rfl ?_
        refine RL.load1 0 rfl ve_ts74 rfl rfl rfl rfl ?_
        refine RL.move rfl rfl rfl ?_
        refine RL.indexAddr rfl ve_tl74 ve_tz116 (congrArg (fun a => some (Value.slice a _ _)) hgx) rfl (by omega) (by omega) rfl ?_
        refine RL.fieldAddr rfl ve_tf116_3 rfl rfl ?_
        refine RL.loadS rfl rfl (own_agg (i := 3) (vs := [S x.f.own.s, I x.f.own.e]) rfl hgx ve_ta49 (rf_own hx)) rfl ?_
        refine RL.allocA rfl (Try.zeroValue49) rfl (fun b16 => ?_)
        refine RL.storeA 0 rfl rfl rfl rfl ve_tz49 rfl rfl ?_
        refine RL.nil ?_
        refine NX.seq ?_
        refine TR.seq ?_
        refine TR.region ?_
        refine RL.move rfl rfl rfl ?_
        refine RL.move rfl rfl rfl ?_
        refine RL.nilCheck rfl rfl rfl ?_
        refine RL.fieldAddr rfl ve_tf76_7 rfl rfl ?_
        refine RL.load1 1 rfl ve_ts74 rfl rfl rfl rfl ?_
        refine RL.move rfl rfl rfl ?_
        refine RL.sliceLH (l := 0) (h := own) rfl ve_tl74 ve_tz116 rfl (.inl ⟨rfl, rfl⟩) (.inr ⟨_, rfl, rfl⟩) (by omega) (by omega) rfl ?_
        refine RL.nilCheck rfl rfl rfl ?_
        refine RL.fieldAddr rfl ve_tf76_7 rfl rfl ?_
        refine RL.store1 1 rfl ve_ts74 rfl rfl rfl rfl rfl ?_
        refine RL.nil ?_
        refine NX.seq ?_
        refine TR.seq ?_
        refine TR.seq ?_
        refine TR.region ?_
        refine RL.move rfl rfl rfl ?_
        refine RL.nil ?_
        refine NX.seq ?_
        refine TR.cond rfl (fun h17 => ?_) (fun h17 => ?_)
        · skip
          have hc9 : cyR X own x = true := h17
          refine TR.seq ?_
          refine TR.region ?_
          refine RL.build rfl rfl (ve_bv49_1 _) rfl ?_
          refine RL.storeA 5 rfl rfl rfl rfl ve_tz49 rfl rfl ?_
          refine RL.nil ?_
          refine NX.seq ?_
          refine TR.ret ?_
          refine NX.retThen ?_
          have hse := settle_ren hnd hx
          have hq : putR (cyR X own x) X.gets (X.fs.drop own) X.qs = z.2 := by have h8 := hz.2.2.1; rw [List.drop_of_length_le (by omega)] at h8; exact h8.symm
          rw [hq] at hse
          have hlv : leave by_ own X.en = Go.GL.settle own X.en := leave_end (by show ¬ false = true; decide) (by rw [lowOf_is (ren_at hx)]; exact hlow)
          refine NX.retC (j := 5) (⟨({ X with qs := z.2, fs := X.fs.take own } : RX), by rw [hlv, hse], KpR.take⟩ : {Y : RX // Y.en = (leave by_ own X.en).2 ∧ KpR own X Y}) rfl rfl rfl ve_ta49 (by rw [hlv]; show _ = anV (Go.GL.settle own X.en).1; rw [hse]; show _ = anV (if cyR X own x = true then cycA else x.f.own); rw [if_pos hc9]; rfl) (fun w hw => ?_)
          have h1 := (hw.to 6 [4, 1, 2, 3] 0 [] rfl)
          have h2 := own_take own (by omega) (show St w (OwnSl 116 7 h.sa X.fs.length h.sc (flC RF.cs X.fs) :: _) _ from h1) (by rw [hgx]; simp)
          exact St.rebClose ({ X with qs := z.2, fs := X.fs.take own } : RX) h (show _ = [I bud, .slice ia X.inp.length ic, .slice h.la z.2.length h.lc, .slice h.ca X.comp.length h.cc, I X.gets, I (X.fuel : Nat), .bool false, .slice h.sa (X.fs.take own).length h.sc] from by rw [List.length_take, Nat.min_eq_left (by omega)]; show [I bud, .slice ia X.inp.length ic, .slice h.la z.2.length h.lc, .slice h.ca X.comp.length h.cc, I X.gets, I (X.fuel : Nat), .bool false, .slice (cutA h.sa 0 h.sc 7) (own - 0) (h.sc - 0)] = _; rw [(cutA_zero hgx).trans hgx.symm]; rfl) rfl rfl rfl rfl (by show own = (X.fs.take own).length; rw [List.length_take]; omega) (by show (flC RF.cs X.fs).take (own * 7) = flC RF.cs (X.fs.take own); exact flC_take RF.len _ _) (show St w (_ :: _ :: _ :: _ :: M) _ from h2.to 4 [1, 2, 3, 0] 0 [] rfl)
        · skip
          have hc9 : ¬ cyR X own x = true := by rw [h17]; decide
          refine TR.skip ?_
          refine NX.seq ?_
          refine TR.seq ?_
          refine TR.region ?_
          refine RL.loadA 0 rfl rfl rfl ve_ta49 rfl ?_
          refine RL.storeA 5 rfl rfl rfl rfl ve_tz49 rfl rfl ?_
          refine RL.nil ?_
          refine NX.seq ?_
          refine TR.ret ?_
          have hse := settle_ren hnd hx
          have hq : putR (cyR X own x) X.gets (X.fs.drop own) X.qs = z.2 := by have h8 := hz.2.2.1; rw [List.drop_of_length_le (by omega)] at h8; exact h8.symm
          rw [hq] at hse
          have hlv : leave by_ own X.en = Go.GL.settle own X.en := leave_end (by show ¬ false = true; decide) (by rw [lowOf_is (ren_at hx)]; exact hlow)
          refine NX.retC (j := 5) (⟨({ X with qs := z.2, fs := X.fs.take own } : RX), by rw [hlv, hse], KpR.take⟩ : {Y : RX // Y.en = (leave by_ own X.en).2 ∧ KpR own X Y}) rfl rfl rfl ve_ta49 (by rw [hlv]; show _ = anV (Go.GL.settle own X.en).1; rw [hse]; show _ = anV (if cyR X own x = true then cycA else x.f.own); rw [if_neg hc9]; rfl) (fun w hw => ?_)
          have h1 := (hw.to 6 [4, 1, 2, 3] 0 [] rfl)
          have h2 := own_take own (by omega) (show St w (OwnSl 116 7 h.sa X.fs.length h.sc (flC RF.cs X.fs) :: _) _ from h1) (by rw [hgx]; simp)
          exact St.rebClose ({ X with qs := z.2, fs := X.fs.take own } : RX) h (show _ = [I bud, .slice ia X.inp.length ic, .slice h.la z.2.length h.lc, .slice h.ca X.comp.length h.cc, I X.gets, I (X.fuel : Nat), .bool false, .slice h.sa (X.fs.take own).length h.sc] from by rw [List.length_take, Nat.min_eq_left (by omega)]; show [I bud, .slice ia X.inp.length ic, .slice h.la z.2.length h.lc, .slice h.ca X.comp.length h.cc, I X.gets, I (X.fuel : Nat), .bool false, .slice (cutA h.sa 0 h.sc 7) (own - 0) (h.sc - 0)] = _; rw [(cutA_zero hgx).trans hgx.symm]; rfl) rfl rfl rfl rfl (by show own = (X.fs.take own).length; rw [List.length_take]; omega) (by show (flC RF.cs X.fs).take (own * 7) = flC RF.cs (X.fs.take own); exact flC_take RF.len _ _) (show St w (_ :: _ :: _ :: _ :: M) _ from h2.to 4 [1, 2, 3, 0] 0 [] rfl)
end Go.Proofs.Ythefimaaeilefaa

namespace Go.Proofs.Ythefimaaeilefaa
open Go.GL
set_option linter.unusedVariables false
theorem vf_bs74_1_0 (x00 : List UInt8) (x01 : Int) (x02 : Bool) (x030 : List UInt8) (x031 : Int) (x04 : Option Addr) (x04n x04c : Nat) (x05 : Bool) : BuildSV Try.prog 74 116 1 [(0, .agg #[S x00, .int .i64 x01, .bool x02, S x030, .int .i64 x031, .slice x04 x04n x04c, .bool x05])] [S x00, .int .i64 x01, .bool x02, S x030, .int .i64 x031, .slice x04 x04n x04c, .bool x05] := fun w => by kernel_rfl
theorem vf_bv116_0_1 (x0 : List UInt8) (x1 : Int) : BuildV Try.prog 116 [(0, S x0), (1, .int .i64 x1)] (.agg #[S x0, .int .i64 x1, .bool false, S [], .int .i64 0, .slice none 0 0, .bool false]) := fun w => by kernel_rfl
theorem vf_bv49_1 (x1 : Int) : BuildV Try.prog 49 [(1, .int .i64 x1)] (.agg #[S [], .int .i64 x1]) := fun w => by kernel_rfl
theorem vf_ni74 : noInt Try.prog 74 = true := by kernel_rfl
theorem vf_ta105 : tyAgg Try.prog 105 7 = true := by kernel_rfl
theorem vf_ta49 : tyAgg Try.prog 49 2 = true := by kernel_rfl
theorem vf_te116 : tyElem Try.prog 116 7 88 = true := by kernel_rfl
theorem vf_tf105_4 : fieldOff Try.prog 105 4 5 = true := by kernel_rfl
theorem vf_tf105_5 : fieldOff Try.prog 105 5 6 = true := by kernel_rfl
theorem vf_tf116_1 : fieldOff Try.prog 116 1 1 = true := by kernel_rfl
theorem vf_tf116_2 : fieldOff Try.prog 116 2 2 = true := by kernel_rfl
theorem vf_tf51_1 : fieldOff Try.prog 51 1 1 = true := by kernel_rfl
theorem vf_tf76_1 : fieldOff Try.prog 76 1 1 = true := by kernel_rfl
theorem vf_tf76_2 : fieldOff Try.prog 76 2 2 = true := by kernel_rfl
theorem vf_tf76_4 : fieldOff Try.prog 76 4 4 = true := by kernel_rfl
theorem vf_tf76_6 : fieldOff Try.prog 76 6 6 = true := by kernel_rfl
theorem vf_tf76_7 : fieldOff Try.prog 76 7 7 = true := by kernel_rfl
theorem vf_tl46 : tySlice Try.prog 46 51 = true := by kernel_rfl
theorem vf_tl73 : tySlice Try.prog 73 105 = true := by kernel_rfl
theorem vf_tl74 : tySlice Try.prog 74 116 = true := by kernel_rfl
theorem vf_ts3 : tyScalar Try.prog 3 = true := by kernel_rfl
theorem vf_ts4 : tyScalar Try.prog 4 = true := by kernel_rfl
theorem vf_ts46 : tyScalar Try.prog 46 = true := by kernel_rfl
theorem vf_ts73 : tyScalar Try.prog 73 = true := by kernel_rfl
theorem vf_ts74 : tyScalar Try.prog 74 = true := by kernel_rfl
theorem vf_tz105 : tySize Try.prog 105 7 = true := by kernel_rfl
theorem vf_tz116 : tySize Try.prog 116 7 = true := by kernel_rfl
theorem vf_tz3 : tySize Try.prog 3 1 = true := by kernel_rfl
theorem vf_tz4 : tySize Try.prog 4 1 = true := by kernel_rfl
theorem vf_tz49 : tySize Try.prog 49 2 = true := by kernel_rfl
theorem vf_tz51 : tySize Try.prog 51 3 = true := by kernel_rfl
theorem run_inA {P : Program} {w : World} {K : List Nat} {b off T : Nat} {l : List (Ky × List UInt8)} {i : Nat} {p : Ky × List UInt8} (h : CellsAt w K b off (inA l)) (hT : tyAgg P T 2 = true) (hp : l[i]? = some p) : Reads P w T ⟨b, off + ((i : Nat) : Int).toNat * 3 + 1, none⟩ (anV ⟨p.2, 0⟩) := by
  obtain ⟨h1, h2, h3⟩ := inA_at hp
  rw [Nat.add_assoc]
  refine run_loadCellsAt (cs := [S p.2, I 0]) (h.at (o := ((i : Nat) : Int).toNat * 3 + 1) fun j v hv => ?_) hT
  rw [Int.toNat_natCast]
  match j, hv with
  | 0, hv => exact h2.trans hv
  | 1, hv => exact h3.trans hv
  | j + 2, hv => simp at hv
def pshR (X : RX) (k : Ky) : RX := { X with fs := X.fs ++ [⟨⟨k, X.fs.length, false, nilA, []⟩, none, 0, false⟩] }
theorem rpush_en {X : RX} {k : Ky} : (pshR X k).en = push X.en k := by
  show (⟨X.inp, _, X.comp, X.gets, X.fuel, false, (X.fs ++ [_]).map RF.f⟩ : En) = _
  rw [List.map_append]
  unfold push
  rw [ren_len]; rfl
theorem KpR.push {X : RX} {k : Ky} : KpR X.fs.length X (pshR X k) := ⟨fun i x hi hx => ⟨x, by show (X.fs ++ [_])[i]? = _; rw [List.getElem?_append_left hi]; exact hx, rfl, rfl, rfl, rfl⟩⟩
theorem psh_at {X : RX} {k : Ky} : (pshR X k).fs[X.fs.length]? = some ⟨⟨k, X.fs.length, false, nilA, []⟩, none, 0, false⟩ := by
  show (X.fs ++ [_])[X.fs.length]? = _
  rw [List.getElem?_append_right (Nat.le_refl _), Nat.sub_self]; rfl
theorem psh_ok {d : Nat} {X : RX} {k : Ky} (h : ROk UR (d + 1) 0 X) (hk : k ∈ UR) (hx : frIdx X.en.st k = none) (hq : aGet X.en.qs k = none) : ROk UR d 1 (pshR X k) := by
  have hn : ¬ Kn X.en k := fun hn => hn.elim (fun hn => hn (by rw [okOf_all h.all]; exact hq)) fun hn => by
    obtain ⟨f, hf, hfk⟩ := List.mem_map.1 hn
    exact frIdx_none hx f hf hfk
  refine ⟨by rw [rpush_en]; exact push_wk h.wk hk hx, ?_, ?_, by rw [rpush_en]; exact h.all, h.su, by rw [rpush_en]; exact h.qu.same rfl⟩
  · show UR.length + 1 ≤ (X.fs ++ [_]).length + d
    rw [List.length_append]
    have := h.dep
    simp only [List.length_cons, List.length_nil]; omega
  · rw [rpush_en]
    have h1 := push_pot hk hn
    have h2 := h.rich.2
    exact ⟨h.rich.1, by show _ ≤ X.en.fuel; omega⟩
theorem rtouch_en {X : RX} {k : Ky} {v : RQ} : ({ X with qs := aSet X.qs k ⟨{ v.q with used := X.gets }, v.oa, v.ca⟩ } : RX).en = touch X.en k v.q := by
  show (⟨X.inp, (aSet X.qs k _).map _, X.comp, X.gets, X.fuel, false, X.fs.map RF.f⟩ : En) = _
  rw [rqs_set]; rfl
theorem rhit_en {X : RX} {b i : Nat} {xb xi : RF} (hb : X.fs[b]? = some xb) (hi : X.fs[i]? = some xi) : ({ X with fs := X.fs.set b ⟨{ xb.f with low := min (min xb.f.low xi.f.low) i, self := xb.f.self || decide (i = b) }, xb.oa, xb.ca, xb.an⟩ } : RX).en = hit X.en (some b) i := by
  have h := ren_set (X := X) (b := b) (x := xb) (y := ⟨{ xb.f with low := min (min xb.f.low xi.f.low) i, self := xb.f.self || decide (i = b) }, xb.oa, xb.ca, xb.an⟩) (F := fun g => { g with low := min (min g.low xi.f.low) i, self := g.self || decide (i = b) }) hb rfl
  rw [h]
  unfold hit
  simp only
  rw [ren_at hi]
theorem rframe_at {X : RX} {k : Ky} {i : Nat} (h : frIdx (X.fs.map RF.f) k = some i) : ∃ xi, X.fs[i]? = some xi := by
  obtain ⟨f, hf, _⟩ := frIdx_some h
  rw [List.getElem?_map] at hf
  obtain ⟨y, hy, _⟩ := Option.map_eq_some_iff.1 hf
  exact ⟨y, hy⟩
theorem rby_some {X : RX} {by_ : Option Nat} {bv : Int} {i : Nat} {xi : RF} (h : ByR X by_ bv) (hi : X.fs[i]? = some xi) : ∃ (b : Nat) (xb : RF), by_ = some b ∧ X.fs[b]? = some xb ∧ bv = ((b : Nat) : Int) := by
  rcases h with ⟨_, _, h0⟩ | h
  · rw [h0] at hi; simp at hi
  · exact h
set_option maxHeartbeats 2000000 in
theorem robtain_step {m : Nat} {bud : Int} {ia : Option Addr} {ic : Nat} {X : RX} {M : List HP} {F : List Fact} {d : Nat} {k : Ky} {by_ : Option Nat} {bv : Int} (hob : ROb m bud ia ic d) (hX : ROk UR (d + 1) 0 X) (hk : k ∈ UR) (hby : ByR X by_ bv) (hin : ArrF ia (inA X.inp) ∈ F) (hil : X.inp.length ≤ 1000) (hg0 : 0 ≤ X.gets) (hg1 : X.gets ≤ 1099511627776) : Ctr Try.prog 56 [PtV m, S k, I bv] (REB m bud ia ic (X) :: M) F {Y : RX // Y.en = (obt ruleR (d + 1) k by_ X.en).2 ∧ KpR X.fs.length X Y} (fun _ => anV (obt ruleR (d + 1) k by_ X.en).1) (fun Y => REB m bud ia ic (Y.1) :: M) (fun _ => F) := by
  refine Ctr.body Try.func56 rfl rfl ?_
  refine TR.seq ?_
  refine TR.region ?_
  refine RL.allocA rfl (Try.zeroValue49) rfl (fun b1 => ?_)
  refine RL.nil ?_
  refine NX.seq ?_
  refine TR.seq ?_
  refine TR.seq ?_
  refine TR.pick 2 [1, 0] rfl ?_
  refine TR.open (fun w hw => (St.exOpen (show St w (Ex _ :: _) _ from hw))) (fun h => ?_)
  have hXl : X.fs.length ≤ 21 := by have h9 := hX.wk.len; rw [ren_len] at h9; exact Nat.le_trans h9 (by decide)
  have hql : X.qs.length ≤ 21 := Nat.le_trans hX.ql (by decide)
  have ho : ¬ X.en.out = true := by rw [hX.rich.1]; decide
  refine TR.region ?_
  refine RL.move rfl rfl rfl ?_
  refine RL.nilCheck rfl rfl rfl ?_
  refine RL.fieldAddr rfl vf_tf76_6 rfl rfl ?_
  refine RL.load1 0 rfl vf_ts4 rfl rfl rfl rfl ?_
  refine RL.nil ?_
  refine NX.seq ?_
  refine TR.condF rfl ?_
  refine TR.skip ?_
  refine NX.seq ?_
  refine TR.seq ?_
  refine TR.weak (fun w hw => St.rebClose (X) h rfl rfl rfl rfl rfl rfl rfl (show St w (_ :: _ :: _ :: _ :: _) _ from hw.toM 5 [0, 1, 2, 3, 4] rfl)) ?_
  refine TR.region ?_
  refine RL.move rfl rfl rfl ?_
  refine RL.move rfl rfl rfl ?_
  refine RL.call rfl rfl Try.call49 rfl (rinput_spec (k := k) hin hil) (fun _ => ?_)
  rcases hii : kIdx X.inp k with _ | i
  · skip
    refine RL.assign rfl rfl rfl ?_
    refine RL.nil ?_
    refine NX.seq ?_
    refine TR.seq ?_
    refine TR.seq ?_
    refine TR.region ?_
    refine RL.move rfl rfl rfl ?_
    refine RL.bin rfl rfl rfl (BinV.to (d := false) BinV.geq (decide_eq_false (by show ¬ (0 : Int) ≤ -1; decide))) rfl ?_
    refine RL.nil ?_
    refine NX.seq ?_
    refine TR.condF rfl ?_
    refine TR.skip ?_
    refine NX.seq ?_
    refine TR.seq ?_
    have hin0 : aGet X.en.inp k = none := (kIdx_none hii).1
    refine TR.region ?_
    refine RL.move rfl rfl rfl ?_
    refine RL.move rfl rfl rfl ?_
    refine RL.call rfl rfl Try.call66 rfl (rframe_spec (k := k) (by omega)) (fun _ => ?_)
    rcases hfi : frIdx (X.fs.map RF.f) k with _ | i
    · skip
      refine RL.assign rfl rfl rfl ?_
      refine RL.nil ?_
      refine NX.seq ?_
      refine TR.seq ?_
      refine TR.seq ?_
      refine TR.region ?_
      refine RL.move rfl rfl rfl ?_
      refine RL.bin rfl rfl rfl (BinV.to (d := false) BinV.geq (decide_eq_false (by show ¬ (0 : Int) ≤ -1; decide))) rfl ?_
      refine RL.nil ?_
      refine NX.seq ?_
      refine TR.condF rfl ?_
      refine TR.skip ?_
      refine NX.seq ?_
      refine TR.seq ?_
      refine TR.region ?_
      refine RL.move rfl rfl rfl ?_
      refine RL.move rfl rfl rfl ?_
      refine RL.call rfl rfl Try.call50 rfl (rfind_spec (k := k) (by omega)) (fun _ => ?_)
      rcases hqi : kIdx X.qs k with _ | j
      · skip
        refine RL.assign rfl rfl rfl ?_
        refine RL.nil ?_
        refine NX.seq ?_
        refine TR.seq ?_
        refine TR.seq ?_
        refine TR.open (fun w hw => (St.exOpen (show St w (Ex _ :: _) _ from hw))) (fun h => ?_)
        obtain ⟨hv2, hv3⟩ := kIdx_none hqi
        have hqe : aGet X.en.qs k = none := by rw [rqs_get, hv2]; rfl
        have hno : okOf X.en.qs k = none := by rw [okOf_all hX.all]; exact hqe
        refine TR.region ?_
        refine RL.move rfl rfl rfl ?_
        refine RL.bin rfl rfl rfl (BinV.to (d := false) BinV.geq (decide_eq_false (by show ¬ (0 : Int) ≤ -1; decide))) rfl ?_
        refine RL.move rfl rfl rfl ?_
        refine RL.skip rfl rfl rfl ?_
        refine RL.skip rfl rfl rfl ?_
        refine RL.skip rfl rfl rfl ?_
        refine RL.skip rfl rfl rfl ?_
        refine RL.skip rfl rfl rfl ?_
        refine RL.skip rfl rfl rfl ?_
        refine RL.skip rfl rfl rfl ?_
        refine RL.skip rfl rfl rfl ?_
        refine RL.pickF rfl rfl rfl rfl ?_
        refine RL.nil ?_
        refine NX.seq ?_
        refine TR.condF rfl ?_
        refine TR.skip ?_
        refine NX.seq ?_
        refine TR.seq ?_
        refine TR.region ?_
        refine RL.move rfl rfl rfl ?_
        refine RL.nilCheck rfl rfl rfl ?_
        refine RL.fieldAddr rfl vf_tf76_7 rfl rfl ?_
        refine RL.load1 0 rfl vf_ts74 rfl rfl rfl rfl ?_
        refine RL.lenSlice rfl vf_tl74 rfl rfl ?_
        refine RL.assign rfl rfl rfl ?_
        refine RL.nil ?_
        refine NX.seq ?_
        refine TR.seq ?_
        refine TR.region ?_
        refine RL.move rfl rfl rfl ?_
        refine RL.move rfl rfl rfl ?_
        refine RL.nilCheck rfl rfl rfl ?_
        refine RL.fieldAddr rfl vf_tf76_7 rfl rfl ?_
        refine RL.load1 0 rfl vf_ts74 rfl rfl rfl rfl ?_
        refine RL.move rfl rfl rfl ?_
        refine RL.move rfl rfl rfl ?_
        refine RL.build rfl rfl (vf_bv116_0_1 _ _) rfl ?_
        refine RL.buildSlice rfl rfl (vf_bs74_1_0 _ _ _ _ _ _ _ _ _) rfl (fun b2 => ?_)
        refine RL.ofGV rfl rfl (GV.append (j := 4) vf_tl74 vf_ni74 vf_te116 rfl rfl rfl (src_box (i := 0) rfl rfl rfl) (by omega) (by omega)) (fun ys => ?_)
        refine RL.nilCheck rfl rfl rfl ?_
        refine RL.fieldAddr rfl vf_tf76_7 rfl rfl ?_
        refine RL.store1 1 rfl vf_ts74 rfl rfl rfl rfl rfl ?_
        refine RL.nil ?_
        refine NX.seq ?_
        refine TR.seq ?_
        refine TR.region ?_
        refine RL.move rfl rfl rfl ?_
        refine RL.bin rfl rfl rfl (BinV.to (d := false) BinV.geq (decide_eq_false (by show ¬ (0 : Int) ≤ -1; decide))) rfl ?_
        refine RL.assign rfl rfl rfl ?_
        refine RL.nil ?_
        refine NX.seq ?_
        refine TR.seq ?_
        refine TR.seq ?_
        refine TR.region ?_
        refine RL.move rfl rfl rfl ?_
        refine RL.nil ?_
        refine NX.seq ?_
        refine TR.condF rfl ?_
        refine TR.skip ?_
        refine NX.seq ?_
        refine TR.seq ?_
        refine TR.seq ?_
        refine TR.region ?_
        refine RL.move rfl rfl rfl ?_
        refine RL.not rfl rfl rfl ?_
        refine RL.move rfl rfl rfl ?_
        refine RL.move rfl rfl rfl ?_
        refine RL.nilCheck rfl rfl rfl ?_
        refine RL.fieldAddr rfl vf_tf76_6 rfl rfl ?_
        refine RL.load1 1 rfl vf_ts4 rfl rfl rfl rfl ?_
        refine RL.not rfl rfl rfl ?_
        refine RL.pickT rfl rfl rfl rfl ?_
        refine RL.nil ?_
        refine NX.seq ?_
        refine TR.condT rfl ?_
        refine TR.weak (fun w hw => St.rebClose ((pshR X k)) (⟨h.la, h.lc, h.ca, h.cc, ys.1, ys.2⟩ : RH) (by show _ = [I bud, .slice ia X.inp.length ic, .slice h.la X.qs.length h.lc, .slice h.ca X.comp.length h.cc, I X.gets, I (X.fuel : Nat), .bool false, .slice ys.1 (X.fs ++ [_]).length ys.2]; rw [List.length_append]; rfl) rfl rfl rfl rfl (by show _ = (X.fs ++ [_]).length; rw [List.length_append]; rfl) (by show _ = flC RF.cs (X.fs ++ [_]); rw [flC_append, flC_one]; rfl) (show St w (_ :: _ :: _ :: _ :: _) _ from hw.toM 6 [1, 2, 3, 4, 0, 5] rfl)) ?_
        refine TR.region ?_
        refine RL.move rfl rfl rfl ?_
        refine RL.move rfl rfl rfl ?_
        refine RL.move rfl rfl rfl ?_
        refine RL.call rfl rfl Try.call68 rfl (rcompute_spec (X := pshR X k) (own := X.fs.length) hob (psh_ok hX hk hfi hqe) hk psh_at rfl rfl hin hil hg0 hg1) (fun Z => ?_)
        obtain ⟨Z, hZe, hZk, z, hz, hzk⟩ := Z
        dsimp only
        have hZv : Z.en = visit (fun k b e => obt ruleR d k (some b) e) (ruleR k) k X.en := by rw [hZe, rpush_en]; exact ((visit_new hqe).trans (by rw [ren_len])).symm
        have hvw := visit_wk (obt_wob ruleR_k d) (ruleR_k k hk) hk hfi hX.wk
        have hvq := visit_qu (obt_wob ruleR_k d) (fun k b e => obt_qu ruleR_k d k (some b) e) (ruleR_k k hk) hk hfi hX.wk hX.qu
        rw [← hZv] at hvw hvq
        have hZq : Z.qs.length ≤ 21 := by have h7 := hvq.len; rw [show Z.en.qs.length = Z.qs.length from List.length_map _] at h7; exact Nat.le_trans h7 (by decide)
        refine RL.nil ?_
        refine NX.seq ?_
        refine TR.seq ?_
        refine TR.seq ?_
        refine TR.open (fun w hw => (St.exOpen (show St w (Ex _ :: _) _ from hw))) (fun h => ?_)
        refine TR.region ?_
        refine RL.move rfl rfl rfl ?_
        refine RL.nilCheck rfl rfl rfl ?_
        refine RL.fieldAddr rfl vf_tf76_6 rfl rfl ?_
        refine RL.load1 0 rfl vf_ts4 rfl rfl rfl rfl ?_
        refine RL.nil ?_
        refine NX.seq ?_
        refine TR.condF rfl ?_
        refine TR.skip ?_
        refine NX.seq ?_
        refine TR.seq ?_
        refine TR.weak (fun w hw => St.rebClose (Z) h rfl rfl rfl rfl rfl rfl rfl (show St w (_ :: _ :: _ :: _ :: _) _ from hw.toM 6 [0, 1, 2, 3, 4, 5] rfl)) ?_
        refine TR.region ?_
        refine RL.move rfl rfl rfl ?_
        refine RL.move rfl rfl rfl ?_
        refine RL.move rfl rfl rfl ?_
        refine RL.call rfl rfl Try.call69 rfl (rclose_spec (X := Z) (own := X.fs.length) (by_ := by_) hvw.1 hZq hvw.1.nd hz (hby.elim (fun h => .inl ⟨h.1, h.2.1, by rw [h.2.2]; rfl⟩) (fun ⟨b, x, h1, h2, h3⟩ => by
          have hbl := (List.getElem?_eq_some_iff.1 h2).1
          obtain ⟨y, hy, _⟩ := KpR.push.kp b x hbl h2
          obtain ⟨y2, hy2, _⟩ := hZk.kp b y hbl hy
          exact .inr ⟨b, y2, h1, hy2, h3, hbl⟩))) (fun Y => ?_)
        obtain ⟨Y, hYe, hYk⟩ := Y
        dsimp only
        refine RL.storeA 2 rfl rfl rfl rfl vf_tz49 rfl rfl ?_
        refine RL.nil ?_
        refine NX.seq ?_
        refine TR.ret ?_
        have hlaw : obt ruleR (d + 1) k by_ X.en = leave by_ X.fs.length Z.en := (ob_go (rule := ruleR) (d := d) (k := k) (by_ := by_) (e := X.en) ho hin0 hfi hno).trans (by rw [← hZv, ren_len])
        refine NX.retC (j := 2) (⟨Y, by rw [hlaw]; exact hYe, KpR.push.trans (hZk.trans hYk)⟩ : {Y : RX // Y.en = (obt ruleR (d + 1) k by_ X.en).2 ∧ KpR X.fs.length X Y}) rfl rfl rfl vf_ta49 (by rw [hlaw]; rfl) (fun w hw => ?_)
        exact (hw.to 3 [0] 0 [] rfl)
      · skip
        refine RL.assign rfl rfl rfl ?_
        refine RL.nil ?_
        refine NX.seq ?_
        refine TR.seq ?_
        refine TR.seq ?_
        refine TR.open (fun w hw => (St.exOpen (show St w (Ex _ :: _) _ from hw))) (fun h => ?_)
        obtain ⟨v, hv1, hv2, hv3⟩ := kIdx_some hqi
        have hqe : aGet X.en.qs k = some v.q := by rw [rqs_get, hv2]; rfl
        have hvok : v.q.ok = true := hX.all k v.q hqe
        have hok : okOf X.en.qs k = some v.q := by rw [okOf_all hX.all]; exact hqe
        have hjz : idxZ (some j) = ((j : Nat) : Int) := rfl
        have hjl : j < X.qs.length := (List.getElem?_eq_some_iff.1 hv1).1
        refine TR.openP (fun w hw => own_at (i := 1) rfl (rq_ne hv1) hw) (fun gq hgq => ?_)
        refine TR.region ?_
        refine RL.move rfl rfl rfl ?_
        refine RL.bin rfl rfl rfl (BinV.to (d := true) BinV.geq (decide_eq_true (by show (0 : Int) ≤ ((j : Nat) : Int); omega))) rfl ?_
        refine RL.move rfl rfl rfl ?_
        refine RL.move rfl rfl rfl ?_
        refine RL.nilCheck rfl rfl rfl ?_
        refine RL.fieldAddr rfl vf_tf76_2 rfl rfl ?_
        refine RL.load1 0 rfl vf_ts73 rfl rfl rfl rfl ?_
        refine RL.move rfl rfl rfl ?_
        refine RL.indexAddr rfl vf_tl73 vf_tz105 (congrArg (fun a => some (Value.slice a _ _)) hgq) rfl (by omega) (by omega) rfl ?_
        refine RL.fieldAddr rfl vf_tf105_4 rfl rfl ?_
        refine RL.loadS rfl rfl (own_one (v := .bool true) (i := 1) rfl hgq vf_ts4 (rq_at hv1 5 (show some (Value.bool v.q.ok) = _ from by rw [hvok]))) rfl ?_
        refine RL.pickT rfl rfl rfl rfl ?_
        refine RL.nil ?_
        refine NX.seq ?_
        refine TR.condT rfl ?_
        refine TR.seq ?_
        refine TR.sub (E' := [(0, _), (1, _), (2, _), (6, _), (9, _)]) ⟨rfl, rfl, rfl, rfl, rfl, trivial⟩ ?_
        refine TR.draw mixed ?_
        apply AR.more [(0, _), (1, _), (2, _), (3, _), (4, _), (5, _), (6, _), (7, _), (8, _), (9, _), (10, _)]
        refine AR.eff [0, 1, 2, 3, 4, 5, 6, 7, 8, 9, 10] 11 [0, 1, 2, 3, 4, 5, 6, 7, 8, 9, 10, 11] ⟨QOne.yes rfl rfl rfl (PV.move rfl), QOne.yes rfl rfl rfl (PV.nilCheck rfl), QOne.yes rfl rfl rfl (PV.fieldAddr vf_tf76_2 rfl), QOne.yes rfl rfl rfl (PV.load1 0 vf_ts73 rfl rfl rfl), QOne.yes rfl rfl rfl (PV.move rfl), QOne.yes rfl rfl rfl (PV.move rfl), QOne.yes rfl rfl rfl (PV.nilCheck rfl), QOne.yes rfl rfl rfl (PV.fieldAddr vf_tf76_4 rfl), QOne.yes rfl rfl rfl (PV.load1 0 vf_ts3 rfl rfl rfl), QOne.yes rfl rfl rfl (PV.indexAddr vf_tl73 vf_tz105 (congrArg (fun a => some (Value.slice a _ _)) hgq) rfl (by omega) (by omega)), QOne.yes rfl rfl rfl (PV.fieldAddr vf_tf105_5 rfl), trivial⟩ rfl rfl rfl rfl rfl rfl rfl (EV.storeO (vs := [I X.gets]) 1 rfl rfl rfl hgq vf_tz3 rfl (rq_room (o := 7) hv1 (by decide)) rfl) (fun _ => ?_)
        refine AR.done [10, 8, 0, 1, 2, 3, 4, 5, 6, 7, 9] rfl ?_
        refine AR.last [] [0, 1, 2, 3, 4, 5, 6, 7, 8, 9, 10, 11] trivial rfl rfl rfl ?_
        refine NX.sub (E' := [(0, _), (1, _), (2, _), (6, _), (9, _)]) ⟨rfl, rfl, rfl, rfl, rfl, trivial⟩ ?_
        refine NX.seq ?_
        refine TR.seq ?_
        refine TR.weak (fun w hw => St.rebClose (({ X with qs := aSet X.qs k (⟨{ v.q with used := X.gets }, v.oa, v.ca⟩ : RQ) } : RX)) h (by show _ = [I bud, .slice ia X.inp.length ic, .slice h.la (aSet X.qs k _).length h.lc, .slice h.ca X.comp.length h.cc, I X.gets, I (X.fuel : Nat), .bool false, .slice h.sa X.fs.length h.sc]; rw [hv3, List.length_set] <;> rfl) (by show _ = (aSet X.qs k _).length; rw [hv3, List.length_set] <;> rfl) (by show _ = flC RQ.cs (aSet X.qs k _); rw [hv3]; exact rq_set (o := 6) (vs := [I X.gets]) hv1 (by show 6 + 1 ≤ 7; decide) rfl) rfl rfl rfl rfl (show St w (_ :: _ :: _ :: _ :: _) _ from hw.toM 5 [0, 1, 2, 3, 4] rfl)) ?_
        have hxt : ({ X with qs := aSet X.qs k (⟨{ v.q with used := X.gets }, v.oa, v.ca⟩ : RQ) } : RX).qs[j]? = some (k, (⟨{ v.q with used := X.gets }, v.oa, v.ca⟩ : RQ)) := by show (aSet X.qs k _)[j]? = _; rw [hv3]; exact set_at hv1
        have hjl1 : j < ({ X with qs := aSet X.qs k (⟨{ v.q with used := X.gets }, v.oa, v.ca⟩ : RQ) } : RX).qs.length := (List.getElem?_eq_some_iff.1 hxt).1
        have hql1 : ({ X with qs := aSet X.qs k (⟨{ v.q with used := X.gets }, v.oa, v.ca⟩ : RQ) } : RX).qs.length ≤ 21 := by show (aSet X.qs k _).length ≤ 21; rw [hv3, List.length_set]; exact hql
        refine TR.open (fun w hw => (St.exOpen (show St w (Ex _ :: _) _ from hw))) (fun h => ?_)
        refine TR.openP (fun w hw => own_at (i := 1) rfl (rq_ne hxt) hw) (fun gt hgt => ?_)
        refine TR.region ?_
        refine RL.move rfl rfl rfl ?_
        refine RL.nilCheck rfl rfl rfl ?_
        refine RL.fieldAddr rfl vf_tf76_2 rfl rfl ?_
        refine RL.load1 0 rfl vf_ts73 rfl rfl rfl rfl ?_
        refine RL.move rfl rfl rfl ?_
        refine RL.indexAddr rfl vf_tl73 vf_tz105 (congrArg (fun a => some (Value.slice a _ _)) hgt) rfl (by omega) (by omega) rfl ?_
        refine RL.loadS rfl rfl (own_agg (i := 1) (vs := [S k, S v.q.own.s, I v.q.own.e, .slice v.oa v.q.tr.length v.ca, .bool v.q.cyc, .bool v.q.ok, I X.gets]) rfl hgt vf_ta105 (fun j v hj => rq_at hxt j hj)) rfl ?_
        refine RL.call rfl rfl Try.call67 rfl (ranswer_spec (x := (k, (⟨{ v.q with used := X.gets }, v.oa, v.ca⟩ : RQ)))) (fun _ => ?_)
        refine RL.storeA 4 rfl rfl rfl rfl vf_tz49 rfl rfl ?_
        refine RL.nil ?_
        refine NX.seq ?_
        refine TR.ret ?_
        refine NX.retThen ?_
        have hlaw := ob_ok (rule := ruleR) (d := d) (k := k) (by_ := by_) (e := X.en) ho hin0 hfi hok
        refine NX.retC (j := 4) (⟨({ X with qs := aSet X.qs k (⟨{ v.q with used := X.gets }, v.oa, v.ca⟩ : RQ) } : RX), by rw [hlaw]; exact rtouch_en, KpR.of rfl⟩ : {Y : RX // Y.en = (obt ruleR (d + 1) k by_ X.en).2 ∧ KpR X.fs.length X Y}) rfl rfl rfl vf_ta49 (by rw [hlaw]; rfl) (fun w hw => ?_)
        exact St.rebClose (({ X with qs := aSet X.qs k (⟨{ v.q with used := X.gets }, v.oa, v.ca⟩ : RQ) } : RX)) h rfl rfl rfl rfl rfl rfl rfl (hw.to 5 [0, 1, 2, 3] 0 [] rfl)
    · skip
      refine RL.assign rfl rfl rfl ?_
      refine RL.nil ?_
      refine NX.seq ?_
      refine TR.seq ?_
      refine TR.seq ?_
      refine TR.region ?_
      refine RL.move rfl rfl rfl ?_
      refine RL.bin rfl rfl rfl (BinV.to (d := true) BinV.geq (decide_eq_true (by show (0 : Int) ≤ ((i : Nat) : Int); omega))) rfl ?_
      refine RL.nil ?_
      refine NX.seq ?_
      refine TR.condT rfl ?_
      refine TR.seq ?_
      refine TR.open (fun w hw => (St.exOpen (show St w (Ex _ :: _) _ from hw))) (fun h => ?_)
      obtain ⟨xi, hxi⟩ := rframe_at hfi
      obtain ⟨b, xb, rfl, hxb, rfl⟩ := rby_some hby hxi
      have hiz : idxZ (some i) = ((i : Nat) : Int) := rfl
      have hil1 : i < X.fs.length := (List.getElem?_eq_some_iff.1 hxi).1
      have hbl : b < X.fs.length := (List.getElem?_eq_some_iff.1 hxb).1
      refine TR.openP (fun w hw => own_at (i := 3) rfl (rf_ne hxb) hw) (fun gb hgb => ?_)
      refine TR.sub (E' := [(0, _), (1, _), (2, _), (6, _), (8, _)]) ⟨rfl, rfl, rfl, rfl, rfl, trivial⟩ ?_
      refine TR.draw mixed ?_
      apply AR.more [(0, _), (1, _), (2, _), (3, _), (4, _), (5, _), (6, _), (7, _), (8, _), (9, _), (10, _), (11, _), (12, _), (13, _), (14, _), (15, _), (16, _), (17, _), (18, _), (19, _), (20, _), (21, _), (22, _), (23, _), (24, _)]
      refine AR.eff [0, 1, 2, 3, 4, 5, 6, 7, 8, 9, 10, 11, 12, 13, 14, 15, 16, 17, 18, 19, 20, 21, 22, 23, 24] 25 [0, 1, 2, 3, 4, 5, 6, 7, 8, 9, 10, 11, 12, 13, 14, 15, 16, 17, 18, 19, 20, 21, 22, 23, 24, 25] ⟨QOne.yes rfl rfl rfl (PV.move rfl), QOne.yes rfl rfl rfl (PV.nilCheck rfl), QOne.yes rfl rfl rfl (PV.fieldAddr vf_tf76_7 rfl), QOne.yes rfl rfl rfl (PV.load1 0 vf_ts74 rfl rfl rfl), QOne.yes rfl rfl rfl (PV.move rfl), QOne.yes rfl rfl rfl (PV.move rfl), QOne.yes rfl rfl rfl (PV.nilCheck rfl), QOne.yes rfl rfl rfl (PV.fieldAddr vf_tf76_7 rfl), QOne.yes rfl rfl rfl (PV.load1 0 vf_ts74 rfl rfl rfl), QOne.yes rfl rfl rfl (PV.move rfl), QOne.yes rfl rfl rfl (PV.indexAddr vf_tl74 vf_tz116 (congrArg (fun a => some (Value.slice a _ _)) hgb) rfl (by omega) (by omega)), QOne.yes rfl rfl rfl (PV.fieldAddr vf_tf116_1 rfl), QOne.yes rfl rfl rfl (PV.loadS rfl (own_one (i := 3) rfl hgb vf_ts3 (rf_at hxb 1 rfl))), QOne.yes rfl rfl rfl (PV.move rfl), QOne.yes rfl rfl rfl (PV.nilCheck rfl), QOne.yes rfl rfl rfl (PV.fieldAddr vf_tf76_7 rfl), QOne.yes rfl rfl rfl (PV.load1 0 vf_ts74 rfl rfl rfl), QOne.yes rfl rfl rfl (PV.move rfl), QOne.yes rfl rfl rfl (PV.indexAddr vf_tl74 vf_tz116 (congrArg (fun a => some (Value.slice a _ _)) hgb) rfl (by omega) (by omega)), QOne.yes rfl rfl rfl (PV.fieldAddr vf_tf116_1 rfl), QOne.yes rfl rfl rfl (PV.loadS rfl (own_one (i := 3) rfl hgb vf_ts3 (rf_at hxi 1 rfl))), QOne.yes rfl rfl rfl (PV.move rfl), QOne.yes rfl rfl rfl (PV.min3 rfl rfl rfl), QOne.yes rfl rfl rfl (PV.indexAddr vf_tl74 vf_tz116 (congrArg (fun a => some (Value.slice a _ _)) hgb) rfl (by omega) (by omega)), QOne.yes rfl rfl rfl (PV.fieldAddr vf_tf116_1 rfl), trivial⟩ rfl rfl rfl rfl rfl rfl rfl (EV.storeO (vs := [I (min (min ((xb.f.low : Nat) : Int) ((xi.f.low : Nat) : Int)) ((i : Nat) : Int))]) 3 rfl rfl rfl hgb vf_tz3 rfl (rf_room (o := 2) hxb (by decide)) rfl) (fun _ => ?_)
      refine AR.done [24, 22, 0, 1, 2, 3, 4, 5, 6, 7, 8, 9, 10, 11, 12, 13, 14, 15, 16, 17, 18, 19, 20, 21, 23] rfl ?_
      refine AR.last [] [0, 1, 2, 3, 4, 5, 6, 7, 8, 9, 10, 11, 12, 13, 14, 15, 16, 17, 18, 19, 20, 21, 22, 23, 24, 25] trivial rfl rfl rfl ?_
      refine NX.sub (E' := [(0, _), (1, _), (2, _), (6, _), (8, _), (49, _)]) ⟨rfl, rfl, rfl, rfl, rfl, rfl, trivial⟩ ?_
      refine NX.seq ?_
      refine TR.seq ?_
      obtain ⟨y1, hy1⟩ : ∃ y1 : RF, y1 = (⟨{ xb.f with low := min (min xb.f.low xi.f.low) i }, xb.oa, xb.ca, xb.an⟩ : RF) := ⟨_, rfl⟩
      refine TR.weak (fun w hw => St.rebClose (({ X with fs := X.fs.set b y1 } : RX)) h (by show _ = [I bud, .slice ia X.inp.length ic, .slice h.la X.qs.length h.lc, .slice h.ca X.comp.length h.cc, I X.gets, I (X.fuel : Nat), .bool false, .slice h.sa (List.set X.fs b _).length h.sc]; rw [List.length_set]) rfl rfl rfl rfl (by show _ = (List.set X.fs b _).length; rw [List.length_set]) (rf_set (vs := [I (min (min ((xb.f.low : Nat) : Int) ((xi.f.low : Nat) : Int)) ((i : Nat) : Int))]) hxb (by show 1 + 1 ≤ 7; decide) (by rw [hy1]; show [S xb.f.key, I ((min (min xb.f.low xi.f.low) i : Nat) : Int), .bool xb.f.self, S xb.f.own.s, I xb.f.own.e, .slice xb.oa xb.f.tr.length xb.ca, .bool xb.an] = _; rw [min_cast3]; rfl)) (show St w (_ :: _ :: _ :: _ :: _) _ from hw.toM 5 [0, 1, 2, 3, 4] rfl)) ?_
      have hx1 : ({ X with fs := X.fs.set b y1 } : RX).fs[b]? = some y1 := set_at hxb
      have hXl1 : ({ X with fs := X.fs.set b y1 } : RX).fs.length = X.fs.length := by show (X.fs.set b _).length = _; rw [List.length_set]
      have hl1 : (X.fs.set b y1).length = X.fs.length := List.length_set ..
      have hl2 : (X.fs.set b (⟨{ xb.f with low := min (min xb.f.low xi.f.low) i, self := xb.f.self || decide (i = b) }, xb.oa, xb.ca, xb.an⟩ : RF)).length = X.fs.length := List.length_set ..
      refine TR.open (fun w hw => (St.exOpen (show St w (Ex _ :: _) _ from hw))) (fun h => ?_)
      refine TR.openP (fun w hw => own_at (i := 3) rfl (rf_ne hx1) hw) (fun gc hgc => ?_)
      refine TR.sub (E' := [(0, _), (1, _), (2, _), (6, _), (8, _), (49, _)]) ⟨rfl, rfl, rfl, rfl, rfl, rfl, trivial⟩ ?_
      refine TR.draw mixed ?_
      cases h4 : y1.f.self
      · skip
        have hsl : xb.f.self = false := by have h9 := h4; rw [hy1] at h9; exact h9
        apply AR.more [(0, _), (1, _), (2, _), (3, _), (4, _), (5, _), (6, _), (7, _), (8, _), (9, _), (10, _), (11, _), (12, _), (13, .bool false), (14, _), (15, _), (16, _), (17, _), (18, _), (19, _)]
        refine AR.eff [0, 1, 2, 3, 4, 5, 6, 7, 8, 9, 10, 11, 12, 13, 14, 15, 16, 17, 18, 19] 20 [0, 1, 2, 3, 4, 5, 6, 7, 8, 9, 10, 11, 12, 13, 14, 15, 16, 17, 18, 19, 20] ⟨QOne.yes rfl rfl rfl (PV.move rfl), QOne.yes rfl rfl rfl (PV.nilCheck rfl), QOne.yes rfl rfl rfl (PV.fieldAddr vf_tf76_7 rfl), QOne.yes rfl rfl rfl (PV.load1 0 vf_ts74 rfl rfl rfl), QOne.yes rfl rfl rfl (PV.move rfl), QOne.yes rfl rfl rfl (PV.move rfl), QOne.yes rfl rfl rfl (PV.nilCheck rfl), QOne.yes rfl rfl rfl (PV.fieldAddr vf_tf76_7 rfl), QOne.yes rfl rfl rfl (PV.load1 0 vf_ts74 rfl rfl rfl), QOne.yes rfl rfl rfl (PV.move rfl), QOne.yes rfl rfl rfl (PV.indexAddr vf_tl74 vf_tz116 (congrArg (fun a => some (Value.slice a _ _)) hgc) rfl (by omega) (by omega)), QOne.yes rfl rfl rfl (PV.fieldAddr vf_tf116_2 rfl), QOne.yes rfl rfl rfl (PV.loadS rfl (own_one (i := 3) rfl hgc vf_ts4 (rf_at hx1 2 rfl))), QOne.yes rfl rfl rfl (PV.cast (congrArg Value.bool h4) (PV.move rfl)), QOne.yes rfl rfl rfl (PV.move rfl), QOne.yes rfl rfl rfl (PV.move rfl), QOne.yes rfl rfl rfl (PV.bin rfl rfl BinV.eql), QOne.yes rfl rfl rfl (PV.pickF rfl rfl), QOne.yes rfl rfl rfl (PV.indexAddr vf_tl74 vf_tz116 (congrArg (fun a => some (Value.slice a _ _)) hgc) rfl (by omega) (by omega)), QOne.yes rfl rfl rfl (PV.fieldAddr vf_tf116_2 rfl), trivial⟩ rfl rfl rfl rfl rfl rfl rfl (EV.storeO (vs := [.bool (decide (((i : Nat) : Int) = ((b : Nat) : Int)))]) 3 rfl rfl rfl hgc vf_tz4 rfl (rf_room (o := 3) hx1 (by decide)) rfl) (fun _ => ?_)
        refine AR.done [19, 17, 13, 0, 1, 2, 3, 4, 5, 6, 7, 8, 9, 10, 11, 12, 14, 15, 16, 18] rfl ?_
        refine AR.last [] [0, 1, 2, 3, 4, 5, 6, 7, 8, 9, 10, 11, 12, 13, 14, 15, 16, 17, 18, 19, 20] trivial rfl rfl rfl ?_
        refine NX.sub (E' := [(0, _), (1, _), (2, _), (6, _), (49, _)]) ⟨rfl, rfl, rfl, rfl, rfl, trivial⟩ ?_
        refine NX.seq ?_
        refine TR.seq ?_
        refine TR.region ?_
        refine RL.build rfl rfl (vf_bv49_1 _) rfl ?_
        refine RL.storeA 4 rfl rfl rfl rfl vf_tz49 rfl rfl ?_
        refine RL.nil ?_
        refine NX.seq ?_
        refine TR.ret ?_
        refine NX.retThen ?_
        have hlaw := ob_hit (rule := ruleR) (d := d) (k := k) (by_ := some b) (e := X.en) ho hin0 hfi
        refine NX.retC (j := 4) (⟨({ X with fs := X.fs.set b (⟨{ xb.f with low := min (min xb.f.low xi.f.low) i, self := xb.f.self || decide (i = b) }, xb.oa, xb.ca, xb.an⟩ : RF) } : RX), by rw [hlaw]; exact rhit_en hxb hxi, KpR.set hxb rfl rfl rfl rfl⟩ : {Y : RX // Y.en = (obt ruleR (d + 1) k (some b) X.en).2 ∧ KpR X.fs.length X Y}) rfl rfl rfl vf_ta49 (by rw [hlaw]; rfl) (fun w hw => ?_)
        exact St.rebClose (({ X with fs := X.fs.set b (⟨{ xb.f with low := min (min xb.f.low xi.f.low) i, self := xb.f.self || decide (i = b) }, xb.oa, xb.ca, xb.an⟩ : RF) } : RX)) h (by show [I bud, .slice ia X.inp.length ic, .slice h.la X.qs.length h.lc, .slice h.ca X.comp.length h.cc, I X.gets, I (X.fuel : Nat), .bool false, .slice h.sa (X.fs.set b y1).length h.sc] = [I bud, .slice ia X.inp.length ic, .slice h.la X.qs.length h.lc, .slice h.ca X.comp.length h.cc, I X.gets, I (X.fuel : Nat), .bool false, .slice h.sa (X.fs.set b (⟨{ xb.f with low := min (min xb.f.low xi.f.low) i, self := xb.f.self || decide (i = b) }, xb.oa, xb.ca, xb.an⟩ : RF)).length h.sc]; rw [hl2, hl1]) rfl rfl rfl rfl (by show (X.fs.set b y1).length = (X.fs.set b (⟨{ xb.f with low := min (min xb.f.low xi.f.low) i, self := xb.f.self || decide (i = b) }, xb.oa, xb.ca, xb.an⟩ : RF)).length; rw [hl2, hl1]) (by have h7 := rf_set (vs := [.bool (decide (((i : Nat) : Int) = ((b : Nat) : Int)))]) hx1 (a' := (⟨{ xb.f with low := min (min xb.f.low xi.f.low) i, self := xb.f.self || decide (i = b) }, xb.oa, xb.ca, xb.an⟩ : RF)) (by show 2 + 1 ≤ 7; decide) (by rw [hy1]; show [S xb.f.key, I ((min (min xb.f.low xi.f.low) i : Nat) : Int), .bool (xb.f.self || decide (i = b)), S xb.f.own.s, I xb.f.own.e, .slice xb.oa xb.f.tr.length xb.ca, .bool xb.an] = _; rw [hsl, Bool.false_or, show decide (i = b) = decide (((i : Nat) : Int) = ((b : Nat) : Int)) from decide_eq_decide.2 (by omega)]; rfl); rw [show ({ X with fs := X.fs.set b y1 } : RX).fs.set b (⟨{ xb.f with low := min (min xb.f.low xi.f.low) i, self := xb.f.self || decide (i = b) }, xb.oa, xb.ca, xb.an⟩ : RF) = X.fs.set b (⟨{ xb.f with low := min (min xb.f.low xi.f.low) i, self := xb.f.self || decide (i = b) }, xb.oa, xb.ca, xb.an⟩ : RF) from List.set_set ..] at h7; exact h7) (hw.to 5 [0, 1, 2, 3] 0 [] rfl)
      · skip
        have hsl : xb.f.self = true := by have h9 := h4; rw [hy1] at h9; exact h9
        apply AR.more [(0, _), (1, _), (2, _), (3, _), (4, _), (5, _), (6, _), (7, _), (8, _), (9, _), (10, _), (11, _), (12, _), (13, .bool true), (14, undef), (15, undef), (16, undef), (17, .bool true), (18, _), (19, _)]
        refine AR.eff [0, 1, 2, 3, 4, 5, 6, 7, 8, 9, 10, 11, 12, 13, 14, 15, 16, 17, 18, 19] 20 [0, 1, 2, 3, 4, 5, 6, 7, 8, 9, 10, 11, 12, 13, 14, 15, 16, 17, 18, 19, 20] ⟨QOne.yes rfl rfl rfl (PV.move rfl), QOne.yes rfl rfl rfl (PV.nilCheck rfl), QOne.yes rfl rfl rfl (PV.fieldAddr vf_tf76_7 rfl), QOne.yes rfl rfl rfl (PV.load1 0 vf_ts74 rfl rfl rfl), QOne.yes rfl rfl rfl (PV.move rfl), QOne.yes rfl rfl rfl (PV.move rfl), QOne.yes rfl rfl rfl (PV.nilCheck rfl), QOne.yes rfl rfl rfl (PV.fieldAddr vf_tf76_7 rfl), QOne.yes rfl rfl rfl (PV.load1 0 vf_ts74 rfl rfl rfl), QOne.yes rfl rfl rfl (PV.move rfl), QOne.yes rfl rfl rfl (PV.indexAddr vf_tl74 vf_tz116 (congrArg (fun a => some (Value.slice a _ _)) hgc) rfl (by omega) (by omega)), QOne.yes rfl rfl rfl (PV.fieldAddr vf_tf116_2 rfl), QOne.yes rfl rfl rfl (PV.loadS rfl (own_one (i := 3) rfl hgc vf_ts4 (rf_at hx1 2 rfl))), QOne.yes rfl rfl rfl (PV.cast (congrArg Value.bool h4) (PV.move rfl)), QOne.no rfl rfl rfl, QOne.no rfl rfl rfl, QOne.no rfl rfl rfl, QOne.yes rfl rfl rfl (PV.pickT rfl rfl), QOne.yes rfl rfl rfl (PV.indexAddr vf_tl74 vf_tz116 (congrArg (fun a => some (Value.slice a _ _)) hgc) rfl (by omega) (by omega)), QOne.yes rfl rfl rfl (PV.fieldAddr vf_tf116_2 rfl), trivial⟩ rfl rfl rfl rfl rfl rfl rfl (EV.storeO (vs := [.bool true]) 3 rfl rfl rfl hgc vf_tz4 rfl (rf_room (o := 3) hx1 (by decide)) rfl) (fun _ => ?_)
        refine AR.done [19, 17, 13, 0, 1, 2, 3, 4, 5, 6, 7, 8, 9, 10, 11, 12, 14, 15, 16, 18] rfl ?_
        refine AR.last [] [0, 1, 2, 3, 4, 5, 6, 7, 8, 9, 10, 11, 12, 13, 14, 15, 16, 17, 18, 19, 20] trivial rfl rfl rfl ?_
        refine NX.sub (E' := [(0, _), (1, _), (2, _), (6, _), (49, _)]) ⟨rfl, rfl, rfl, rfl, rfl, trivial⟩ ?_
        refine NX.seq ?_
        refine TR.seq ?_
        refine TR.region ?_
        refine RL.build rfl rfl (vf_bv49_1 _) rfl ?_
        refine RL.storeA 4 rfl rfl rfl rfl vf_tz49 rfl rfl ?_
        refine RL.nil ?_
        refine NX.seq ?_
        refine TR.ret ?_
        refine NX.retThen ?_
        have hlaw := ob_hit (rule := ruleR) (d := d) (k := k) (by_ := some b) (e := X.en) ho hin0 hfi
        refine NX.retC (j := 4) (⟨({ X with fs := X.fs.set b (⟨{ xb.f with low := min (min xb.f.low xi.f.low) i, self := xb.f.self || decide (i = b) }, xb.oa, xb.ca, xb.an⟩ : RF) } : RX), by rw [hlaw]; exact rhit_en hxb hxi, KpR.set hxb rfl rfl rfl rfl⟩ : {Y : RX // Y.en = (obt ruleR (d + 1) k (some b) X.en).2 ∧ KpR X.fs.length X Y}) rfl rfl rfl vf_ta49 (by rw [hlaw]; rfl) (fun w hw => ?_)
        exact St.rebClose (({ X with fs := X.fs.set b (⟨{ xb.f with low := min (min xb.f.low xi.f.low) i, self := xb.f.self || decide (i = b) }, xb.oa, xb.ca, xb.an⟩ : RF) } : RX)) h (by show [I bud, .slice ia X.inp.length ic, .slice h.la X.qs.length h.lc, .slice h.ca X.comp.length h.cc, I X.gets, I (X.fuel : Nat), .bool false, .slice h.sa (X.fs.set b y1).length h.sc] = [I bud, .slice ia X.inp.length ic, .slice h.la X.qs.length h.lc, .slice h.ca X.comp.length h.cc, I X.gets, I (X.fuel : Nat), .bool false, .slice h.sa (X.fs.set b (⟨{ xb.f with low := min (min xb.f.low xi.f.low) i, self := xb.f.self || decide (i = b) }, xb.oa, xb.ca, xb.an⟩ : RF)).length h.sc]; rw [hl2, hl1]) rfl rfl rfl rfl (by show (X.fs.set b y1).length = (X.fs.set b (⟨{ xb.f with low := min (min xb.f.low xi.f.low) i, self := xb.f.self || decide (i = b) }, xb.oa, xb.ca, xb.an⟩ : RF)).length; rw [hl2, hl1]) (by have h7 := rf_set (vs := [.bool true]) hx1 (a' := (⟨{ xb.f with low := min (min xb.f.low xi.f.low) i, self := xb.f.self || decide (i = b) }, xb.oa, xb.ca, xb.an⟩ : RF)) (by show 2 + 1 ≤ 7; decide) (by rw [hy1]; show [S xb.f.key, I ((min (min xb.f.low xi.f.low) i : Nat) : Int), .bool (xb.f.self || decide (i = b)), S xb.f.own.s, I xb.f.own.e, .slice xb.oa xb.f.tr.length xb.ca, .bool xb.an] = _; rw [hsl, Bool.true_or]; rfl); rw [show ({ X with fs := X.fs.set b y1 } : RX).fs.set b (⟨{ xb.f with low := min (min xb.f.low xi.f.low) i, self := xb.f.self || decide (i = b) }, xb.oa, xb.ca, xb.an⟩ : RF) = X.fs.set b (⟨{ xb.f with low := min (min xb.f.low xi.f.low) i, self := xb.f.self || decide (i = b) }, xb.oa, xb.ca, xb.an⟩ : RF) from List.set_set ..] at h7; exact h7) (hw.to 5 [0, 1, 2, 3] 0 [] rfl)
  · skip
    refine RL.assign rfl rfl rfl ?_
    refine RL.nil ?_
    refine NX.seq ?_
    refine TR.seq ?_
    refine TR.seq ?_
    refine TR.region ?_
    refine RL.move rfl rfl rfl ?_
    refine RL.bin rfl rfl rfl (BinV.to (d := true) BinV.geq (decide_eq_true (by show (0 : Int) ≤ ((i : Nat) : Int); omega))) rfl ?_
    refine RL.nil ?_
    refine NX.seq ?_
    refine TR.condT rfl ?_
    refine TR.seq ?_
    refine TR.open (fun w hw => (St.exOpen (show St w (Ex _ :: _) _ from hw))) (fun h => ?_)
    obtain ⟨sv, hip, hiv, _⟩ := kIdx_some hii
    have hiz : idxZ (some i) = ((i : Nat) : Int) := rfl
    have hiL : i < X.inp.length := (List.getElem?_eq_some_iff.1 hip).1
    refine TR.openP (open_arr hin (inA_ne hip)) (fun xa hxa => ?_)
    refine TR.region ?_
    refine RL.move rfl rfl rfl ?_
    refine RL.nilCheck rfl rfl rfl ?_
    refine RL.fieldAddr rfl vf_tf76_1 rfl rfl ?_
    refine RL.load1 0 rfl vf_ts46 rfl rfl rfl rfl ?_
    refine RL.move rfl rfl rfl ?_
    refine RL.indexAddr rfl vf_tl46 vf_tz51 (congrArg (fun a => some (Value.slice a _ _)) hxa) rfl (by omega) (by omega) rfl ?_
    refine RL.fieldAddr rfl vf_tf51_1 rfl rfl ?_
    refine RL.loadF rfl rfl (fun w K hF => run_inA (hF (CellsF xa.1 xa.2 (inA X.inp)) (.head _)) vf_ta49 hip) rfl ?_
    refine RL.storeA 4 rfl rfl rfl rfl vf_tz49 rfl rfl ?_
    refine RL.nil ?_
    refine NX.seq ?_
    refine TR.ret ?_
    refine NX.retThen ?_
    have hlaw := ob_inp (rule := ruleR) (d := d) (k := k) (by_ := by_) (e := X.en) ho (hiv.trans (congrArg some rfl))
    refine NX.retC (j := 4) (⟨X, by rw [hlaw], KpR.refl _ _⟩ : {Y : RX // Y.en = (obt ruleR (d + 1) k by_ X.en).2 ∧ KpR X.fs.length X Y}) rfl rfl rfl vf_ta49 (by rw [hlaw]; rfl) (fun w hw => ?_)
    exact St.rebClose (X) h rfl rfl rfl rfl rfl rfl rfl (hw.to 5 [0, 1, 2, 3] 1 [] rfl)
theorem rob_all {m : Nat} {bud : Int} {ia : Option Addr} {ic : Nat} : ∀ d, ROb m bud ia ic d := by
  intro d
  induction d with
  | zero => intro X k by_ bv M F hX; exact absurd hX.pos (by decide)
  | succ d ih => intro X k by_ bv M F hX hk hby hin hil hg0 hg1; exact robtain_step ih hX hk hby hin hil hg0 hg1
end Go.Proofs.Ythefimaaeilefaa

namespace Go.GL
set_option linter.unusedVariables false
section
variable {rule : Ky → Ru} {U : List Ky}
theorem ans_one2 {e e' : En} (h : QInv rule U e) (h' : QInv rule U e') (hi : aGet e.inp = aGet e'.inp) (hs : e.st = []) (hs' : e'.st = []) {k : Ky} {x x' : An} (ha : AnsF e k x) (ha' : AnsF e' k x') : x = x' := by
  rcases ha with ⟨s, a1, a2⟩ | ⟨a1, q, a2, a3⟩ | ⟨_, _, ⟨f, a3, _⟩, _⟩
  · rcases ha' with ⟨s', b1, b2⟩ | ⟨b1, _⟩ | ⟨b1, _⟩
    · rw [hi, b1] at a1; cases a1; rw [a2, b2]
    · rw [hi, b1] at a1; cases a1
    · rw [hi, b1] at a1; cases a1
  · rcases ha' with ⟨s', b1, b2⟩ | ⟨b1, q', b2, b3⟩ | ⟨_, _, ⟨f, b3, _⟩, _⟩
    · rw [hi, b1] at a1; cases a1
    · have h2 : Asg rule (aGet e.inp) (okOf e'.qs) := by rw [hi]; exact h'.asg
      rw [a3, b3]
      exact only h.asg h2 (ks := U) (fun k hk => by
        obtain ⟨q, hq⟩ := Option.isSome_iff_exists.1 hk
        exact (h.old k q (okOf_get hq).1).2.2.1) a2 b2
    · rw [hs'] at b3; cases b3
  · rw [hs] at a3; cases a3
theorem get_fresh2 {e e' : En} (hr : ∀ k, k ∈ U → RuK U k (rule k)) {d d' f f' : Nat} {k : Ky} (hd : U.length < d) (hd' : U.length < d') (hk : k ∈ U) (h : Bt rule U e) (h' : Bt rule U e') (hi : aGet e.inp = aGet e'.inp) (hf : U.length ≤ f) (hf' : U.length ≤ f') : (getE rule d k f e).1 = (getE rule d' k f' e').1 := by
  obtain ⟨a1, a2, a3, _, a5⟩ := h.get (fuel := f) hr hd hk
  obtain ⟨b1, b2, b3, _, b5⟩ := h'.get (fuel := f') hr hd' hk
  obtain ⟨s1, x1⟩ := a3 (a5 hf)
  obtain ⟨s2, x2⟩ := b3 (b5 hf')
  exact ans_one2 a1.q b1.q (by rw [a2, b2, hi]) s1 s2 x1 x2
theorem get_inp {e : En} {d f : Nat} {k : Ky} {s : List UInt8} (h : aGet e.inp k = some s) : (getE rule (d + 1) k f e).1 = ⟨s, 0⟩ := by
  unfold getE
  rw [obt, if_neg (by show ¬ false = true; decide)]
  show (match aGet e.inp k with | some s => _ | none => _ : An × En).1 = _
  rw [h]
end
end Go.GL

namespace Go.Proofs.Ythefimaaeilefaa
open Go.GL
set_option linter.unusedVariables false
theorem vg_bv76_1_0 (x0 : Int) (x1 : Option Addr) (x1n x1c : Nat) : BuildV Try.prog 76 [(1, .slice x1 x1n x1c), (0, .int .i64 x0)] (.agg #[.int .i64 x0, .slice x1 x1n x1c, .slice none 0 0, .slice none 0 0, .int .i64 0, .int .i64 0, .bool false, .slice none 0 0]) := fun w => by kernel_rfl
theorem vg_ta49 : tyAgg Try.prog 49 2 = true := by kernel_rfl
theorem vg_tf105_0 : fieldOff Try.prog 105 0 0 = true := by kernel_rfl
theorem vg_tf105_1 : fieldOff Try.prog 105 1 1 = true := by kernel_rfl
theorem vg_tf49_0 : fieldOff Try.prog 49 0 0 = true := by kernel_rfl
theorem vg_tf76_0 : fieldOff Try.prog 76 0 0 = true := by kernel_rfl
theorem vg_tf76_2 : fieldOff Try.prog 76 2 2 = true := by kernel_rfl
theorem vg_tf76_4 : fieldOff Try.prog 76 4 4 = true := by kernel_rfl
theorem vg_tf76_5 : fieldOff Try.prog 76 5 5 = true := by kernel_rfl
theorem vg_tf76_6 : fieldOff Try.prog 76 6 6 = true := by kernel_rfl
theorem vg_tf76_7 : fieldOff Try.prog 76 7 7 = true := by kernel_rfl
theorem vg_tl73 : tySlice Try.prog 73 105 = true := by kernel_rfl
theorem vg_ts3 : tyScalar Try.prog 3 = true := by kernel_rfl
theorem vg_ts4 : tyScalar Try.prog 4 = true := by kernel_rfl
theorem vg_ts73 : tyScalar Try.prog 73 = true := by kernel_rfl
theorem vg_ts74 : tyScalar Try.prog 74 = true := by kernel_rfl
theorem vg_ts9 : tyScalar Try.prog 9 = true := by kernel_rfl
theorem vg_tstr9 : tyStr Try.prog 9 = true := by kernel_rfl
theorem vg_tz105 : tySize Try.prog 105 7 = true := by kernel_rfl
theorem vg_tz49 : tySize Try.prog 49 2 = true := by kernel_rfl
theorem rbytes_spec {m : Nat} {bud : Int} {ia : Option Addr} {ic : Nat} {X : RX} {M : List HP} {F : List Fact} {h : RH} (hl : X.qs.length ≤ 21) (hb : ∀ q, q ∈ X.qs → q.1.length + q.2.q.own.s.length ≤ 100) : Ctr Try.prog 57 [PtV m] (Box m 76 [I bud, .slice ia X.inp.length ic, .slice h.la X.qs.length h.lc, .slice h.ca X.comp.length h.cc, I X.gets, I (X.fuel : Nat), .bool false, .slice h.sa X.fs.length h.sc] :: OwnSl 105 7 h.la X.qs.length h.lc (flC RQ.cs X.qs) :: OwnSl 9 1 h.ca X.comp.length h.cc (coC X.comp) :: OwnSl 116 7 h.sa X.fs.length h.sc (flC RF.cs X.fs) :: M) F {n : Nat // n ≤ 2100} (fun n => I (n.1 : Nat)) (fun _ => Box m 76 [I bud, .slice ia X.inp.length ic, .slice h.la X.qs.length h.lc, .slice h.ca X.comp.length h.cc, I X.gets, I (X.fuel : Nat), .bool false, .slice h.sa X.fs.length h.sc] :: OwnSl 105 7 h.la X.qs.length h.lc (flC RQ.cs X.qs) :: OwnSl 9 1 h.ca X.comp.length h.cc (coC X.comp) :: OwnSl 116 7 h.sa X.fs.length h.sc (flC RF.cs X.fs) :: M) (fun _ => F) := by
  refine Ctr.body Try.func57 rfl rfl ?_
  refine TR.seq ?_
  refine TR.region ?_
  refine RL.assign rfl rfl rfl ?_
  refine RL.nil ?_
  refine NX.seq ?_
  refine TR.seq ?_
  refine TR.region ?_
  refine RL.assign rfl rfl rfl ?_
  refine RL.nil ?_
  refine NX.seq ?_
  refine TR.seq ?_
  refine TR.seq ?_
  refine TR.region ?_
  refine RL.assign rfl rfl rfl ?_
  refine RL.nil ?_
  refine NX.seq ?_
  refine TR.block ?_
  refine TR.loopP (ι := (Nat × Nat)) (fun z => z.1 ≤ X.qs.length ∧ z.2 ≤ 100 * z.1) (fun z => [(0, PtV m), (3, I (z.2 : Nat)), (4, I (z.1 : Nat))]) (fun z => Box m 76 [I bud, .slice ia X.inp.length ic, .slice h.la X.qs.length h.lc, .slice h.ca X.comp.length h.cc, I X.gets, I (X.fuel : Nat), .bool false, .slice h.sa X.fs.length h.sc] :: OwnSl 105 7 h.la X.qs.length h.lc (flC RQ.cs X.qs) :: OwnSl 9 1 h.ca X.comp.length h.cc (coC X.comp) :: OwnSl 116 7 h.sa X.fs.length h.sc (flC RF.cs X.fs) :: M) (fun z => F) (fun z => (X.qs.length - z.1)) (0, 0) ⟨Nat.zero_le _, Nat.zero_le _⟩ ⟨rfl, rfl, rfl, trivial⟩ (fun w hw => (hw.to 4 [0, 1, 2, 3] 0 [] rfl)) (fun z hz => ?_)
  refine TR.seq ?_
  refine TR.seq ?_
  refine TR.region ?_
  refine RL.move rfl rfl rfl ?_
  refine RL.move rfl rfl rfl ?_
  refine RL.nilCheck rfl rfl rfl ?_
  refine RL.fieldAddr rfl vg_tf76_2 rfl rfl ?_
  refine RL.load1 0 rfl vg_ts73 rfl rfl rfl rfl ?_
  refine RL.lenSlice rfl vg_tl73 rfl rfl ?_
  refine RL.bin rfl rfl rfl BinV.lss rfl ?_
  refine RL.nil ?_
  refine NX.seq ?_
  refine TR.cond rfl (fun h1 => ?_) (fun h1 => ?_)
  · skip
    have hi : z.1 < X.qs.length := by have := of_decide_eq_true h1; omega
    obtain ⟨q, hp⟩ : ∃ q, X.qs[z.1]? = some q := ⟨_, List.getElem?_eq_getElem hi⟩
    have hqb := hb q (List.mem_of_getElem? hp)
    refine TR.openP (fun w hw => own_at (i := 1) rfl (rq_ne hp) hw) (fun g hg => ?_)
    refine TR.skip ?_
    refine NX.seq ?_
    refine TR.seq ?_
    refine TR.block ?_
    refine TR.sub (E' := [(0, _), (3, _), (4, _), (5, _), (6, _), (7, _), (8, _), (9, _), (10, _), (11, _)]) ⟨rfl, rfl, rfl, rfl, rfl, rfl, rfl, rfl, rfl, rfl, trivial⟩ ?_
    refine TR.draw mixed ?_
    apply AR.more [(0, _), (1, _), (2, _), (3, _), (4, _), (5, _), (6, _), (7, _), (8, _), (9, _), (10, _), (11, _), (12, _), (13, _), (14, _), (15, _), (16, _), (17, _), (18, _), (19, _), (20, _), (21, _), (22, _)]
    refine AR.last [0, 1, 2, 3, 4, 5, 6, 7, 8, 9, 10, 11, 12, 13, 14, 15, 16, 17, 18, 19, 20, 21, 22] [0, 1, 2, 3, 4, 5, 6, 7, 8, 9, 10, 11, 12, 13, 14, 15, 16, 17, 18, 19, 20, 21, 22] ⟨QOne.yes rfl rfl rfl (PV.move rfl), QOne.yes rfl rfl rfl (PV.move rfl), QOne.yes rfl rfl rfl (PV.nilCheck rfl), QOne.yes rfl rfl rfl (PV.fieldAddr vg_tf76_2 rfl), QOne.yes rfl rfl rfl (PV.load1 0 vg_ts73 rfl rfl rfl), QOne.yes rfl rfl rfl (PV.move rfl), QOne.yes rfl rfl rfl (PV.indexAddr vg_tl73 vg_tz105 (congrArg (fun a => some (Value.slice a _ _)) hg) rfl (by omega) (by omega)), QOne.yes rfl rfl rfl (PV.fieldAddr vg_tf105_0 rfl), QOne.yes rfl rfl rfl (PV.loadS rfl (own_one (i := 1) rfl hg vg_ts9 (rq_at hp 0 rfl))), QOne.yes rfl rfl rfl (PV.lenStr vg_tstr9 rfl), QOne.yes rfl rfl rfl (PV.bin rfl rfl (BinV.add ((z.2 + q.1.length : Nat) : Int) (by omega) (by omega) (by omega))), QOne.yes rfl rfl rfl (PV.move rfl), QOne.yes rfl rfl rfl (PV.nilCheck rfl), QOne.yes rfl rfl rfl (PV.fieldAddr vg_tf76_2 rfl), QOne.yes rfl rfl rfl (PV.load1 0 vg_ts73 rfl rfl rfl), QOne.yes rfl rfl rfl (PV.move rfl), QOne.yes rfl rfl rfl (PV.indexAddr vg_tl73 vg_tz105 (congrArg (fun a => some (Value.slice a _ _)) hg) rfl (by omega) (by omega)), QOne.yes rfl rfl rfl (PV.fieldAddr vg_tf105_1 rfl), QOne.yes rfl rfl rfl (PV.fieldAddr vg_tf49_0 rfl), QOne.yes rfl rfl rfl (PV.loadS rfl (own_one (i := 1) rfl hg vg_ts9 (rq_at hp 1 rfl))), QOne.yes rfl rfl rfl (PV.lenStr vg_tstr9 rfl), QOne.yes rfl rfl rfl (PV.bin rfl rfl (BinV.add ((z.2 + q.1.length + q.2.q.own.s.length : Nat) : Int) (by omega) (by omega) (by omega))), QOne.yes rfl rfl rfl (PV.assign rfl), trivial⟩ rfl rfl rfl ?_
    refine NX.sub (E' := [(0, _), (3, _), (4, _), (5, _), (6, _), (7, _), (8, _), (9, _), (10, _), (11, _), (14, _), (15, _), (16, _), (17, _), (18, _), (19, _), (20, _), (21, _), (22, _), (23, _), (24, _), (25, _), (26, _), (27, _), (28, _), (29, _), (30, _), (31, _), (32, _), (33, _), (34, _), (35, _)]) ⟨rfl, rfl, rfl, rfl, rfl, rfl, rfl, rfl, rfl, rfl, rfl, rfl, rfl, rfl, rfl, rfl, rfl, rfl, rfl, rfl, rfl, rfl, rfl, rfl, rfl, rfl, rfl, rfl, rfl, rfl, rfl, rfl, trivial⟩ ?_
    refine NX.off ?_
    refine NX.seq ?_
    refine TR.region ?_
    refine RL.move rfl rfl rfl ?_
    refine RL.bin rfl rfl rfl (BinV.add ((z.1 + 1 : Nat) : Int) (by omega) (by omega) (by omega)) rfl ?_
    refine RL.assign rfl rfl rfl ?_
    refine RL.nil ?_
    refine NX.roundP (z.1 + 1, z.2 + q.1.length + q.2.q.own.s.length) ⟨by omega, by omega⟩ (by show X.qs.length - (z.1 + 1) < X.qs.length - z.1; omega) ⟨rfl, rfl, rfl, trivial⟩ (fun w hw => (hw.to 4 [0, 1, 2, 3] 0 [] rfl))
  · skip
    have hi : X.qs.length ≤ z.1 := by have := of_decide_eq_false h1; omega
    refine TR.exit ?_
    refine NX.exitThen ?_
    refine NX.exitThen ?_
    refine NX.exitHere ?_
    refine NX.seq ?_
    refine TR.seq ?_
    refine TR.region ?_
    refine RL.move rfl rfl rfl ?_
    refine RL.assign rfl rfl rfl ?_
    refine RL.nil ?_
    refine NX.seq ?_
    refine TR.ret ?_
    exact NX.ret1 (⟨z.2, by omega⟩ : {n : Nat // n ≤ 2100}) rfl rfl rfl (fun w hw => (hw.to 4 [0, 1, 2, 3] 0 [] rfl))
theorem fresh_ok {l : List (Ky × List UInt8)} (hv : ∀ p, p ∈ l → p.2.length ≤ 4) : ROk UR (UR.length + 1) 0 (⟨l, [], [], 1, 1000, []⟩ : RX) := by
  have hp : pot UR ((⟨l, [], [], 1, 1000, []⟩ : RX) : RX).en ≤ UR.length := List.length_filter_le _ _
  have hU : UR.length = 20 := rfl
  refine ⟨⟨List.nodup_nil, (fun f hf => by cases hf), (fun p hp => by cases hp), fun p hp => .of0 (hv p hp), (fun f hf => by cases hf), (fun p hp => by cases hp)⟩, by show _ ≤ 0 + (UR.length + 1); omega, ⟨rfl, by show _ ≤ 1000; omega⟩, (fun k q hq => by cases hq), (by show 0 + 1000 ≤ 1099511627776; decide), ⟨List.nodup_nil, fun k hk => by cases hk⟩⟩
def RG (l : List (Ky × List UInt8)) (k : Ky) : An × En := getE ruleR (UR.length + 1) k 1000 { newE with inp := l }
theorem rg_is (l : List (Ky × List UInt8)) (k : Ky) : obt ruleR (UR.length + 1) k none ((⟨l, [], [], 1, 1000, []⟩ : RX) : RX).en = RG l k := rfl
theorem qb_of {Y : RX} (hw : Wk UR Y.en) (hq : QU UR Y.en) : Y.qs.length ≤ 21 ∧ ∀ q, q ∈ Y.qs → q.1.length + q.2.q.own.s.length ≤ 100 := by
  refine ⟨?_, fun q hqm => ?_⟩
  · have h7 := hq.len
    rw [show Y.en.qs.length = Y.qs.length from List.length_map _] at h7
    exact Nat.le_trans h7 (by decide)
  · have hm : (q.1, q.2.q) ∈ Y.en.qs := List.mem_map.2 ⟨q, hqm, rfl⟩
    have h1 : q.2.q.own.s.length ≤ 8 := (hw.qb _ hm).le
    have h2 := UR_2 q.1 (hq.mem q.1 (List.mem_map_of_mem (f := Prod.fst) hm))
    omega
theorem rget_spec {m : Nat} {bud : Int} {ia : Option Addr} {ic : Nat} {l : List (Ky × List UInt8)} {k : Ky} {M : List HP} {F : List Fact} (hbud : 1000000 ≤ bud) (hk : k ∈ UR) (hin : ArrF ia (inA l) ∈ F) (hll : l.length ≤ 1000) (hv : ∀ p, p ∈ l → p.2.length ≤ 4) : Ctr Try.prog 39 [PtV m, S k, I 1000] (REB m bud ia ic ((⟨l, [], [], 0, 0, []⟩ : RX)) :: M) F RX (fun _ => anV (RG l k).1) (fun Y => REB m bud ia ic (Y) :: M) (fun _ => F) := by
  refine Ctr.body Try.func39 rfl rfl ?_
  refine TR.seq ?_
  refine TR.region ?_
  refine RL.allocA rfl (Try.zeroValue49) rfl (fun b1 => ?_)
  refine RL.nil ?_
  refine NX.seq ?_
  refine TR.seq ?_
  refine TR.pick 2 [1, 0] rfl ?_
  refine TR.open (fun w hw => (St.exOpen (show St w (Ex _ :: _) _ from hw))) (fun h => ?_)
  refine TR.region ?_
  refine RL.move rfl rfl rfl ?_
  refine RL.move rfl rfl rfl ?_
  refine RL.nilCheck rfl rfl rfl ?_
  refine RL.fieldAddr rfl vg_tf76_4 rfl rfl ?_
  refine RL.load1 0 rfl vg_ts3 rfl rfl rfl rfl ?_
  refine RL.bin rfl rfl rfl (BinV.add 1 rfl (by omega) (by omega)) rfl ?_
  refine RL.nilCheck rfl rfl rfl ?_
  refine RL.fieldAddr rfl vg_tf76_4 rfl rfl ?_
  refine RL.store1 0 rfl vg_ts3 rfl rfl rfl rfl rfl ?_
  refine RL.nil ?_
  refine NX.seq ?_
  refine TR.seq ?_
  refine TR.region ?_
  refine RL.move rfl rfl rfl ?_
  refine RL.move rfl rfl rfl ?_
  refine RL.max rfl rfl rfl rfl ?_
  refine RL.nilCheck rfl rfl rfl ?_
  refine RL.fieldAddr rfl vg_tf76_5 rfl rfl ?_
  refine RL.store1 0 rfl vg_ts3 rfl rfl rfl rfl rfl ?_
  refine RL.nil ?_
  refine NX.seq ?_
  refine TR.seq ?_
  refine TR.region ?_
  refine RL.move rfl rfl rfl ?_
  refine RL.nilCheck rfl rfl rfl ?_
  refine RL.fieldAddr rfl vg_tf76_6 rfl rfl ?_
  refine RL.store1 0 rfl vg_ts4 rfl rfl rfl rfl rfl ?_
  refine RL.nil ?_
  refine NX.seq ?_
  refine TR.seq ?_
  refine TR.region ?_
  refine RL.move rfl rfl rfl ?_
  refine RL.nilCheck rfl rfl rfl ?_
  refine RL.fieldAddr rfl vg_tf76_7 rfl rfl ?_
  refine RL.store1 0 rfl vg_ts74 rfl rfl rfl rfl rfl ?_
  refine RL.nil ?_
  refine NX.seq ?_
  refine TR.seq ?_
  refine TR.weak (fun w hw => OwnSl.nil_new 116 7 (show St w (_ :: _ :: _ :: _ :: M) F from (hw.to 5 [0, 1, 2, 4] 0 [] rfl))) ?_
  refine TR.weak (fun w hw => St.rebClose ((⟨l, [], [], 1, 1000, []⟩ : RX)) (⟨h.la, h.lc, h.ca, h.cc, none, 0⟩ : RH) rfl rfl rfl rfl rfl rfl rfl (show St w (_ :: _ :: _ :: _ :: _) _ from hw.toM 5 [1, 2, 3, 0, 4] rfl)) ?_
  refine TR.region ?_
  refine RL.move rfl rfl rfl ?_
  refine RL.move rfl rfl rfl ?_
  refine RL.call rfl rfl Try.call56 rfl (rob_all (UR.length + 1) (X := (⟨l, [], [], 1, 1000, []⟩ : RX)) (k := k) (by_ := none) (bv := -1) (fresh_ok hv) hk (.inl ⟨rfl, rfl, rfl⟩) hin hll (by show (0 : Int) ≤ 1; decide) (by show (1 : Int) ≤ 1099511627776; decide)) (fun Y => ?_)
  obtain ⟨Y, hYe, hYk⟩ := Y
  have hYw := obt_wk ruleR_k (UR.length + 1) k none ((⟨l, [], [], 1, 1000, []⟩ : RX) : RX).en hk (fresh_ok hv).wk
  have hYq := obt_qu ruleR_k (UR.length + 1) k none ((⟨l, [], [], 1, 1000, []⟩ : RX) : RX).en hk (fresh_ok hv).wk (fresh_ok hv).qu
  rw [← hYe] at hYw hYq
  have hqb := qb_of hYw.1 hYq
  dsimp only
  refine RL.allocA rfl (Try.zeroValue49) rfl (fun b2 => ?_)
  refine RL.storeA 0 rfl rfl rfl rfl vg_tz49 rfl rfl ?_
  refine RL.nil ?_
  refine NX.seq ?_
  refine TR.seq ?_
  refine TR.block ?_
  refine TR.loopP (ι := Unit) (fun u => True) (fun u => [(0, PtV m), (6, PtV b1), (7, PtV b2)]) (fun u => REB m bud ia ic (Y) :: Box b1 49 [S [], I 0] :: Box b2 49 [S (obt ruleR (UR.length + 1) k none (⟨l, [], [], 1, 1000, []⟩ : RX).en).1.s, I (obt ruleR (UR.length + 1) k none (⟨l, [], [], 1, 1000, []⟩ : RX).en).1.e] :: M) (fun u => F) (fun u => 0) () trivial ⟨rfl, rfl, rfl, trivial⟩ (fun w hw => (hw.to 3 [1, 2, 0] 0 [] rfl)) (fun u hu => ?_)
  refine TR.seq ?_
  refine TR.seq ?_
  refine TR.open (fun w hw => (St.exOpen (show St w (Ex _ :: _) _ from hw))) (fun h2 => ?_)
  refine TR.sub (E' := [(0, _), (6, _), (7, _)]) ⟨rfl, rfl, rfl, trivial⟩ ?_
  refine TR.draw mixed ?_
  apply AR.more [(0, _), (2, _), (3, _), (4, _), (5, _)]
  refine AR.eff [0, 2, 3, 4, 5] 1 [0, 1, 2, 3, 4, 5, 6] ⟨QOne.yes rfl rfl rfl (PV.move rfl), QOne.yes rfl rfl rfl (PV.move rfl), QOne.yes rfl rfl rfl (PV.nilCheck rfl), QOne.yes rfl rfl rfl (PV.fieldAddr vg_tf76_0 rfl), QOne.yes rfl rfl rfl (PV.load1 0 vg_ts3 rfl rfl rfl), trivial⟩ rfl rfl rfl rfl rfl rfl rfl (EV.call rfl Try.call57 (rbytes_spec (X := Y) (h := h2) hqb.1 hqb.2)) (fun nb => ?_)
  refine AR.done [0] rfl ?_
  refine AR.more [(6, .bool false)] ?_
  refine AR.last [2, 3, 4, 5, 6] [0, 1, 2, 3, 4, 5, 6] ⟨QOne.yes rfl rfl rfl (PV.move rfl), QOne.yes rfl rfl rfl (PV.nilCheck rfl), QOne.yes rfl rfl rfl (PV.fieldAddr vg_tf76_0 rfl), QOne.yes rfl rfl rfl (PV.load1 0 vg_ts3 rfl rfl rfl), QOne.yes rfl rfl rfl (PV.bin rfl rfl (BinV.to (d := false) BinV.gtr (decide_eq_false (by have h7 := nb.2; omega)))), trivial⟩ rfl rfl rfl ?_
  refine NX.sub (E' := [(0, _), (6, _), (7, _), (32, _), (33, _), (34, _), (35, _), (36, _), (37, _), (38, _)]) ⟨rfl, rfl, rfl, rfl, rfl, rfl, rfl, rfl, rfl, rfl, trivial⟩ ?_
  refine NX.seq ?_
  refine TR.condF rfl ?_
  refine TR.exit ?_
  refine NX.exitThen ?_
  refine NX.exitThen ?_
  refine NX.exitHere ?_
  refine NX.seq ?_
  refine TR.seq ?_
  refine TR.region ?_
  refine RL.loadS rfl rfl (box_agg (vs := [_, _]) (i := 5) rfl vg_ta49 (agg2 rfl rfl)) rfl ?_
  refine RL.storeA 4 rfl rfl rfl rfl vg_tz49 rfl rfl ?_
  refine RL.nil ?_
  refine NX.seq ?_
  refine TR.ret ?_
  exact NX.retC (j := 4) Y rfl rfl rfl vg_ta49 (by rw [← rg_is]; rfl) (fun w hw => St.rebClose (Y) h2 rfl rfl rfl rfl rfl rfl rfl (hw.to 6 [0, 1, 2, 3] 0 [] rfl))
theorem rfresh_spec {ia : Option Addr} {ic : Nat} {l : List (Ky × List UInt8)} {k : Ky} {M : List HP} {F : List Fact} (hk : k ∈ UR) (hin : ArrF ia (inA l) ∈ F) (hll : l.length ≤ 1000) (hv : ∀ p, p ∈ l → p.2.length ≤ 4) : Ctr Try.prog 26 [.slice ia l.length ic, S k] M F Unit (fun _ => anV (RG l k).1) (fun _ => M) (fun _ => F) := by
  refine Ctr.body Try.func26 rfl rfl ?_
  refine TR.seq ?_
  refine TR.region ?_
  refine RL.allocA rfl (Try.zeroValue49) rfl (fun b1 => ?_)
  refine RL.nil ?_
  refine NX.seq ?_
  refine TR.seq ?_
  refine TR.region ?_
  refine RL.move rfl rfl rfl ?_
  refine RL.build rfl rfl (vg_bv76_1_0 _ _ _ _) rfl ?_
  refine RL.boxA rfl rfl rfl (fun b2 => ?_)
  refine RL.assign rfl rfl rfl ?_
  refine RL.nil ?_
  refine NX.seq ?_
  refine TR.seq ?_
  refine TR.weak (fun w hw => OwnSl.nil_new 116 7 (OwnSl.nil_new 9 1 (OwnSl.nil_new 105 7 hw))) ?_
  refine TR.weak (fun w hw => St.rebClose ((⟨l, [], [], 0, 0, []⟩ : RX)) (⟨none, 0, none, 0, none, 0⟩ : RH) rfl rfl rfl rfl rfl rfl rfl (show St w (_ :: _ :: _ :: _ :: _) _ from hw.toM 5 [3, 2, 1, 0, 4] rfl)) ?_
  refine TR.region ?_
  refine RL.move rfl rfl rfl ?_
  refine RL.move rfl rfl rfl ?_
  refine RL.call rfl rfl Try.call39 rfl (rget_spec (l := l) (k := k) (by decide) hk hin hll hv) (fun Y => ?_)
  refine RL.storeA 1 rfl rfl rfl rfl vg_tz49 rfl rfl ?_
  refine RL.nil ?_
  refine NX.seq ?_
  refine TR.ret ?_
  exact NX.retC (j := 1) () rfl rfl rfl vg_ta49 rfl (fun w hw => (hw.to 2 [] 0 [] rfl))
end Go.Proofs.Ythefimaaeilefaa

namespace Go.Proofs.Ythefimaaeilefaa
open Go.GL
set_option linter.unusedVariables false
theorem vh_bs54_1_0 (x00 : List UInt8) (x01 : List UInt8) : BuildSV Try.prog 54 53 1 [(0, .agg #[S x00, S x01])] [S x00, S x01] := fun w => by kernel_rfl
theorem vh_bv53_0_1 (x0 : List UInt8) (x1 : List UInt8) : BuildV Try.prog 53 [(0, S x0), (1, S x1)] (.agg #[S x0, S x1]) := fun w => by kernel_rfl
theorem vh_ni54 : noInt Try.prog 54 = true := by kernel_rfl
theorem vh_te53 : tyElem Try.prog 53 2 32 = true := by kernel_rfl
theorem vh_tf49_0 : fieldOff Try.prog 49 0 0 = true := by kernel_rfl
theorem vh_tf49_1 : fieldOff Try.prog 49 1 1 = true := by kernel_rfl
theorem vh_tf51_0 : fieldOff Try.prog 51 0 0 = true := by kernel_rfl
theorem vh_tf51_1 : fieldOff Try.prog 51 1 1 = true := by kernel_rfl
theorem vh_tl46 : tySlice Try.prog 46 51 = true := by kernel_rfl
theorem vh_tl54 : tySlice Try.prog 54 53 = true := by kernel_rfl
theorem vh_ts25 : tyScalar Try.prog 25 = true := by kernel_rfl
theorem vh_ts9 : tyScalar Try.prog 9 = true := by kernel_rfl
theorem vh_tz49 : tySize Try.prog 49 2 = true := by kernel_rfl
theorem vh_tz51 : tySize Try.prog 51 3 = true := by kernel_rfl
theorem rK_in {i : Nat} (h : i < 10) : rK i ∈ UR := by
  have : ∀ i, i < 10 → rK i ∈ UR := by decide
  exact this i h
theorem begE_get : ∀ (l : List (Ky × List UInt8)) (e : En), (l.map Prod.fst).Nodup → ∀ j, aGet (l.foldl (fun e p => setE p.1 p.2 e) e).inp j = match aGet l j with | some v => some v | none => aGet e.inp j
  | [], e, _, j => rfl
  | p :: l, e, hn, j => by
    rw [List.map_cons, List.nodup_cons] at hn
    rw [List.foldl_cons, begE_get l _ hn.2 j, setE_inp, aGet_set, aGet]
    by_cases e1 : p.1 = j
    · subst e1
      have h0 : aGet l p.1 = none := aGet_none.2 hn.1
      rw [h0, if_pos rfl, if_pos rfl]
    · rw [if_neg e1, if_neg e1]
theorem beg2 {l : List (Ky × List UInt8)} {i : Nat} {v : List UInt8} (h : Rl 10 l) (hi : i < 10) : aGet (begE ((rK i, v) :: l)).inp = aGet l := by
  funext j
  have h1 := begE_get l (setE (rK i) v newE) h.nd j
  have h2 : aGet (begE ((rK i, v) :: l)).inp j = _ := h1
  rw [h2, setE_inp, aGet_set]
  cases hj : aGet l j with
  | some s => rfl
  | none =>
    rw [aGet_none, h.ks] at hj
    rw [if_neg]
    · rfl
    · rintro rfl
      exact hj (List.mem_map_of_mem (List.mem_range.2 hi))
theorem cov2 {l : List (Ky × List UInt8)} {i : Nat} {v : List UInt8} (h : Rl 10 l) (hi : i < 10) : Cov (begE ((rK i, v) :: l)) := by
  intro k hk hn
  rw [beg2 h hi] at hn
  exact cov_beg h k hk (by rw [begE_is h.nd]; exact hn)
theorem v42 {l : List (Ky × List UInt8)} {i : Nat} (h : Rl 10 l) : ∀ p, p ∈ (rK i, ([48, 48, 48, 49] : List UInt8)) :: l → p.2.length ≤ 4 := fun p hp => by
  rcases List.mem_cons.1 hp with e | hp
  · rw [e]; exact Nat.le_refl _
  · exact h.v4 hp
theorem ko2 {l : List (Ky × List UInt8)} {i : Nat} (h : Rl 10 l) (hi : i < 10) : ∀ p, p ∈ (rK i, ([48, 48, 48, 49] : List UInt8)) :: l → KO p.1 := fun p hp => by
  rcases List.mem_cons.1 hp with e | hp
  · rw [e]; exact (UR_ko _ (rK_in hi)).1
  · exact h.ko hp
theorem fresh2 {l : List (Ky × List UInt8)} {i : Nat} {k : Ky} (h : Rl 10 l) (hi : i < 10) (hk : k ∈ UR) : (getE ruleR (UR.length + 1) k 1048576 (begE ((rK i, ([48, 48, 48, 49] : List UInt8)) :: l))).1 = (RG l k).1 := by
  have hU : UR.length = 20 := rfl
  exact get_fresh2 ruleR_k (Nat.lt_succ_self _) (Nat.lt_succ_self _) hk (begE_bt2 _ newE Bt.new (v42 h)) (Bt.nil l fun p hp => .of0 (h.v4 hp)) (beg2 h hi) (by omega) (by omega)
theorem fresh3 {l : List (Ky × List UInt8)} {i : Nat} {p : Ky × List UInt8} (h : Rl 10 l) (hi : i < 10) (hp : l[i]? = some p) : p.1 = rK i ∧ (getE ruleR (UR.length + 1) (rK i) 1048576 (begE ((rK i, ([48, 48, 48, 49] : List UInt8)) :: l))).1 = ⟨p.2, 0⟩ := by
  have h1 : (l.map Prod.fst)[i]? = some p.1 := by rw [List.getElem?_map, hp]; rfl
  rw [h.ks, List.getElem?_map, List.getElem?_range hi] at h1
  have h2 : p.1 = rK i := (Option.some.inj h1).symm
  refine ⟨h2, get_inp ?_⟩
  rw [beg2 h hi]
  refine aGet_of h.nd ?_
  rw [← h2]; exact List.mem_of_getElem? hp
theorem new_nil {M : List HP} {F : List Fact} : Ctr Try.prog 10 [I 0, .nilFunc] M F Unit (fun _ => .tuple #[.pointer none, I 1]) (fun _ => M) (fun _ => F) := by
  refine Ctr.body Try.func10 rfl rfl ?_
  refine TR.seq ?_
  refine TR.region ?_
  refine RL.assign rfl rfl rfl ?_
  refine RL.assign rfl rfl rfl ?_
  refine RL.nil ?_
  refine NX.seq ?_
  refine TR.seq ?_
  refine TR.seq ?_
  refine TR.region ?_
  refine RL.move rfl rfl rfl ?_
  refine RL.bin rfl rfl rfl (BinV.to (d := false) BinV.lss (decide_eq_false (by decide))) rfl ?_
  refine RL.move rfl rfl rfl ?_
  refine RL.move rfl rfl rfl ?_
  refine RL.bin rfl rfl rfl (BinV.eqlNilNil fn_ty) rfl ?_
  refine RL.pickF rfl rfl rfl rfl ?_
  refine RL.nil ?_
  refine NX.seq ?_
  refine TR.condT rfl ?_
  refine TR.seq ?_
  refine TR.region ?_
  refine RL.assign rfl rfl rfl ?_
  refine RL.assign rfl rfl rfl ?_
  refine RL.nil ?_
  refine NX.seq ?_
  refine TR.ret ?_
  refine NX.retThen ?_
  exact NX.ret2 () rfl rfl rfl rfl (fun w hw => hw)
theorem fresh_nil {v1 v3 : Value} {M : List HP} {F : List Fact} : Ctr Try.prog 25 [v1, .nilFunc, v3] M F Unit (fun _ => .tuple #[S [], I 1]) (fun _ => M) (fun _ => F) := by
  refine Ctr.body Try.func25 rfl rfl ?_
  refine TR.seq ?_
  refine TR.region ?_
  refine RL.assign rfl rfl rfl ?_
  refine RL.assign rfl rfl rfl ?_
  refine RL.nil ?_
  refine NX.seq ?_
  refine TR.seq ?_
  refine TR.region ?_
  refine RL.move rfl rfl rfl ?_
  refine RL.call rfl rfl Try.call10 rfl (new_nil) (fun _ => ?_)
  refine RL.move rfl rfl rfl ?_
  refine RL.extract rfl rfl rfl rfl ?_
  refine RL.extract rfl rfl rfl rfl ?_
  refine RL.assign rfl rfl rfl ?_
  refine RL.assign rfl rfl rfl ?_
  refine RL.nil ?_
  refine NX.seq ?_
  refine TR.seq ?_
  refine TR.seq ?_
  refine TR.region ?_
  refine RL.move rfl rfl rfl ?_
  refine RL.bin rfl rfl rfl (BinV.to (d := true) BinV.neq (decide_eq_true (by decide))) rfl ?_
  refine RL.nil ?_
  refine NX.seq ?_
  refine TR.condT rfl ?_
  refine TR.seq ?_
  refine TR.region ?_
  refine RL.move rfl rfl rfl ?_
  refine RL.assign rfl rfl rfl ?_
  refine RL.assign rfl rfl rfl ?_
  refine RL.nil ?_
  refine NX.seq ?_
  refine TR.ret ?_
  refine NX.retThen ?_
  exact NX.ret2 () rfl rfl rfl rfl (fun w hw => hw)
set_option maxHeartbeats 1000000 in
theorem law_fresh {xs : List Int} {oa : Option Addr} {ca : Nat} {n1 again : Int} {M : List HP} {F : List Fact} (ha : ArrF oa (ints xs) ∈ F) (hxs : IntsOk xs) (hag : -9223372036854775808 ≤ again ∧ again ≤ 9223372036854775807) : Ctr Try.prog 7 [.slice oa xs.length ca, I n1, I again] M F Unit (fun _ => .bool true) (fun _ => M) (fun _ => F) := by
  refine Ctr.body Try.func7 rfl rfl ?_
  refine TR.seq ?_
  refine TR.region ?_
  refine RL.assign rfl rfl rfl ?_
  refine RL.nil ?_
  refine NX.seq ?_
  refine TR.seq ?_
  refine TR.region ?_
  refine RL.move rfl rfl rfl ?_
  refine RL.call rfl rfl Try.call24 rfl (begin_spec ha hxs) (fun lz => ?_)
  have hlz := bgL_rl xs 10
  have hll := hlz.len
  refine RL.assign rfl rfl rfl ?_
  refine RL.nil ?_
  refine NX.seq ?_
  refine TR.seq ?_
  refine TR.weak (fun w hw => St.keepSl hw) ?_
  refine TR.region ?_
  refine RL.move rfl rfl rfl ?_
  refine RL.call rfl rfl Try.call9 rfl (around_spec (by decide) hag.1 hag.2) (fun _ => ?_)
  have hk10 : arN again 10 < 10 := by have := arN_lt (n := again) (m := 10) (by decide); omega
  obtain ⟨p0, hp0⟩ : ∃ p0, (bgL xs 10)[arN again 10]? = some p0 := ⟨_, List.getElem?_eq_getElem (by omega)⟩
  obtain ⟨hpk, hpv⟩ := fresh3 hlz hk10 hp0
  refine RL.assign rfl rfl rfl ?_
  refine RL.nil ?_
  refine NX.seq ?_
  refine TR.seq ?_
  refine TR.openP (open_arr (.head _) (inA_ne hp0)) (fun x hx => ?_)
  refine TR.region ?_
  refine RL.move rfl rfl rfl ?_
  refine RL.move rfl rfl rfl ?_
  refine RL.indexAddr rfl vh_tl46 vh_tz51 (congrArg (fun a => some (Value.slice a _ _)) hx) rfl (by omega) (by omega) rfl ?_
  refine RL.fieldAddr rfl vh_tf51_0 rfl rfl ?_
  refine RL.loadF rfl rfl (fun w K hF => run_loadCell1 (j := (((arN again 10) : Nat) : Int).toNat * 3 + 0) (hF (CellsF x.1 x.2 (inA (bgL xs 10))) (.head _)) vh_ts9 (by rw [Int.toNat_natCast, Nat.add_zero]; exact (inA_at hp0).1)) rfl ?_
  refine RL.build rfl rfl (vh_bv53_0_1 _ _) rfl ?_
  refine RL.buildSlice rfl rfl (vh_bs54_1_0 _ _) rfl (fun b1 => ?_)
  refine RL.assign rfl rfl rfl ?_
  refine RL.nil ?_
  refine NX.seq ?_
  refine TR.seq ?_
  refine TR.seq ?_
  rw [hpk]
  refine TR.weak (fun w hw => St.boxSl (n := 1) (size := 2) rfl (by decide) hw) ?_
  refine TR.region ?_
  refine RL.assign rfl rfl rfl ?_
  refine RL.nil ?_
  refine NX.seq ?_
  refine TR.block ?_
  refine TR.loopP (ι := (Nat × Option Addr × Nat)) (fun i => i.1 ≤ 10) (fun i => [(7, .slice lz.1 (bgL xs 10).length lz.2), (8, I ((arN again 10) : Nat)), (9, .slice i.2.1 (1 + i.1) i.2.2), (10, I (i.1 : Nat))]) (fun i => OwnSl 53 2 i.2.1 (1 + i.1) i.2.2 (in2 ((rK (arN again 10), ([48, 48, 48, 49] : List UInt8)) :: (bgL xs 10).take i.1)) :: M) (fun i => CellsF x.1 x.2 (inA (bgL xs 10)) :: ArrF lz.1 (inA (bgL xs 10)) :: F) (fun i => (10 - i.1)) (0, some ⟨b1, 0, none⟩, 1) (Nat.zero_le _) ⟨rfl, rfl, rfl, rfl, trivial⟩ (fun w hw => (hw.to 1 [0] 2 [0, 1] rfl)) (fun i hi0 => ?_)
  refine TR.seq ?_
  refine TR.seq ?_
  refine TR.region ?_
  refine RL.move rfl rfl rfl ?_
  refine RL.move rfl rfl rfl ?_
  refine RL.lenSlice rfl vh_tl46 rfl rfl ?_
  refine RL.bin rfl rfl rfl BinV.lss rfl ?_
  refine RL.nil ?_
  refine NX.seq ?_
  refine TR.cond rfl (fun h2 => ?_) (fun h2 => ?_)
  · skip
    have hi : i.1 < (bgL xs 10).length := by have := of_decide_eq_true h2; omega
    obtain ⟨p, hp⟩ : ∃ p, (bgL xs 10)[i.1]? = some p := ⟨_, List.getElem?_eq_getElem hi⟩
    have htl : ((bgL xs 10).take i.1).length = i.1 := by rw [List.length_take]; omega
    refine TR.skip ?_
    refine NX.seq ?_
    refine TR.seq ?_
    refine TR.block ?_
    refine TR.sub (E' := [(7, _), (8, _), (9, _), (10, _), (30, _), (31, _), (32, _), (33, _)]) ⟨rfl, rfl, rfl, rfl, rfl, rfl, rfl, rfl, trivial⟩ ?_
    refine TR.draw mixed ?_
    apply AR.more [(0, _), (1, _), (2, _), (3, _), (4, _), (5, _), (6, _), (7, _), (8, _), (9, _), (10, _), (11, _), (12, _)]
    refine AR.eff [0, 1, 2, 3, 4, 5, 6, 7, 8, 9, 10, 11, 12] 13 [0, 1, 2, 3, 4, 5, 6, 7, 8, 9, 10, 11, 12, 13, 14, 15] ⟨QOne.yes rfl rfl rfl (PV.move rfl), QOne.yes rfl rfl rfl (PV.move rfl), QOne.yes rfl rfl rfl (PV.move rfl), QOne.yes rfl rfl rfl (PV.indexAddr vh_tl46 vh_tz51 (congrArg (fun a => some (Value.slice a _ _)) hx) rfl (by omega) (by omega)), QOne.yes rfl rfl rfl (PV.fieldAddr vh_tf51_0 rfl), QOne.yes rfl rfl rfl (PV.loadF rfl (fun w K hF => run_loadCell1 (j := ((i.1 : Nat) : Int).toNat * 3 + 0) (hF (CellsF x.1 x.2 (inA (bgL xs 10))) (.head _)) vh_ts9 (by rw [Int.toNat_natCast, Nat.add_zero]; exact (inA_at hp).1))), QOne.yes rfl rfl rfl (PV.move rfl), QOne.yes rfl rfl rfl (PV.move rfl), QOne.yes rfl rfl rfl (PV.indexAddr vh_tl46 vh_tz51 (congrArg (fun a => some (Value.slice a _ _)) hx) rfl (by omega) (by omega)), QOne.yes rfl rfl rfl (PV.fieldAddr vh_tf51_1 rfl), QOne.yes rfl rfl rfl (PV.fieldAddr vh_tf49_0 rfl), QOne.yes rfl rfl rfl (PV.loadF rfl (fun w K hF => run_loadCell1 (j := ((i.1 : Nat) : Int).toNat * 3 + 1) (hF (CellsF x.1 x.2 (inA (bgL xs 10))) (.head _)) vh_ts9 (by rw [Int.toNat_natCast]; exact (inA_at hp).2.1))), QOne.yes rfl rfl rfl (PV.build rfl (vh_bv53_0_1 _ _)), trivial⟩ rfl rfl rfl rfl rfl rfl rfl (EV.buildSlice rfl (vh_bs54_1_0 _ _)) (fun b3 => ?_)
    refine AR.done [12, 5, 11, 10, 4, 3, 9, 8, 1, 2, 6, 7] rfl ?_
    refine AR.eff [0] 14 [0, 1, 2, 3, 4, 5, 6, 7, 8, 9, 10, 11, 12, 13, 14, 15] ⟨QOne.yes rfl rfl rfl (PV.move rfl), trivial⟩ rfl rfl rfl rfl rfl rfl rfl (EV.ofGV (GV.append (j := 1) vh_tl54 vh_ni54 vh_te53 rfl rfl rfl (src_box (i := 0) rfl rfl rfl) (by omega) (by omega))) (fun y => ?_)
    refine AR.done [0] rfl ?_
    apply AR.more [(15, _)]
    refine AR.last [15] [0, 1, 2, 3, 4, 5, 6, 7, 8, 9, 10, 11, 12, 13, 14, 15] ⟨QOne.yes rfl rfl rfl (PV.assign rfl), trivial⟩ rfl rfl rfl ?_
    refine NX.sub (E' := [(7, _), (8, _), (9, _), (10, _), (30, _), (31, _), (32, _), (33, _), (36, _), (37, _), (38, _), (39, _), (40, _), (41, _), (42, _), (43, _), (44, _), (45, _), (46, _), (47, _), (48, _), (49, _), (50, _)]) ⟨rfl, rfl, rfl, rfl, rfl, rfl, rfl, rfl, rfl, rfl, rfl, rfl, rfl, rfl, rfl, rfl, rfl, rfl, rfl, rfl, rfl, rfl, rfl, trivial⟩ ?_
    refine NX.off ?_
    refine NX.seq ?_
    refine TR.region ?_
    refine RL.move rfl rfl rfl ?_
    refine RL.bin rfl rfl rfl (BinV.add ((i.1 + 1 : Nat) : Int) (by omega) (by omega) (by omega)) rfl ?_
    refine RL.assign rfl rfl rfl ?_
    refine RL.nil ?_
    refine NX.roundP (i.1 + 1, y.1, y.2) (by show i.1 + 1 ≤ 10; omega) (by show 10 - (i.1 + 1) < 10 - i.1; omega) ⟨rfl, rfl, rfl, rfl, trivial⟩ (fun w hw => (by have h9 := (hw.to 2 [1] 2 [0, 1] rfl); rw [take_snoc hp, ← List.cons_append, in2_append]; exact h9))
  · skip
    have hi : i.1 = 10 := by have := of_decide_eq_false h2; omega
    refine TR.exit ?_
    refine NX.exitThen ?_
    refine NX.exitThen ?_
    refine NX.exitHere ?_
    refine NX.seq ?_
    refine TR.seq ?_
    refine TR.seq ?_
    have htk : (bgL xs 10).take i.1 = (bgL xs 10) := List.take_of_length_le (by omega)
    refine TR.weak (fun w hw => St.keepSl hw) ?_
    rw [htk]
    refine TR.region ?_
    refine RL.assign rfl rfl rfl ?_
    refine RL.nil ?_
    refine NX.seq ?_
    refine TR.block ?_
    refine TR.loopP (ι := Nat) (fun z => z ≤ 10) (fun z => [(7, .slice lz.1 (bgL xs 10).length lz.2), (8, I ((arN again 10) : Nat)), (9, .slice i.2.1 ((rK (arN again 10), ([48, 48, 48, 49] : List UInt8)) :: (bgL xs 10)).length i.2.2), (11, I (z : Nat))]) (fun z => M) (fun z => ArrF i.2.1 (in2 ((rK (arN again 10), ([48, 48, 48, 49] : List UInt8)) :: (bgL xs 10))) :: CellsF x.1 x.2 (inA (bgL xs 10)) :: ArrF lz.1 (inA (bgL xs 10)) :: F) (fun z => (10 - z)) 0 (Nat.zero_le _) ⟨rfl, rfl, by show some (Value.slice i.2.1 (1 + i.1) i.2.2) = some (.slice i.2.1 ((bgL xs 10).length + 1) i.2.2); rw [show 1 + i.1 = (bgL xs 10).length + 1 from by omega], rfl, trivial⟩ (fun w hw => (hw.to 0 [] 3 [0, 1, 2] rfl)) (fun z hz => ?_)
    refine TR.seq ?_
    refine TR.seq ?_
    refine TR.region ?_
    refine RL.move rfl rfl rfl ?_
    refine RL.bin rfl rfl rfl BinV.lss rfl ?_
    refine RL.nil ?_
    refine NX.seq ?_
    refine TR.cond rfl (fun h5 => ?_) (fun h5 => ?_)
    · skip
      have hz10 : z < 10 := by have := of_decide_eq_true h5; omega
      refine TR.skip ?_
      refine NX.seq ?_
      refine TR.seq ?_
      refine TR.block ?_
      refine TR.seq ?_
      refine TR.region ?_
      refine RL.move rfl rfl rfl ?_
      refine RL.move rfl rfl rfl ?_
      refine RL.call rfl rfl Try.call16 rfl (node_spec (n := z)) (fun _ => ?_)
      refine RL.call rfl rfl Try.call25 rfl (fresh_spec (l := ((rK (arN again 10), ([48, 48, 48, 49] : List UInt8)) :: (bgL xs 10))) (key := nK z) (.head _) (ko2 hlz hk10) (v42 hlz) (cov2 hlz hk10) (nK_in _) (by show (bgL xs 10).length + 1 ≤ 1000; omega)) (fun _ => ?_)
      refine RL.move rfl rfl rfl ?_
      refine RL.extract rfl rfl rfl rfl ?_
      refine RL.extract rfl rfl rfl rfl ?_
      refine RL.assign rfl rfl rfl ?_
      refine RL.assign rfl rfl rfl ?_
      refine RL.nil ?_
      refine NX.seq ?_
      refine TR.seq ?_
      refine TR.region ?_
      refine RL.move rfl rfl rfl ?_
      refine RL.move rfl rfl rfl ?_
      refine RL.call rfl rfl Try.call16 rfl (node_spec (n := z)) (fun _ => ?_)
      refine RL.call rfl rfl Try.call26 rfl (rfresh_spec (l := (bgL xs 10)) (k := nK z) (nK_in _) (.tail _ (.tail _ (.head _))) (by omega) (fun p hp => hlz.v4 hp)) (fun _ => ?_)
      have hEq := fresh2 (k := nK z) hlz hk10 (nK_in z)
      refine RL.allocA rfl (Try.zeroValue49) rfl (fun b6 => ?_)
      refine RL.storeA 0 rfl rfl rfl rfl vh_tz49 rfl rfl ?_
      refine RL.nil ?_
      refine NX.seq ?_
      refine TR.seq ?_
      refine TR.region ?_
      refine RL.move rfl rfl rfl ?_
      refine RL.fieldAddr rfl vh_tf49_0 rfl rfl ?_
      refine RL.load1 0 rfl vh_ts9 rfl rfl rfl rfl ?_
      refine RL.bin rfl rfl rfl (BinV.to (d := false) BinV.neqS (decide_eq_false (by rw [hEq]; simp))) rfl ?_
      refine RL.move rfl rfl rfl ?_
      refine RL.move rfl rfl rfl ?_
      refine RL.fieldAddr rfl vh_tf49_1 rfl rfl ?_
      refine RL.load1 0 rfl vh_ts25 rfl rfl rfl rfl ?_
      refine RL.bin rfl rfl rfl (BinV.to (d := false) BinV.neq (decide_eq_false (by rw [hEq]; simp))) rfl ?_
      refine RL.pickF rfl rfl rfl rfl ?_
      refine RL.nil ?_
      refine NX.seq ?_
      refine TR.condF rfl ?_
      refine TR.skip ?_
      refine NX.off ?_
      refine NX.seq ?_
      refine TR.region ?_
      refine RL.move rfl rfl rfl ?_
      refine RL.bin rfl rfl rfl (BinV.add ((z + 1 : Nat) : Int) (by omega) (by omega) (by omega)) rfl ?_
      refine RL.assign rfl rfl rfl ?_
      refine RL.nil ?_
      refine NX.roundP (z + 1) (by omega) (by omega) ⟨rfl, rfl, rfl, rfl, trivial⟩ (fun w hw => (hw.to 1 [] 3 [0, 1, 2] rfl))
    · skip
      have hz10 : z = 10 := by have := of_decide_eq_false h5; omega
      refine TR.exit ?_
      refine NX.exitThen ?_
      refine NX.exitThen ?_
      refine NX.exitHere ?_
      refine NX.seq ?_
      refine TR.seq ?_
      refine TR.region ?_
      refine RL.move rfl rfl rfl ?_
      refine RL.call rfl rfl Try.call25 rfl (fresh_nil) (fun _ => ?_)
      refine RL.move rfl rfl rfl ?_
      refine RL.extract rfl rfl rfl rfl ?_
      refine RL.extract rfl rfl rfl rfl ?_
      refine RL.assign rfl rfl rfl ?_
      refine RL.assign rfl rfl rfl ?_
      refine RL.nil ?_
      refine NX.seq ?_
      refine TR.seq ?_
      refine TR.region ?_
      refine RL.move rfl rfl rfl ?_
      refine RL.move rfl rfl rfl ?_
      refine RL.call rfl rfl Try.call13 rfl (dec_spec (n := arN again 10) (by omega)) (fun _ => ?_)
      refine RL.bin rfl rfl rfl (BinV.addS (by have := dec_len (n := arN again 10) (by omega); simp only [List.length_cons, List.length_nil]; omega)) rfl ?_
      refine RL.call rfl rfl Try.call25 rfl (fresh_spec (l := ((rK (arN again 10), ([48, 48, 48, 49] : List UInt8)) :: (bgL xs 10))) (key := rK (arN again 10)) (.head _) (ko2 hlz hk10) (v42 hlz) (cov2 hlz hk10) (rK_in hk10) (by show (bgL xs 10).length + 1 ≤ 1000; omega)) (fun _ => ?_)
      refine RL.move rfl rfl rfl ?_
      refine RL.extract rfl rfl rfl rfl ?_
      refine RL.extract rfl rfl rfl rfl ?_
      refine RL.assign rfl rfl rfl ?_
      refine RL.assign rfl rfl rfl ?_
      refine RL.nil ?_
      refine NX.seq ?_
      refine TR.seq ?_
      refine TR.region ?_
      refine RL.move rfl rfl rfl ?_
      refine RL.bin rfl rfl rfl (BinV.to (d := true) BinV.eql (decide_eq_true (by decide))) rfl ?_
      refine RL.move rfl rfl rfl ?_
      refine RL.move rfl rfl rfl ?_
      refine RL.bin rfl rfl rfl (BinV.to (d := true) BinV.eql (decide_eq_true (by rw [hpv]))) rfl ?_
      refine RL.pickT rfl rfl rfl rfl ?_
      refine RL.move rfl rfl rfl ?_
      refine RL.move rfl rfl rfl ?_
      refine RL.move rfl rfl rfl ?_
      refine RL.move rfl rfl rfl ?_
      refine RL.indexAddr rfl vh_tl46 vh_tz51 (congrArg (fun a => some (Value.slice a _ _)) hx) rfl (by omega) (by omega) rfl ?_
      refine RL.fieldAddr rfl vh_tf51_1 rfl rfl ?_
      refine RL.fieldAddr rfl vh_tf49_0 rfl rfl ?_
      refine RL.loadF rfl rfl (fun w K hF => run_loadCell1 (j := (((arN again 10) : Nat) : Int).toNat * 3 + 1) (hF (CellsF x.1 x.2 (inA (bgL xs 10))) (.tail _ (.head _))) vh_ts9 (by rw [Int.toNat_natCast]; exact (inA_at hp0).2.1)) rfl ?_
      refine RL.bin rfl rfl rfl (BinV.to (d := true) BinV.eqlS (decide_eq_true (by rw [hpv]))) rfl ?_
      refine RL.pickT rfl rfl rfl rfl ?_
      refine RL.move rfl rfl rfl ?_
      refine RL.call rfl rfl Try.call17 rfl (lives_spec) (fun _ => ?_)
      refine RL.pickT rfl rfl rfl rfl ?_
      refine RL.assign rfl rfl rfl ?_
      refine RL.nil ?_
      refine NX.seq ?_
      refine TR.ret ?_
      exact NX.ret1 () rfl rfl rfl (fun w hw => (hw.to 0 [] 3 [] rfl))
end Go.Proofs.Ythefimaaeilefaa

namespace Go.Proofs.Ythefimaaeilefaa
open Go.ChangeShapes Go.WideShapes Go.ChangeAt Go.RowKit Go.GL Go.GL.Tree
theorem memoFresh_params : Try.f7.params = #[22, 3, 3] := by kernel_rfl
set_option maxRecDepth 100000 in
theorem memoFresh_lifted (os : Os) (started : os.Started) (H : Type) (enc : TypeId × Value → H) :
    ReturnsInHanded {} Try.checked os 7 .any (Rows.memoFreshSpec.pre6 enc Try.prog Try.f7 Rows.memoFreshRow.domain false) (Rows.memoFreshSpec.post enc Try.prog Try.f7 false true false false) := by
  refine returnsInHanded_of_change (C := Try.checked) own_ started (by kernel_rfl) Try.func7
    (ChangeSpec.witness6 (enc := enc) (C := Try.checked) false ⟨#[], #[.slice none 0 0, .int .i64 0, .int .i64 0], []⟩ 8 (by kernel_rfl) (by kernel_rfl) (by kernel_rfl) (by kernel_rfl)) ?_
  intro W base args ds gs before hval0 hW _ _
  have hval : ∀ (j : Nat) t v, Try.f7.params[j]? = some t → args[j]? = some v → Value.okWide Try.prog W .any base t v := hval0
  have hW' := hW
  obtain ⟨p, q, hA0, hV, rfl, hfz, hnd⟩ := hW
  have hA : DataW.TrodAll enc Try.prog W 0 (fun _ => true) true Try.f7.params.toList args.toList ds p := hA0
  rw [memoFresh_params] at hA hval
  obtain ⟨v0, vs0, d0, ds0, p0, q0, hargs, rfl, rfl, h0, r0⟩ := trodAll_cons hA
  obtain ⟨v1, vs1, d1, ds1, p1, q1, rfl, rfl, rfl, h1, r1⟩ := trodAll_cons r0
  obtain ⟨v2, vs2, d2, ds2, p2, q2, rfl, rfl, rfl, h2, r2⟩ := trodAll_cons r1
  obtain ⟨rfl, rfl, rfl⟩ := trodAll_nil r2
  obtain rfl : args = #[v0, v1, v2] := by cases args; simp_all
  obtain ⟨oa0, ca0, xs0, rfl, hxa0, hxl0, hxm0, hxr0⟩ := in_ints1 sl22 i64_3 one3 (hval 0 22 v0 rfl rfl) h0
  have hok0 : IntsOk xs0 := ⟨by simp [maxLen] at hxm0; omega, hxr0⟩
  obtain ⟨o1, rfl, _, _, ho1⟩ := open_int (isI64_is i64_3) (hval 1 3 v1 rfl rfl) h1
  have hoi1 : -9223372036854775808 ≤ o1 ∧ o1 ≤ 9223372036854775807 := by simpa [Lit.wf, IntKind.min, IntKind.max, IntKind.signed, IntKind.bits] using ho1
  obtain ⟨o2, rfl, _, _, ho2⟩ := open_int (isI64_is i64_3) (hval 2 3 v2 rfl rfl) h2
  have hoi2 : -9223372036854775808 ≤ o2 ∧ o2 ≤ 9223372036854775807 := by simpa [Lit.wf, IntKind.min, IntKind.max, IntKind.signed, IntKind.bits] using ho2
  have hwalk := law_run (W := W) (law_fresh (xs := xs0) (oa := oa0) (ca := ca0) (n1 := o1) (again := o2) (M := []) (F := [OldF W, ArrF oa0 (ints xs0)]) (.tail _ (.head _)) hok0 hoi2) (fun φ hφ => by
      rcases List.mem_cons.1 hφ with e | hφ
      · subst e; exact hxa0
      cases hφ)
  exact hwalk.mono fun e W' ⟨he, hb⟩ => ⟨_, he, law_post (tb := 4) laidOut_ (by kernel_rfl) rfl (by kernel_rfl) (by kernel_rfl) rfl hW' hb⟩
theorem memoFresh_holds : Rows.MemoFreshSaid :=
  OpenClaim.holds_of_wide 7 Try.f7 rfl rfl rfl rfl rfl rfl rfl ⟨rfl, rfl, rfl, rfl, rfl⟩ rfl rfl rfl rfl rfl (by kernel_rfl) Try.func7 (by kernel_rfl)
    (of_decide_eq_true (by kernel_rfl)) (by unfold Func.isWrapper; first | (rw [if_pos (by decide +kernel)]; kernel_rfl) | (rw [if_neg (by decide +kernel)]; exact ⟨rfl, rfl⟩))
    (fun os started H enc _ => memoFresh_lifted os started H enc)
end Go.Proofs.Ythefimaaeilefaa
