/- Walks of the functions of package syntax and of its reference model. Printed by s07.py. -/
import Derived.Test.YtnolpmigiboanaaSm5
import Derived.Test.YtnolpmigiboanaaTl
namespace Go.Proofs.Ytnolpmigiboanaa
open Go.GL Go.GL.Tree
theorem x_bv25_  : BuildV Try.prog 25 [] (.agg #[.int .i64 0, .int .i64 0, S [], .slice none 0 0]) := fun w => by kernel_rfl
theorem x_ta25 : tyAgg Try.prog 25 4 = true := by kernel_rfl
theorem x_tf25_3 : fieldOff Try.prog 25 3 3 = true := by kernel_rfl
theorem x_tl22 : tySlice Try.prog 22 3 = true := by kernel_rfl
theorem x_tl23 : tySlice Try.prog 23 25 = true := by kernel_rfl
theorem x_ts23 : tyScalar Try.prog 23 = true := by kernel_rfl
theorem x_ts3 : tyScalar Try.prog 3 = true := by kernel_rfl
theorem x_tz25 : tySize Try.prog 25 4 = true := by kernel_rfl
theorem x_tz3 : tySize Try.prog 3 1 = true := by kernel_rfl
theorem replace_spec {t : Tree} {a : Option Addr} {len cap : Nat} {M : List HP} {F : List Fact} {d : Nat} (hs : Small d t) (hd : d ≤ 8) (ht : TreeF t (nodeV t a len cap) ∈ F) {u : Tree} {a' : Option Addr} {len' cap' e : Nat} (hsu : Small e u) (he : e ≤ 8) (hu : TreeF u (nodeV u a' len' cap') ∈ F) {ps : List Int} {oa : Option Addr} {ca : Nat} (ha : ArrF oa (ints ps) ∈ F) (hps : ps.length ≤ 4611686018427387904) : Ctr Try.prog 24 [nodeV t a len cap, .slice oa ps.length ca, nodeV u a' len' cap'] M F {x : TX // x.t = (replR t ps u).1} (fun x => .tuple #[x.1.v, .bool (replR t ps u).2]) (fun _ => M) (fun x => TreeF x.1.t x.1.v :: F) := by
  refine Ctr.body Try.func24 rfl rfl ?_
  refine TR.seq ?_
  refine TR.region ?_
  refine RL.boxA rfl rfl rfl (fun b1 => ?_)
  refine RL.boxA rfl rfl rfl (fun b2 => ?_)
  refine RL.allocA rfl (Try.zeroValue25) rfl (fun b3 => ?_)
  refine RL.assign rfl rfl rfl ?_
  refine RL.nil ?_
  refine NX.seq ?_
  refine TR.seq ?_
  refine TR.region ?_
  refine RL.loadA 2 rfl rfl rfl x_ta25 rfl ?_
  refine RL.call rfl rfl Try.call56 rfl (clone_spec hs (by omega) ht) (fun v => ?_)
  refine RL.allocA rfl (Try.zeroValue25) rfl (fun b4 => ?_)
  refine RL.storeA 0 rfl rfl rfl rfl x_tz25 rfl rfl ?_
  refine RL.nil ?_
  refine NX.seq ?_
  refine TR.seq ?_
  refine TR.region ?_
  refine RL.assign rfl rfl rfl ?_
  refine RL.nil ?_
  refine NX.seq ?_
  refine TR.seq ?_
  refine TR.seq ?_
  refine TR.region ?_
  refine RL.move rfl rfl rfl ?_
  refine RL.lenSlice rfl x_tl22 rfl rfl ?_
  refine RL.move rfl rfl rfl ?_
  refine RL.nil ?_
  refine NX.seq ?_
  refine TR.block ?_
  refine TR.loopP (ι := ZX) (fun x => x.Ok v.1.t ps b4 (Box b3 25 [I 0, I 0, S [], .slice none 0 0] :: Box b1 25 (nodeC t a len cap) :: M)) (fun x => [(3, .pointer (some ⟨b1, 0, none⟩)), (5, .pointer (some ⟨b2, 0, none⟩)), (6, .pointer (some ⟨b3, 0, none⟩)), (7, .bool false), (8, .pointer (some ⟨b4, 0, none⟩)), (9, .pointer (some ⟨x.rb, x.c1.length, none⟩)), (14, .slice oa ps.length ca), (15, I ps.length), (16, I x.k)]) (fun x => x.M ⟨x.t, x.a, x.len, x.cap⟩) (fun _ => CellsF b2 0 (nodeC u a' len' cap') :: F) (fun x => ps.length - x.k) ⟨0, b4, 1, 1, [], [], v.1.t, v.1.a, v.1.len, v.1.cap, fun t => t, (Box b3 25 [I 0, I 0, S [], .slice none 0 0] :: Box b1 25 (nodeC t a len cap) :: M)⟩ (ZX.first v.1.t ps b4 (Box b3 25 [I 0, I 0, S [], .slice none 0 0] :: Box b1 25 (nodeC t a len cap) :: M) v.1.a v.1.len v.1.cap) ⟨rfl, rfl, rfl, rfl, rfl, rfl, rfl, rfl, rfl, trivial⟩ (fun w hw => St.boxSl (n := 1) (size := 4) rfl (by decide) (hw.front (i := 3) rfl).keep) (fun x hx => ?_)
  refine TR.seq ?_
  refine TR.region ?_
  refine RL.bin rfl rfl rfl BinV.lss rfl ?_
  refine RL.nil ?_
  refine NX.seq ?_
  refine TR.seq ?_
  refine TR.cond rfl (fun h5 => ?_) (fun h5 => ?_)
  · skip
    have hj1 : x.k < ps.length := by have := of_decide_eq_true h5; omega
    have hdk := List.drop_eq_getElem_cons hj1
    refine TR.open1 (ot_len (i := 1) rfl) (fun hlen => ?_)
    have hlen : x.len = x.t.kids.length := hlen
    refine TR.openP (open_arr (oa := oa) (xs := ints ps) (.tail _ ha) (ints_ne (by omega))) (fun q hpa => ?_)
    refine TR.skip ?_
    refine NX.seq ?_
    refine TR.seq ?_
    refine TR.block ?_
    refine TR.seq ?_
    refine TR.region ?_
    refine RL.indexAddr rfl x_tl22 x_tz3 (congrArg (fun a => some (Value.slice a _ _)) hpa) rfl (by omega) (by omega) rfl ?_
    refine RL.loadF rfl rfl (fun w K hF => run_loadCell1 (j := (x.k : Int).toNat * 1) (v := I ps[x.k]) (hF _ (.head _)) x_ts3 (by simp [hj1])) rfl ?_
    refine RL.assign rfl rfl rfl ?_
    refine RL.nil ?_
    refine NX.seq ?_
    refine TR.seq ?_
    refine TR.seq ?_
    refine TR.region ?_
    refine RL.move rfl rfl rfl ?_
    refine RL.bin rfl rfl rfl BinV.lss rfl ?_
    refine RL.move rfl rfl rfl ?_
    refine RL.part (fun h6 => ?_) (fun h6 => ?_)
    · skip
      have hout : ps[x.k] < 0 ∨ (x.t.kids.length : Int) ≤ ps[x.k] := by have := of_decide_eq_true h6; omega
      refine RL.skip rfl rfl rfl ?_
      refine RL.skip rfl rfl rfl ?_
      refine RL.skip rfl rfl rfl ?_
      refine RL.skip rfl rfl rfl ?_
      refine RL.skip rfl rfl rfl ?_
      refine RL.skip rfl rfl rfl ?_
      refine RL.skip rfl rfl rfl ?_
      refine RL.pickT rfl rfl rfl rfl ?_
      refine RL.nil ?_
      refine NX.seq ?_
      refine TR.condT rfl ?_
      refine TR.seq ?_
      refine TR.region ?_
      refine RL.openP (fun w hw => hx.close w _ ⟨x.t, x.a, x.len, x.cap⟩ hw) (fun y hy => ?_)
      refine RL.build rfl rfl (x_bv25_) rfl ?_
      refine RL.storeA 2 rfl rfl rfl rfl x_tz25 rfl rfl ?_
      refine RL.assign rfl rfl rfl ?_
      refine RL.nil ?_
      refine NX.seq ?_
      refine TR.ret ?_
      refine NX.retThen ?_
      refine NX.retBlock ?_
      refine NX.retThen ?_
      refine NX.retThen ?_
      refine NX.retBlock ?_
      refine NX.retThen ?_
      have h9 : replR t ps u = (.node 0 0 [] [], false) := by
        have h8 := hx.at_ u
        rw [hdk, repl_out hout, v.2] at h8
        unfold replR; rw [h8]; rfl
      refine NX.retC1 (j := 2) rfl rfl rfl rfl x_ta25 (fun w hw => ⟨⟨⟨.node 0 0 [] [], none, 0, 0⟩, by rw [h9]⟩, (by show _ = Value.tuple #[nodeV (.node 0 0 [] []) none 0 0, .bool (replR t ps u).2]; rw [h9]; rfl), ?_⟩)
      exact (((((hw.drop 0 rfl).drop 0 rfl).drop 0 rfl).drop 0 rfl).facts (fun φ h => by simp [h])).leafT 0 0 []
    · skip
      have hneg := of_decide_eq_false h6
      refine RL.move rfl rfl rfl ?_
      refine RL.move rfl rfl rfl ?_
      refine RL.nilCheck rfl rfl rfl ?_
      refine RL.fieldAddr rfl x_tf25_3 rfl rfl ?_
      refine RL.loadS rfl rfl (own_one (i := 0) rfl rfl x_ts23 (get_mid (j := 3) rfl)) rfl ?_
      refine RL.lenSlice rfl x_tl23 rfl rfl ?_
      refine RL.bin rfl rfl rfl BinV.geq rfl ?_
      refine RL.pickF rfl rfl rfl rfl ?_
      refine RL.nil ?_
      refine NX.seq ?_
      refine TR.cond rfl (fun h7 => ?_) (fun h7 => ?_)
      · skip
        have hout : ps[x.k] < 0 ∨ (x.t.kids.length : Int) ≤ ps[x.k] := by have : (x.len : Int) ≤ ps[x.k] := of_decide_eq_true h7; omega
        refine TR.seq ?_
        refine TR.region ?_
        refine RL.openP (fun w hw => hx.close w _ ⟨x.t, x.a, x.len, x.cap⟩ hw) (fun y hy => ?_)
        refine RL.build rfl rfl (x_bv25_) rfl ?_
        refine RL.storeA 2 rfl rfl rfl rfl x_tz25 rfl rfl ?_
        refine RL.assign rfl rfl rfl ?_
        refine RL.nil ?_
        refine NX.seq ?_
        refine TR.ret ?_
        refine NX.retThen ?_
        refine NX.retBlock ?_
        refine NX.retThen ?_
        refine NX.retThen ?_
        refine NX.retBlock ?_
        refine NX.retThen ?_
        have h9 : replR t ps u = (.node 0 0 [] [], false) := by
          have h8 := hx.at_ u
          rw [hdk, repl_out hout, v.2] at h8
          unfold replR; rw [h8]; rfl
        refine NX.retC1 (j := 2) rfl rfl rfl rfl x_ta25 (fun w hw => ⟨⟨⟨.node 0 0 [] [], none, 0, 0⟩, by rw [h9]⟩, (by show _ = Value.tuple #[nodeV (.node 0 0 [] []) none 0 0, .bool (replR t ps u).2]; rw [h9]; rfl), ?_⟩)
        exact (((((hw.drop 0 rfl).drop 0 rfl).drop 0 rfl).drop 0 rfl).facts (fun φ h => by simp [h])).leafT 0 0 []
      · skip
        have hge : ¬ (x.len : Int) ≤ ps[x.k] := of_decide_eq_false h7
        obtain ⟨i, hi⟩ := Int.eq_ofNat_of_zero_le (show 0 ≤ ps[x.k] by omega)
        have hik : i < x.t.kids.length := by omega
        refine TR.skip ?_
        refine NX.seq ?_
        refine TR.region ?_
        refine RL.move rfl rfl rfl ?_
        refine RL.nilCheck rfl rfl rfl ?_
        refine RL.fieldAddr rfl x_tf25_3 rfl rfl ?_
        refine RL.loadS rfl rfl (own_one (i := 0) rfl rfl x_ts23 (get_mid (j := 3) rfl)) rfl ?_
        refine RL.move rfl rfl rfl ?_
        refine RL.openP (ZX.down hik) (fun y hy => ?_)
        refine RL.indexAddr rfl x_tl23 x_tz25 (congrArg (fun a => some (Value.slice a _ _)) hy.2.1) (congrArg (fun z => some (I z)) hi) (by omega) (show (i : Int) < (x.len : Int) by omega) rfl ?_
        refine RL.assign rfl rfl rfl ?_
        refine RL.nil ?_
        refine NX.off ?_
        refine NX.seq ?_
        refine TR.region ?_
        refine RL.bin rfl rfl rfl (BinV.add _ rfl (by omega) (by omega)) rfl ?_
        refine RL.move rfl rfl rfl ?_
        refine RL.nil ?_
        refine NX.roundP (x.kid i y) (hx.kid hik hy.1 hy.2.1 hj1 hi) (by show _ - (x.k + 1) < _ - x.k; omega) ⟨rfl, rfl, rfl, rfl, rfl, congrArg (fun r => some (Value.pointer (some ⟨y.b, r, none⟩))) (by rw [hy.2.2]; simp), rfl, rfl, rfl, trivial⟩ (fun w hw => hw.facts (fun φ h => .tail _ h))
  · skip
    have hj2 : x.k = ps.length := by have := of_decide_eq_false h5; have := hx.k; omega
    refine TR.exit ?_
    refine NX.exitThen ?_
    refine NX.exitThen ?_
    refine NX.exitHere ?_
    refine NX.seq ?_
    refine TR.seq ?_
    refine TR.region ?_
    refine RL.move rfl rfl rfl ?_
    refine RL.loadF rfl rfl (fun w K hF => run_loadCellsAt (hF _ (.head _)) x_ta25) rfl ?_
    refine RL.call rfl rfl Try.call56 rfl (clone_spec hsu (by omega) (.tail _ hu)) (fun u1 => ?_)
    refine RL.nilCheck rfl rfl rfl ?_
    refine RL.ofEV rfl rfl (EV.storeO (vs := u1.1.c) 1 rfl rfl rfl rfl x_tz25 rfl (by simp) rfl) ?_
    refine RL.nil ?_
    refine NX.seq ?_
    refine TR.seq ?_
    refine TR.region ?_
    refine RL.openP (fun w hw => by
      have h9 : St w (OT 25 u1.1.t u1.1.a u1.1.len u1.1.cap :: OwnSl 25 4 (some ⟨x.rb, 0, none⟩) x.rn x.rc ((x.c1 ++ (nodeC x.t x.a x.len x.cap ++ x.c2)).take x.c1.length ++ u1.1.c ++ (x.c1 ++ (nodeC x.t x.a x.len x.cap ++ x.c2)).drop (x.c1.length + u1.1.c.length)) :: OT 25 x.t x.a x.len x.cap :: x.Mr) _ := hw
      rw [splice_mid x.c1 (nodeC x.t x.a x.len x.cap) x.c2 u1.1.c rfl] at h9
      exact hx.close w _ u1.1 ((h9.drop 2 rfl).swap)) (fun y hy => ?_)
    refine RL.loadA 0 rfl rfl rfl x_ta25 rfl ?_
    refine RL.storeA 2 rfl rfl rfl rfl x_tz25 rfl rfl ?_
    refine RL.assign rfl rfl rfl ?_
    refine RL.nil ?_
    refine NX.seq ?_
    refine TR.ret ?_
    have h9 : replR t ps u = (y.t, true) := by
      have h8 := hx.at_ u
      rw [hj2, List.drop_length, repl, v.2] at h8
      unfold replR; rw [h8, hy, u1.2]; rfl
    refine NX.retC1 (j := 2) rfl rfl rfl rfl x_ta25 (fun w hw => ⟨⟨y, by rw [h9]⟩, (by show _ = Value.tuple #[y.v, .bool (replR t ps u).2]; rw [h9]), ?_⟩)
    exact ((((hw.drop 0 rfl).drop 1 rfl).drop 1 rfl).otKeep).facts (fun φ h => by
      rcases List.mem_cons.1 h with e | h
      · subst e; exact .head _
      · exact .tail _ (.tail _ h))

end Go.Proofs.Ytnolpmigiboanaa
