/- Walks of the functions of package syntax and of its reference model. Printed by s07.py. -/
import Derived.Test.YtnolpmigiboanaaSm2
import Derived.Test.YtnolpmigiboanaaTc
namespace Go.Proofs.Ytnolpmigiboanaa
open Go.GL Go.GL.Tree
theorem m_bs22_1_0 (x0 : Int) : BuildSV Try.prog 22 3 1 [(0, .int .i64 x0)] [.int .i64 x0] := fun w => by kernel_rfl
theorem m_bv25_  : BuildV Try.prog 25 [] (.agg #[.int .i64 0, .int .i64 0, S [], .slice none 0 0]) := fun w => by kernel_rfl
theorem m_ni22 : noInt Try.prog 22 = true := by kernel_rfl
theorem m_ta25 : tyAgg Try.prog 25 4 = true := by kernel_rfl
theorem m_te3 : tyElem Try.prog 3 1 8 = true := by kernel_rfl
theorem m_tf25_3 : fieldOff Try.prog 25 3 3 = true := by kernel_rfl
theorem m_tl22 : tySlice Try.prog 22 3 = true := by kernel_rfl
theorem m_tl23 : tySlice Try.prog 23 25 = true := by kernel_rfl
theorem m_ts23 : tyScalar Try.prog 23 = true := by kernel_rfl
theorem m_ts3 : tyScalar Try.prog 3 = true := by kernel_rfl
theorem m_tstr9 : tyStr Try.prog 9 = true := by kernel_rfl
theorem m_tz25 : tySize Try.prog 25 4 = true := by kernel_rfl
theorem m_tz3 : tySize Try.prog 3 1 = true := by kernel_rfl
structure QX where
  k : Nat
  u : Tree
  a : Option Addr
  len : Nat
  cap : Nat
  oa : Option Addr
  oc : Nat
  ps : List Int

theorem route_spec {t : Tree} {a : Option Addr} {len cap : Nat} {M : List HP} {F : List Fact} {d : Nat} (hs : Small d t) (hd : d ≤ 8) (ht : TreeF t (nodeV t a len cap) ∈ F) {xs : List Int} {lo : Option Addr} {lc : Nat} (ha : ArrF lo (ints xs) ∈ F) (hxs : IntsOk xs) : Ctr Try.prog 15 [nodeV t a len cap, .slice lo xs.length lc] M F {z : RowI // z.ps.length ≤ 4 ∧ z.ps.length ≤ z.oc} (fun z => .slice z.1.oa z.1.ps.length z.1.oc) (fun _ => M) (fun z => ArrF z.1.oa (ints z.1.ps) :: F) := by
  refine Ctr.body Try.func15 rfl rfl ?_
  refine TR.seq ?_
  refine TR.region ?_
  refine RL.boxA rfl rfl rfl (fun b1 => ?_)
  refine RL.assign rfl rfl rfl ?_
  refine RL.nil ?_
  refine NX.seq ?_
  refine TR.seq ?_
  refine TR.region ?_
  refine RL.assign rfl rfl rfl ?_
  refine RL.nil ?_
  refine NX.seq ?_
  refine TR.seq ?_
  refine TR.seq ?_
  refine TR.region ?_
  refine RL.assign rfl rfl rfl ?_
  refine RL.nil ?_
  refine NX.seq ?_
  refine TR.block ?_
  refine TR.loopP (ι := QX) (fun x => x.k ≤ 4 ∧ x.ps.length = x.k ∧ Small d x.u) (fun x => [(1, .slice lo xs.length lc), (2, .pointer (some ⟨b1, 0, none⟩)), (4, .slice none 0 0), (5, .slice x.oa x.k x.oc), (6, I x.k)]) (fun x => OwnSl 3 1 x.oa x.k x.oc (ints x.ps) :: Box b1 25 (nodeC x.u x.a x.len x.cap) :: M) (fun x => TreeF x.u (nodeV x.u x.a x.len x.cap) :: F) (fun x => 4 - x.k) ⟨0, t, a, len, cap, none, 0, []⟩ ⟨Nat.zero_le _, rfl, hs⟩ ⟨rfl, rfl, rfl, rfl, rfl, trivial⟩ (fun w hw => OwnSl.nil_new 3 1 (hw.addFact (TreeF t (nodeV t a len cap)) (fun K hf => hf _ ht))) (fun x hx => ?_)
  refine TR.seq ?_
  refine TR.seq ?_
  refine TR.region ?_
  refine RL.move rfl rfl rfl ?_
  refine RL.move rfl rfl rfl ?_
  refine RL.call rfl rfl Try.call46 rfl (pick_spec (.tail _ ha) hxs (by omega)) (fun v3 => ?_)
  have hv3 := v3.2
  refine RL.bin rfl rfl rfl BinV.lss rfl ?_
  refine RL.nil ?_
  refine NX.seq ?_
  refine TR.cond rfl (fun h2 => ?_) (fun h2 => ?_)
  · skip
    have hk1 := of_decide_eq_true h2
    refine TR.open1 (open_node (.head _)) (fun hlen => ?_)
    refine TR.skip ?_
    refine NX.seq ?_
    refine TR.seq ?_
    refine TR.block ?_
    refine TR.seq ?_
    refine TR.region ?_
    refine RL.move rfl rfl rfl ?_
    refine RL.move rfl rfl rfl ?_
    refine RL.bin rfl rfl rfl (BinV.add _ rfl (by omega) (by omega)) rfl ?_
    refine RL.call rfl rfl Try.call46 rfl (pick_spec (by first | exact ha | exact .tail _ ha | exact .tail _ (.tail _ ha) | exact .tail _ (.tail _ (.tail _ ha))) hxs (by omega)) (fun v5 => ?_)
    have hv5 := v5.2
    refine RL.bin rfl rfl rfl (BinV.sub _ rfl (by omega) (by omega)) rfl ?_
    refine RL.assign rfl rfl rfl ?_
    refine RL.nil ?_
    refine NX.seq ?_
    refine TR.seq ?_
    refine TR.seq ?_
    refine TR.region ?_
    refine RL.fieldAddr rfl m_tf25_3 rfl rfl ?_
    refine RL.load1 1 rfl m_ts23 rfl rfl rfl rfl ?_
    refine RL.lenSlice rfl m_tl23 rfl rfl ?_
    refine RL.bin rfl rfl rfl BinV.gtr rfl ?_
    refine RL.move rfl rfl rfl ?_
    refine RL.part (fun h3 => ?_) (fun h3 => ?_)
    · skip
      have hpos := of_decide_eq_true h3
      refine RL.move rfl rfl rfl ?_
      refine RL.bin rfl rfl rfl BinV.geq rfl ?_
      refine RL.pickT rfl rfl rfl rfl ?_
      refine RL.move rfl rfl rfl ?_
      refine RL.part (fun h4 => ?_) (fun h4 => ?_)
      · skip
        have hge0 := of_decide_eq_true h4
        refine RL.move rfl rfl rfl ?_
        refine RL.bin rfl rfl rfl BinV.lss rfl ?_
        refine RL.pickT rfl rfl rfl rfl ?_
        refine RL.nil ?_
        refine NX.seq ?_
        refine TR.cond rfl (fun h5 => ?_) (fun h5 => ?_)
        · skip
          refine TR.seq ?_
          refine TR.region ?_
          refine RL.move rfl rfl rfl ?_
          refine RL.fieldAddr rfl m_tf25_3 rfl rfl ?_
          refine RL.load1 1 rfl m_ts23 rfl rfl rfl rfl ?_
          refine RL.lenSlice rfl m_tl23 rfl rfl ?_
          refine RL.bin rfl rfl rfl (BinV.rem (by omega)) rfl ?_
          refine RL.assign rfl rfl rfl ?_
          refine RL.nil ?_
          refine NX.seq ?_
          refine TR.region ?_
          refine RL.fieldAddr rfl m_tf25_3 rfl rfl ?_
          refine RL.load1 1 rfl m_ts23 rfl rfl rfl rfl ?_
          refine RL.move rfl rfl rfl ?_
          have hm1 := Int.tmod_nonneg (b := (x.len : Int)) (show (0:Int) ≤ v5.1 - 2 by omega)
          have hm2 := Int.tmod_lt_of_pos (v5.1 - 2) (show (0:Int) < x.len by omega)
          have hi1 : (Int.tmod (v5.1 - 2) x.len).toNat < x.u.kids.length := by omega
          refine RL.openP (open_kid (.head _) (List.getElem?_eq_getElem hi1)) (fun w2 hw2 => ?_)
          refine RL.indexAddr rfl m_tl23 m_tz25 (congrArg (fun a => some (Value.slice a _ _)) hw2) rfl (by omega) (by omega) rfl ?_
          refine RL.loadF rfl rfl (fun w K hF => run_loadCellsAt (hF _ (.head _)) m_ta25) rfl ?_
          refine RL.storeA 1 rfl rfl rfl rfl m_tz25 rfl rfl ?_
          refine RL.nil ?_
          refine NX.seq ?_
          refine TR.region ?_
          refine RL.move rfl rfl rfl ?_
          refine RL.move rfl rfl rfl ?_
          refine RL.buildSlice rfl rfl (m_bs22_1_0 _) rfl (fun b6 => ?_)
          refine RL.ofGV rfl rfl (GV.append (j := 1) m_tl22 m_ni22 m_te3 rfl rfl rfl (src_box (i := 0) rfl rfl rfl) (by omega) (by omega)) (fun y => ?_)
          refine RL.assign rfl rfl rfl ?_
          refine RL.nil ?_
          refine NX.off ?_
          refine NX.seq ?_
          refine TR.region ?_
          refine RL.move rfl rfl rfl ?_
          refine RL.bin rfl rfl rfl (BinV.add _ rfl (by omega) (by omega)) rfl ?_
          refine RL.assign rfl rfl rfl ?_
          refine RL.nil ?_
          refine NX.roundP ⟨x.k + 1, x.u.kids[(Int.tmod (v5.1 - 2) x.len).toNat], w2.a, w2.len, w2.cap, y.1, y.2, x.ps ++ [Int.tmod (v5.1 - 2) x.len]⟩ ⟨(show x.k + 1 ≤ 4 by omega), (show (x.ps ++ [_]).length = x.k + 1 by rw [List.length_append, hx.2.1]; rfl), hx.2.2.kid_any (List.getElem_mem hi1)⟩ (by show 4 - (x.k + 1) < 4 - x.k; omega) ⟨rfl, rfl, rfl, rfl, rfl, trivial⟩ (fun w hw => ?_)
          have h9 := (hw.drop 0 rfl).facts (F' := TreeF x.u.kids[(Int.tmod (v5.1 - 2) x.len).toNat] (nodeV _ w2.a w2.len w2.cap) :: F) (fun φ h => by
            rcases List.mem_cons.1 h with e | h
            · subst e; exact .tail _ (.head _)
            · simp [h])
          show St w (OwnSl 3 1 y.1 (x.k + 1) y.2 (ints (x.ps ++ [_])) :: _) _
          rw [show ints (x.ps ++ [Int.tmod (v5.1 - 2) x.len]) = ints x.ps ++ [I (Int.tmod (v5.1 - 2) x.len)] from by simp]
          exact h9
        · skip
          refine TR.skip ?_
          refine NX.seq ?_
          refine TR.region ?_
          refine RL.move rfl rfl rfl ?_
          refine RL.move rfl rfl rfl ?_
          refine RL.buildSlice rfl rfl (m_bs22_1_0 _) rfl (fun b8 => ?_)
          refine RL.ofGV rfl rfl (GV.append (j := 1) m_tl22 m_ni22 m_te3 rfl rfl rfl (src_box (i := 0) rfl rfl rfl) (by omega) (by omega)) (fun y => ?_)
          refine RL.assign rfl rfl rfl ?_
          refine RL.nil ?_
          refine NX.off ?_
          refine NX.seq ?_
          refine TR.region ?_
          refine RL.move rfl rfl rfl ?_
          refine RL.bin rfl rfl rfl (BinV.add _ rfl (by omega) (by omega)) rfl ?_
          refine RL.assign rfl rfl rfl ?_
          refine RL.nil ?_
          refine NX.roundP ⟨x.k + 1, x.u, x.a, x.len, x.cap, y.1, y.2, x.ps ++ [v5.1 - 2]⟩ ⟨(show x.k + 1 ≤ 4 by omega), (show (x.ps ++ [_]).length = x.k + 1 by rw [List.length_append, hx.2.1]; rfl), hx.2.2⟩ (by show 4 - (x.k + 1) < 4 - x.k; omega) ⟨rfl, rfl, rfl, rfl, rfl, trivial⟩ (fun w hw => ?_)
          have h9 := (hw.drop 0 rfl).facts (F' := TreeF x.u (nodeV x.u x.a x.len x.cap) :: F) (fun φ h => by
            rcases List.mem_cons.1 h with e | h
            · subst e; exact .tail _ (.head _)
            · simp [h])
          show St w (OwnSl 3 1 y.1 (x.k + 1) y.2 (ints (x.ps ++ [_])) :: _) _
          rw [show ints (x.ps ++ [v5.1 - 2]) = ints x.ps ++ [I (v5.1 - 2)] from by simp]
          exact h9
      · skip
        refine RL.skip rfl rfl rfl ?_
        refine RL.skip rfl rfl rfl ?_
        refine RL.pickF rfl rfl rfl rfl ?_
        refine RL.nil ?_
        refine NX.seq ?_
        refine TR.condF rfl ?_
        refine TR.skip ?_
        refine NX.seq ?_
        refine TR.region ?_
        refine RL.move rfl rfl rfl ?_
        refine RL.move rfl rfl rfl ?_
        refine RL.buildSlice rfl rfl (m_bs22_1_0 _) rfl (fun b10 => ?_)
        refine RL.ofGV rfl rfl (GV.append (j := 1) m_tl22 m_ni22 m_te3 rfl rfl rfl (src_box (i := 0) rfl rfl rfl) (by omega) (by omega)) (fun y => ?_)
        refine RL.assign rfl rfl rfl ?_
        refine RL.nil ?_
        refine NX.off ?_
        refine NX.seq ?_
        refine TR.region ?_
        refine RL.move rfl rfl rfl ?_
        refine RL.bin rfl rfl rfl (BinV.add _ rfl (by omega) (by omega)) rfl ?_
        refine RL.assign rfl rfl rfl ?_
        refine RL.nil ?_
        refine NX.roundP ⟨x.k + 1, x.u, x.a, x.len, x.cap, y.1, y.2, x.ps ++ [v5.1 - 2]⟩ ⟨(show x.k + 1 ≤ 4 by omega), (show (x.ps ++ [_]).length = x.k + 1 by rw [List.length_append, hx.2.1]; rfl), hx.2.2⟩ (by show 4 - (x.k + 1) < 4 - x.k; omega) ⟨rfl, rfl, rfl, rfl, rfl, trivial⟩ (fun w hw => ?_)
        have h9 := (hw.drop 0 rfl).facts (F' := TreeF x.u (nodeV x.u x.a x.len x.cap) :: F) (fun φ h => by
          rcases List.mem_cons.1 h with e | h
          · subst e; exact .tail _ (.head _)
          · simp [h])
        show St w (OwnSl 3 1 y.1 (x.k + 1) y.2 (ints (x.ps ++ [_])) :: _) _
        rw [show ints (x.ps ++ [v5.1 - 2]) = ints x.ps ++ [I (v5.1 - 2)] from by simp]
        exact h9
    · skip
      refine RL.skip rfl rfl rfl ?_
      refine RL.skip rfl rfl rfl ?_
      refine RL.pickF rfl rfl rfl rfl ?_
      refine RL.move rfl rfl rfl ?_
      refine RL.skip rfl rfl rfl ?_
      refine RL.skip rfl rfl rfl ?_
      refine RL.pickF rfl rfl rfl rfl ?_
      refine RL.nil ?_
      refine NX.seq ?_
      refine TR.condF rfl ?_
      refine TR.skip ?_
      refine NX.seq ?_
      refine TR.region ?_
      refine RL.move rfl rfl rfl ?_
      refine RL.move rfl rfl rfl ?_
      refine RL.buildSlice rfl rfl (m_bs22_1_0 _) rfl (fun b12 => ?_)
      refine RL.ofGV rfl rfl (GV.append (j := 1) m_tl22 m_ni22 m_te3 rfl rfl rfl (src_box (i := 0) rfl rfl rfl) (by omega) (by omega)) (fun y => ?_)
      refine RL.assign rfl rfl rfl ?_
      refine RL.nil ?_
      refine NX.off ?_
      refine NX.seq ?_
      refine TR.region ?_
      refine RL.move rfl rfl rfl ?_
      refine RL.bin rfl rfl rfl (BinV.add _ rfl (by omega) (by omega)) rfl ?_
      refine RL.assign rfl rfl rfl ?_
      refine RL.nil ?_
      refine NX.roundP ⟨x.k + 1, x.u, x.a, x.len, x.cap, y.1, y.2, x.ps ++ [v5.1 - 2]⟩ ⟨(show x.k + 1 ≤ 4 by omega), (show (x.ps ++ [_]).length = x.k + 1 by rw [List.length_append, hx.2.1]; rfl), hx.2.2⟩ (by show 4 - (x.k + 1) < 4 - x.k; omega) ⟨rfl, rfl, rfl, rfl, rfl, trivial⟩ (fun w hw => ?_)
      have h9 := (hw.drop 0 rfl).facts (F' := TreeF x.u (nodeV x.u x.a x.len x.cap) :: F) (fun φ h => by
        rcases List.mem_cons.1 h with e | h
        · subst e; exact .tail _ (.head _)
        · simp [h])
      show St w (OwnSl 3 1 y.1 (x.k + 1) y.2 (ints (x.ps ++ [_])) :: _) _
      rw [show ints (x.ps ++ [v5.1 - 2]) = ints x.ps ++ [I (v5.1 - 2)] from by simp]
      exact h9
  · skip
    refine TR.exit ?_
    refine NX.exitThen ?_
    refine NX.exitThen ?_
    refine NX.exitHere ?_
    refine NX.seq ?_
    refine TR.seq ?_
    refine TR.region ?_
    refine RL.move rfl rfl rfl ?_
    refine RL.assign rfl rfl rfl ?_
    refine RL.nil ?_
    refine NX.seq ?_
    refine TR.ret ?_
    refine NX.ret1x rfl rfl (fun w hw => ⟨⟨⟨x.oa, x.oc, x.ps⟩, by have := hx.1; have := hx.2.1; have h8 := hw.ownLen.2; exact ⟨(by show x.ps.length ≤ 4; omega), (by show x.ps.length ≤ x.oc; omega)⟩⟩, congrArg (fun n => Value.slice x.oa n x.oc) hx.2.1.symm, ?_⟩)
    exact (hw.facts (F' := F) (fun φ h => .tail _ h)).keepSl.tail

theorem refGet_spec {t : Tree} {a : Option Addr} {len cap : Nat} {M : List HP} {F : List Fact} {d : Nat} (hs : Small d t) (hd : d ≤ 8) (ht : TreeF t (nodeV t a len cap) ∈ F) {ps : List Int} {oa : Option Addr} {ca : Nat} (ha : ArrF oa (ints ps) ∈ F) (hps : ps.length ≤ 4611686018427387904) : Ctr Try.prog 47 [nodeV t a len cap, .slice oa ps.length ca] M F {x : TX // x.t = (t.getR ps).1} (fun x => .tuple #[x.1.v, I (t.getR ps).2.1, .bool (t.getR ps).2.2]) (fun _ => M) (fun x => TreeF x.1.t x.1.v :: F) := by
  refine Ctr.body Try.func47 rfl rfl ?_
  refine TR.seq ?_
  refine TR.region ?_
  refine RL.boxA rfl rfl rfl (fun b1 => ?_)
  refine RL.allocA rfl (Try.zeroValue25) rfl (fun b2 => ?_)
  refine RL.assign rfl rfl rfl ?_
  refine RL.assign rfl rfl rfl ?_
  refine RL.nil ?_
  refine NX.seq ?_
  refine TR.seq ?_
  refine TR.region ?_
  refine RL.assign rfl rfl rfl ?_
  refine RL.nil ?_
  refine NX.seq ?_
  refine TR.seq ?_
  refine TR.seq ?_
  refine TR.region ?_
  refine RL.assign rfl rfl rfl ?_
  refine RL.nil ?_
  refine NX.seq ?_
  refine TR.block ?_
  refine TR.loopP (ι := RX) (fun x => Small x.e x.u ∧ x.e ≤ d ∧ x.j ≤ ps.length ∧ x.u.get (ps.drop x.j) x.p = t.get ps 0 ∧ x.p + x.u.width ≤ 524288) (fun x => [(1, .slice oa ps.length ca), (2, .pointer (some ⟨b1, 0, none⟩)), (4, .pointer (some ⟨b2, 0, none⟩)), (5, I 0), (6, .bool false), (7, I x.p), (8, I x.j)]) (fun x => Box b2 25 [I 0, I 0, S [], .slice none 0 0] :: Box b1 25 (nodeC x.u x.a x.len x.cap) :: M) (fun x => TreeF x.u (nodeV x.u x.a x.len x.cap) :: F) (fun x => ps.length - x.j) ⟨t, a, len, cap, 0, 0, d⟩ ⟨hs, Nat.le_refl _, Nat.zero_le _, rfl, by have := hs.width6 hd; show 0 + t.width ≤ 524288; omega⟩ ⟨rfl, rfl, rfl, rfl, rfl, rfl, rfl, trivial⟩ (fun w hw => hw.addFact (TreeF t (nodeV t a len cap)) (fun K hf => hf _ ht)) (fun x hx => ?_)
  refine TR.seq ?_
  refine TR.seq ?_
  refine TR.region ?_
  refine RL.move rfl rfl rfl ?_
  refine RL.move rfl rfl rfl ?_
  refine RL.lenSlice rfl m_tl22 rfl rfl ?_
  refine RL.bin rfl rfl rfl BinV.lss rfl ?_
  refine RL.nil ?_
  refine NX.seq ?_
  refine TR.cond rfl (fun h3 => ?_) (fun h3 => ?_)
  · skip
    have hj1 : x.j < ps.length := by have := of_decide_eq_true h3; omega
    have hdk := List.drop_eq_getElem_cons hj1
    refine TR.open1 (open_node (.head _)) (fun hlen => ?_)
    refine TR.openP (open_arr (oa := oa) (xs := ints ps) (.tail _ (.tail _ ha)) (ints_ne (by omega))) (fun q hpa => ?_)
    refine TR.skip ?_
    refine NX.seq ?_
    refine TR.seq ?_
    refine TR.block ?_
    refine TR.seq ?_
    refine TR.region ?_
    refine RL.move rfl rfl rfl ?_
    refine RL.move rfl rfl rfl ?_
    refine RL.indexAddr rfl m_tl22 m_tz3 (congrArg (fun a => some (Value.slice a _ _)) hpa) rfl (by omega) (by omega) rfl ?_
    refine RL.loadF rfl rfl (fun w K hF => run_loadCell1 (j := (x.j : Int).toNat * 1) (v := I ps[x.j]) (hF _ (.head _)) m_ts3 (by simp [hj1])) rfl ?_
    refine RL.assign rfl rfl rfl ?_
    refine RL.nil ?_
    refine NX.seq ?_
    refine TR.seq ?_
    refine TR.seq ?_
    refine TR.region ?_
    refine RL.move rfl rfl rfl ?_
    refine RL.bin rfl rfl rfl BinV.lss rfl ?_
    refine RL.move rfl rfl rfl ?_
    refine RL.part (fun h4 => ?_) (fun h4 => ?_)
    · skip
      have hout : ps[x.j] < 0 ∨ (x.u.kids.length : Int) ≤ ps[x.j] := by have := of_decide_eq_true h4; omega
      refine RL.skip rfl rfl rfl ?_
      refine RL.skip rfl rfl rfl ?_
      refine RL.skip rfl rfl rfl ?_
      refine RL.skip rfl rfl rfl ?_
      refine RL.skip rfl rfl rfl ?_
      refine RL.pickT rfl rfl rfl rfl ?_
      refine RL.nil ?_
      refine NX.seq ?_
      refine TR.condT rfl ?_
      refine TR.seq ?_
      refine TR.region ?_
      refine RL.build rfl rfl (m_bv25_) rfl ?_
      refine RL.storeA 0 rfl rfl rfl rfl m_tz25 rfl rfl ?_
      refine RL.assign rfl rfl rfl ?_
      refine RL.assign rfl rfl rfl ?_
      refine RL.nil ?_
      refine NX.seq ?_
      refine TR.ret ?_
      refine NX.retThen ?_
      refine NX.retBlock ?_
      refine NX.retThen ?_
      refine NX.retThen ?_
      refine NX.retBlock ?_
      refine NX.retThen ?_
      have h9 : t.getR ps = (.node 0 0 [] [], 0, false) := by
        have h8 := hx.2.2.2.1
        rw [hdk, get_out hout] at h8
        unfold getR; rw [← h8]
      refine NX.retC2 (j := 0) rfl rfl rfl rfl rfl m_ta25 (fun w hw => ⟨⟨⟨.node 0 0 [] [], none, 0, 0⟩, by rw [h9]⟩, (by show _ = Value.tuple #[nodeV (.node 0 0 [] []) none 0 0, I (t.getR ps).2.1, .bool (t.getR ps).2.2]; rw [h9]; rfl), ?_⟩)
      exact (((hw.drop 0 rfl).drop 0 rfl).facts (fun φ h => by simp [h])).leafT 0 0 []
    · skip
      have hneg := of_decide_eq_false h4
      refine RL.move rfl rfl rfl ?_
      refine RL.fieldAddr rfl m_tf25_3 rfl rfl ?_
      refine RL.load1 1 rfl m_ts23 rfl rfl rfl rfl ?_
      refine RL.lenSlice rfl m_tl23 rfl rfl ?_
      refine RL.bin rfl rfl rfl BinV.geq rfl ?_
      refine RL.pickF rfl rfl rfl rfl ?_
      refine RL.nil ?_
      refine NX.seq ?_
      refine TR.cond rfl (fun h5 => ?_) (fun h5 => ?_)
      · skip
        have hout : ps[x.j] < 0 ∨ (x.u.kids.length : Int) ≤ ps[x.j] := by have := of_decide_eq_true h5; omega
        refine TR.seq ?_
        refine TR.region ?_
        refine RL.build rfl rfl (m_bv25_) rfl ?_
        refine RL.storeA 0 rfl rfl rfl rfl m_tz25 rfl rfl ?_
        refine RL.assign rfl rfl rfl ?_
        refine RL.assign rfl rfl rfl ?_
        refine RL.nil ?_
        refine NX.seq ?_
        refine TR.ret ?_
        refine NX.retThen ?_
        refine NX.retBlock ?_
        refine NX.retThen ?_
        refine NX.retThen ?_
        refine NX.retBlock ?_
        refine NX.retThen ?_
        have h9 : t.getR ps = (.node 0 0 [] [], 0, false) := by
          have h8 := hx.2.2.2.1
          rw [hdk, get_out hout] at h8
          unfold getR; rw [← h8]
        refine NX.retC2 (j := 0) rfl rfl rfl rfl rfl m_ta25 (fun w hw => ⟨⟨⟨.node 0 0 [] [], none, 0, 0⟩, by rw [h9]⟩, (by show _ = Value.tuple #[nodeV (.node 0 0 [] []) none 0 0, I (t.getR ps).2.1, .bool (t.getR ps).2.2]; rw [h9]; rfl), ?_⟩)
        exact (((hw.drop 0 rfl).drop 0 rfl).facts (fun φ h => by simp [h])).leafT 0 0 []
      · skip
        have hge := of_decide_eq_false h5
        obtain ⟨i, hi⟩ := Int.eq_ofNat_of_zero_le (show 0 ≤ ps[x.j] by omega)
        have hik : i < x.u.kids.length := by omega
        refine TR.skip ?_
        refine NX.seq ?_
        refine TR.seq ?_
        refine TR.seq ?_
        refine TR.region ?_
        refine RL.assign rfl rfl rfl ?_
        refine RL.nil ?_
        refine NX.seq ?_
        refine TR.block ?_
        refine TR.loopP (ι := Nat) (fun m => m ≤ i) (fun m => [(1, .slice oa ps.length ca), (2, .pointer (some ⟨b1, 0, none⟩)), (4, .pointer (some ⟨b2, 0, none⟩)), (5, I 0), (6, .bool false), (7, I (x.p + ((x.u.kids.take m).flatMap text).length : Nat)), (8, I x.j), (9, I ps[x.j]), (10, I m)]) (fun m => Box b2 25 [I 0, I 0, S [], .slice none 0 0] :: Box b1 25 (nodeC x.u x.a x.len x.cap) :: M) (fun m => CellsF q.1 q.2 (ints ps) :: KidsOF x.a x.u.kids :: TreeF x.u (nodeV x.u x.a x.len x.cap) :: F) (fun m => i - m) 0 (Nat.zero_le _) ⟨rfl, rfl, rfl, rfl, rfl, rfl, rfl, rfl, rfl, trivial⟩ (fun w hw => hw) (fun m hm => ?_)
        refine TR.seq ?_
        refine TR.seq ?_
        refine TR.region ?_
        refine RL.move rfl rfl rfl ?_
        refine RL.move rfl rfl rfl ?_
        refine RL.bin rfl rfl rfl BinV.lss rfl ?_
        refine RL.nil ?_
        refine NX.seq ?_
        refine TR.cond rfl (fun h6 => ?_) (fun h6 => ?_)
        · skip
          have hm0 : m < i := by have := of_decide_eq_true h6; omega
          have hm1 : m < x.u.kids.length := by omega
          refine TR.openP (open_kid (a := x.a) (ks := x.u.kids) (.tail _ (.head _)) (List.getElem?_eq_getElem hm1)) (fun w1 hw1 => ?_)
          have hkc := kids_cap hx.1 (by omega) hm1
          have hkw : x.u.kids[m].width = x.u.kids[m].text.length := rfl
          refine TR.skip ?_
          refine NX.seq ?_
          refine TR.seq ?_
          refine TR.block ?_
          refine TR.region ?_
          refine RL.move rfl rfl rfl ?_
          refine RL.fieldAddr rfl m_tf25_3 rfl rfl ?_
          refine RL.load1 1 rfl m_ts23 rfl rfl rfl rfl ?_
          refine RL.move rfl rfl rfl ?_
          refine RL.indexAddr rfl m_tl23 m_tz25 (congrArg (fun a => some (Value.slice a _ _)) hw1) rfl (by omega) (by omega) rfl ?_
          refine RL.loadF rfl rfl (fun w K hF => run_loadCellsAt (hF _ (.head _)) m_ta25) rfl ?_
          refine RL.call rfl rfl Try.call37 rfl (refText_spec (hx.1.kid_any (List.getElem_mem hm1)) (by omega) (.tail _ (.head _))) (fun _ => ?_)
          refine RL.lenStr rfl m_tstr9 rfl rfl ?_
          refine RL.bin rfl rfl rfl (BinV.add _ rfl (by omega) (by omega)) rfl ?_
          refine RL.assign rfl rfl rfl ?_
          refine RL.nil ?_
          refine NX.off ?_
          refine NX.seq ?_
          refine TR.region ?_
          refine RL.move rfl rfl rfl ?_
          refine RL.bin rfl rfl rfl (BinV.add _ rfl (by omega) (by omega)) rfl ?_
          refine RL.assign rfl rfl rfl ?_
          refine RL.nil ?_
          have h8 : ((x.u.kids.take (m + 1)).flatMap text).length = ((x.u.kids.take m).flatMap text).length + x.u.kids[m].text.length := by rw [take_flat hm1, List.length_append]
          refine NX.roundP (m + 1) (by omega) (by omega) ⟨rfl, rfl, rfl, rfl, rfl, congrArg (fun z => some (I z)) (by rw [h8]; simp; omega), rfl, rfl, rfl, trivial⟩ (fun w hw => hw.facts (fun φ h => .tail _ (.tail _ h)))
        · skip
          have hmi : m = i := by have := of_decide_eq_false h6; omega
          refine TR.openP (open_kid (a := x.a) (ks := x.u.kids) (.tail _ (.head _)) (List.getElem?_eq_getElem hik)) (fun w2 hw2 => ?_)
          refine TR.exit ?_
          refine NX.exitThen ?_
          refine NX.exitThen ?_
          refine NX.exitHere ?_
          refine NX.seq ?_
          refine TR.region ?_
          refine RL.fieldAddr rfl m_tf25_3 rfl rfl ?_
          refine RL.load1 1 rfl m_ts23 rfl rfl rfl rfl ?_
          refine RL.move rfl rfl rfl ?_
          refine RL.indexAddr rfl m_tl23 m_tz25 (congrArg (fun a => some (Value.slice a _ _)) hw2) (congrArg (fun z => some (I z)) hi) (by omega) (by omega) rfl ?_
          refine RL.loadF rfl rfl (fun w K hF => run_loadCellsAt (hF _ (.head _)) m_ta25) rfl ?_
          refine RL.storeA 1 rfl rfl rfl rfl m_tz25 rfl rfl ?_
          refine RL.nil ?_
          refine NX.off ?_
          refine NX.seq ?_
          refine TR.region ?_
          refine RL.move rfl rfl rfl ?_
          refine RL.bin rfl rfl rfl (BinV.add _ rfl (by omega) (by omega)) rfl ?_
          refine RL.assign rfl rfl rfl ?_
          refine RL.nil ?_
          obtain ⟨e0, he0⟩ : ∃ e0, x.e = e0 + 1 := by
            cases hee : x.e with
            | zero => rw [hee] at hx; exact hx.1.elim
            | succ e0 => exact ⟨e0, rfl⟩
          refine NX.roundP ⟨x.u.kids[i], w2.a, w2.len, w2.cap, x.p + ((x.u.kids.take i).flatMap text).length, x.j + 1, e0⟩ ⟨?_, ?_, ?_, ?_, ?_⟩ (by show _ - (x.j + 1) < _ - x.j; omega) ⟨rfl, rfl, rfl, rfl, rfl, congrArg (fun z => some (I z)) (by rw [hmi]), rfl, trivial⟩ (fun w hw => ?_)
          · have := hx.1; rw [he0] at this; exact this.kid (List.getElem_mem hik)
          · show e0 ≤ d; omega
          · exact hj1
          · have h9 := hx.2.2.2.1
            rw [hdk, hi, get_in hik] at h9
            exact h9
          · have := kids_cap hx.1 (by omega) hik
            have := hx.2.2.2.2
            show x.p + _ + x.u.kids[i].width ≤ 524288; omega
          · exact hw.facts (fun φ h => by
              rcases List.mem_cons.1 h with e | h
              · subst e; exact .tail _ (.head _)
              · simp [h])
  · skip
    have hj2 : x.j = ps.length := by have := of_decide_eq_false h3; omega
    refine TR.exit ?_
    refine NX.exitThen ?_
    refine NX.exitThen ?_
    refine NX.exitHere ?_
    refine NX.seq ?_
    refine TR.seq ?_
    refine TR.region ?_
    refine RL.loadA 1 rfl rfl rfl m_ta25 rfl ?_
    refine RL.move rfl rfl rfl ?_
    refine RL.storeA 0 rfl rfl rfl rfl m_tz25 rfl rfl ?_
    refine RL.assign rfl rfl rfl ?_
    refine RL.assign rfl rfl rfl ?_
    refine RL.nil ?_
    refine NX.seq ?_
    refine TR.ret ?_
    have h9 : t.getR ps = (x.u, (x.p : Int), true) := by
      have h8 := hx.2.2.2.1
      rw [hj2, List.drop_length, Tree.get] at h8
      unfold getR; rw [← h8]
    refine NX.retC2 (j := 0) rfl rfl rfl rfl rfl m_ta25 (fun w hw => ⟨⟨⟨x.u, x.a, x.len, x.cap⟩, by rw [h9]⟩, (by show _ = Value.tuple #[nodeV x.u x.a x.len x.cap, I (t.getR ps).2.1, .bool (t.getR ps).2.2]; rw [h9]), ?_⟩)
    exact ((hw.drop 0 rfl).drop 0 rfl)

end Go.Proofs.Ytnolpmigiboanaa
