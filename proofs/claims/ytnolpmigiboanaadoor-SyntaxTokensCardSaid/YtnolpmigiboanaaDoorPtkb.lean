/- Lemmas and walks for the proof of TokJ: texts one behind the other. No condition. -/
import Derived.Laws.BitsAllLaws
import Derived.Laws.BytesArg
import Derived.Lib.ConvBytes
import Derived.Maps.RangeRun
import Derived.Maps.Keyed
import Derived.Carry
import Derived.Laws.RangeAny
import Derived.Scope
import Derived.ChangeKeysEq
import Derived.Laws.Runes
import Derived.Lib.Bytealg
import Derived.Lib.IndexAny
import Derived.Test.YtnolpmigiboanaaDoorPtka
set_option linter.unusedVariables false
set_option linter.unusedSimpArgs false
namespace Go.Proofs.YtnolpmigiboanaaDoor
open Go.GL Go.GL.Tree
set_option linter.unusedVariables false
theorem tb_bs22_1_0 (x0 : Int) : BuildSV Tryd.prog 22 3 1 [(0, .int .i64 x0)] [.int .i64 x0] := fun w => by kernel_rfl
theorem tb_bs28_0_  : BuildSV Tryd.prog 28 30 0 [] [] := fun w => by kernel_rfl
theorem tb_ni22 : noInt Tryd.prog 22 = true := by kernel_rfl
theorem tb_ni28 : noInt Tryd.prog 28 = true := by kernel_rfl
theorem tb_ni9 : noInt Tryd.prog 9 = true := by kernel_rfl
theorem tb_ta30 : tyAgg Tryd.prog 30 4 = true := by kernel_rfl
theorem tb_te3 : tyElem Tryd.prog 3 1 8 = true := by kernel_rfl
theorem tb_te30 : tyElem Tryd.prog 30 4 56 = true := by kernel_rfl
theorem tb_te5 : tyElem Tryd.prog 5 1 1 = true := by kernel_rfl
theorem tb_tf30_2 : fieldOff Tryd.prog 30 2 2 = true := by kernel_rfl
theorem tb_tf30_3 : fieldOff Tryd.prog 30 3 3 = true := by kernel_rfl
theorem tb_tf47_0 : fieldOff Tryd.prog 47 0 0 = true := by kernel_rfl
theorem tb_tf47_1 : fieldOff Tryd.prog 47 1 1 = true := by kernel_rfl
theorem tb_tl22 : tySlice Tryd.prog 22 3 = true := by kernel_rfl
theorem tb_tl28 : tySlice Tryd.prog 28 30 = true := by kernel_rfl
theorem tb_tl45 : tySlice Tryd.prog 45 5 = true := by kernel_rfl
theorem tb_tp44 : tyPtr Tryd.prog 44 47 = true := by kernel_rfl
theorem tb_tp69 : tyPtr Tryd.prog 69 5 = true := by kernel_rfl
theorem tb_ts28 : tyScalar Tryd.prog 28 = true := by kernel_rfl
theorem tb_ts3 : tyScalar Tryd.prog 3 = true := by kernel_rfl
theorem tb_ts44 : tyScalar Tryd.prog 44 = true := by kernel_rfl
theorem tb_ts45 : tyScalar Tryd.prog 45 = true := by kernel_rfl
theorem tb_ts9 : tyScalar Tryd.prog 9 = true := by kernel_rfl
theorem tb_tstr9 : tyStr Tryd.prog 9 = true := by kernel_rfl
theorem tb_tu73 : tyUns Tryd.prog 73 = true := by kernel_rfl
theorem tb_tz3 : tySize Tryd.prog 3 1 = true := by kernel_rfl
theorem tb_tz30 : tySize Tryd.prog 30 4 = true := by kernel_rfl
theorem tb_tz47 : tySize Tryd.prog 47 2 = true := by kernel_rfl
theorem mixed : Tryd.prog.follows .mixedOrders = true := Tryd.checked.mixed
theorem sameInts_spec {xs ys : List Int} {oa ob : Option Addr} {ca cb : Nat} {M : List HP} {F : List Fact} (ha : ArrF oa (ints xs) ∈ F) (hb : ArrF ob (ints ys) ∈ F) (hxl : xs.length ≤ 4611686018427387904) : Ctr Tryd.prog 24 [.slice oa xs.length ca, .slice ob ys.length cb] M F Unit (fun _ => .bool (decide (xs = ys))) (fun _ => M) (fun _ => F) := by
  refine Ctr.body Tryd.func24 rfl rfl ?_
  refine TR.seq ?_
  refine TR.region ?_
  refine RL.assign rfl rfl rfl ?_
  refine RL.nil ?_
  refine NX.seq ?_
  refine TR.seq ?_
  refine TR.seq ?_
  refine TR.region ?_
  refine RL.move rfl rfl rfl ?_
  refine RL.lenSlice rfl tb_tl22 rfl rfl ?_
  refine RL.move rfl rfl rfl ?_
  refine RL.lenSlice rfl tb_tl22 rfl rfl ?_
  refine RL.bin rfl rfl rfl BinV.neq rfl ?_
  refine RL.nil ?_
  refine NX.seq ?_
  refine TR.cond rfl (fun h1 => ?_) (fun h1 => ?_)
  · skip
    have hlen : ¬ xs.length = ys.length := by have := of_decide_eq_true h1; omega
    refine TR.seq ?_
    refine TR.region ?_
    refine RL.assign rfl rfl rfl ?_
    refine RL.nil ?_
    refine NX.seq ?_
    refine TR.ret ?_
    refine NX.retThen ?_
    refine NX.ret1 () rfl rfl (congrArg Value.bool (Eq.symm (decide_eq_false (fun e => hlen (congrArg _ e))))) (fun w hw => hw)
  · skip
    have hlen : xs.length = ys.length := by have := of_decide_eq_false h1; omega
    refine TR.skip ?_
    refine NX.seq ?_
    refine TR.seq ?_
    refine TR.seq ?_
    refine TR.region ?_
    refine RL.assign rfl rfl rfl ?_
    refine RL.nil ?_
    refine NX.seq ?_
    refine TR.block ?_
    refine TR.loopP (ι := Nat) (fun k => k ≤ xs.length ∧ xs.take k = ys.take k) (fun k => [(0, .slice oa xs.length ca), (1, .slice ob ys.length cb), (5, I k)]) (fun _ => M) (fun _ => F) (fun k => xs.length - k) 0 ⟨Nat.zero_le _, rfl⟩ ⟨rfl, rfl, rfl, trivial⟩ (fun w hw => hw) (fun k hk => ?_)
    refine TR.seq ?_
    refine TR.seq ?_
    refine TR.region ?_
    refine RL.move rfl rfl rfl ?_
    refine RL.move rfl rfl rfl ?_
    refine RL.lenSlice rfl tb_tl22 rfl rfl ?_
    refine RL.bin rfl rfl rfl BinV.lss rfl ?_
    refine RL.nil ?_
    refine NX.seq ?_
    refine TR.cond rfl (fun h2 => ?_) (fun h2 => ?_)
    · skip
      have hk1 : k < xs.length := by simpa using h2
      have hk2 : k < ys.length := by omega
      refine TR.openP (open_arr ha (ints_ne (by omega))) (fun x hx => ?_)
      refine TR.openP (open_arr (.tail _ hb) (ints_ne (by omega))) (fun y hy => ?_)
      subst hx hy
      refine TR.skip ?_
      refine NX.seq ?_
      refine TR.seq ?_
      refine TR.block ?_
      refine TR.seq ?_
      refine TR.sub (E' := [(0, _), (1, _), (5, _), (11, _), (12, _), (13, _), (14, _)]) ⟨rfl, rfl, rfl, rfl, rfl, rfl, rfl, trivial⟩ ?_
      refine TR.draw mixed ?_
      apply AR.more [(0, _), (1, _), (2, _), (3, _), (4, _), (5, _), (6, _), (7, _), (8, _)]
      refine AR.last [0, 1, 2, 3, 4, 5, 6, 7, 8] [0, 1, 2, 3, 4, 5, 6, 7, 8] ⟨QOne.yes rfl rfl rfl (PV.move rfl), QOne.yes rfl rfl rfl (PV.move rfl), QOne.yes rfl rfl rfl (PV.indexAddr tb_tl22 tb_tz3 rfl rfl (by omega) (by omega)), QOne.yes rfl rfl rfl (PV.loadF rfl (fun w K hF => run_loadCell1 (j := (k : Int).toNat * 1) (v := I xs[k]) (hF _ (.tail _ (.head _))) tb_ts3 (by simp [hk1]))), QOne.yes rfl rfl rfl (PV.move rfl), QOne.yes rfl rfl rfl (PV.move rfl), QOne.yes rfl rfl rfl (PV.indexAddr tb_tl22 tb_tz3 rfl rfl (by omega) (by omega)), QOne.yes rfl rfl rfl (PV.loadF rfl (fun w K hF => run_loadCell1 (j := (k : Int).toNat * 1) (v := I ys[k]) (hF _ (.head _)) tb_ts3 (by simp [hk2]))), QOne.yes rfl rfl rfl (PV.bin rfl rfl BinV.neq), trivial⟩ rfl rfl rfl ?_
      refine NX.sub (E' := [(0, _), (1, _), (5, _), (11, _), (12, _), (13, _), (14, _), (17, _), (18, _), (19, _), (20, _), (21, _), (22, _), (23, _), (24, _), (25, _)]) ⟨rfl, rfl, rfl, rfl, rfl, rfl, rfl, rfl, rfl, rfl, rfl, rfl, rfl, rfl, rfl, rfl, trivial⟩ ?_
      refine NX.seq ?_
      refine TR.cond rfl (fun h3 => ?_) (fun h3 => ?_)
      · skip
        refine TR.seq ?_
        refine TR.region ?_
        refine RL.assign rfl rfl rfl ?_
        refine RL.nil ?_
        refine NX.seq ?_
        refine TR.ret ?_
        refine NX.retBlock ?_
        refine NX.retThen ?_
        refine NX.retThen ?_
        refine NX.retBlock ?_
        refine NX.retThen ?_
        refine NX.ret1 () rfl rfl (congrArg Value.bool (Eq.symm (decide_eq_false (take_succ_ne hk1 hk2 (by simpa using h3))))) (fun w hw => ?_)
        exact hw.facts (fun φ h => .tail _ (.tail _ (h)))
      · skip
        refine TR.skip ?_
        refine NX.off ?_
        refine NX.seq ?_
        refine TR.region ?_
        refine RL.move rfl rfl rfl ?_
        refine RL.bin rfl rfl rfl (BinV.add _ rfl (by omega) (by omega)) rfl ?_
        refine RL.assign rfl rfl rfl ?_
        refine RL.nil ?_
        refine NX.roundP (k + 1) ⟨by omega, take_step hk.2 hk1 hk2 (by simpa using h3)⟩ (by omega) ⟨rfl, rfl, rfl, trivial⟩ (fun w hw => ?_)
        exact hw.facts (fun φ h => .tail _ (.tail _ (h)))
    · skip
      refine TR.exit ?_
      refine NX.exitThen ?_
      refine NX.exitThen ?_
      refine NX.exitHere ?_
      refine NX.seq ?_
      refine TR.seq ?_
      refine TR.region ?_
      refine RL.assign rfl rfl rfl ?_
      refine RL.nil ?_
      refine NX.seq ?_
      refine TR.ret ?_
      refine NX.ret1 () rfl rfl (congrArg Value.bool (Eq.symm (decide_eq_true (take_all_eq hk.2 (by simpa using h2) hlen)))) (fun w hw => hw)
structure PX where
  u : Tree
  a : Option Addr
  len : Nat
  cap : Nat
  o : Nat
  e : Nat
  ps : List Int
  oa : Option Addr
  oc : Nat
structure IX where
  i : Nat
  k : Tree
theorem path_spec {t : Tree} {a : Option Addr} {len cap : Nat} {M : List HP} {F : List Fact} {d : Nat} (hs : Small d t) (hd : d ≤ 8) (ht : TreeF t (nodeV t a len cap) ∈ F) {o : Int} : Ctr Tryd.prog 20 [nodeV t a len cap, I o] M F (Option Addr × Nat) (fun i => .tuple #[.slice i.1 (pathL t o).length i.2, .bool (pathOk t o)]) (fun _ => M) (fun i => ArrF i.1 (ints (pathL t o)) :: F) := by
  refine Ctr.body Tryd.func20 rfl rfl ?_
  refine TR.seq ?_
  refine TR.region ?_
  refine RL.boxA rfl rfl rfl (fun b1 => ?_)
  refine RL.assign rfl rfl rfl ?_
  refine RL.assign rfl rfl rfl ?_
  refine RL.nil ?_
  refine NX.seq ?_
  refine TR.seq ?_
  refine TR.seq ?_
  refine TR.region ?_
  refine RL.move rfl rfl rfl ?_
  refine RL.bin rfl rfl rfl BinV.lss rfl ?_
  refine RL.move rfl rfl rfl ?_
  refine RL.part (fun h2 => ?_) (fun h2 => ?_)
  · skip
    have hout : ¬ (0 ≤ o ∧ o < t.width) := by have := of_decide_eq_true h2; omega
    refine RL.skip rfl rfl rfl ?_
    refine RL.skip rfl rfl rfl ?_
    refine RL.skip rfl rfl rfl ?_
    refine RL.skip rfl rfl rfl ?_
    refine RL.pickT rfl rfl rfl rfl ?_
    refine RL.nil ?_
    refine NX.seq ?_
    refine TR.condT rfl ?_
    refine TR.seq ?_
    refine TR.region ?_
    refine RL.assign rfl rfl rfl ?_
    refine RL.assign rfl rfl rfl ?_
    refine RL.nil ?_
    refine NX.seq ?_
    refine TR.ret ?_
    refine NX.retThen ?_
    refine NX.ret2x rfl rfl rfl (fun w hw => ⟨(none, 0), ?_, ?_⟩)
    · rw [(pathL_out hout).1, (pathL_out hout).2]; rfl
    · rw [(pathL_out hout).1]
      exact (hw.tail).arr0
  · skip
    have hp1 := of_decide_eq_false h2
    refine RL.move rfl rfl rfl ?_
    refine RL.loadA 0 rfl rfl rfl tb_ta30 rfl ?_
    refine RL.call rfl rfl Tryd.call33 rfl (width_spec ht (by have := hs.width6 hd; omega)) (fun _ => ?_)
    refine RL.bin rfl rfl rfl BinV.geq rfl ?_
    refine RL.pickF rfl rfl rfl rfl ?_
    refine RL.nil ?_
    refine NX.seq ?_
    refine TR.cond rfl (fun h3 => ?_) (fun h3 => ?_)
    · skip
      have hout : ¬ (0 ≤ o ∧ o < t.width) := by have := of_decide_eq_true h3; omega
      refine TR.seq ?_
      refine TR.region ?_
      refine RL.assign rfl rfl rfl ?_
      refine RL.assign rfl rfl rfl ?_
      refine RL.nil ?_
      refine NX.seq ?_
      refine TR.ret ?_
      refine NX.retThen ?_
      refine NX.ret2x rfl rfl rfl (fun w hw => ⟨(none, 0), ?_, ?_⟩)
      · rw [(pathL_out hout).1, (pathL_out hout).2]; rfl
      · rw [(pathL_out hout).1]
        exact (hw.tail).arr0
    · skip
      have hin : 0 ≤ o ∧ o < t.width := by have := of_decide_eq_false h3; omega
      obtain ⟨n, rfl⟩ := Int.eq_ofNat_of_zero_le hin.1
      have hn : n < t.width := by omega
      refine TR.skip ?_
      refine NX.seq ?_
      refine TR.seq ?_
      refine TR.region ?_
      refine RL.assign rfl rfl rfl ?_
      refine RL.nil ?_
      refine NX.seq ?_
      refine TR.seq ?_
      refine TR.block ?_
      refine TR.loopP (ι := PX) (fun x => Small x.e x.u ∧ x.e ≤ d ∧ x.o < x.u.width ∧ x.ps ++ x.u.path x.o = t.path n ∧ x.ps.length + x.e ≤ 8) (fun x => [(1, I x.o), (2, .pointer (some ⟨b1, 0, none⟩)), (4, .slice none 0 0), (5, .bool false), (6, .slice x.oa x.ps.length x.oc)]) (fun x => OwnSl 3 1 x.oa x.ps.length x.oc (ints x.ps) :: Box b1 30 (nodeC x.u x.a x.len x.cap) :: M) (fun x => TreeF x.u (nodeV x.u x.a x.len x.cap) :: F) (fun x => x.e) ⟨t, a, len, cap, n, d, [], none, 0⟩ ⟨hs, Nat.le_refl _, hn, rfl, by simpa using hd⟩ ⟨rfl, rfl, rfl, rfl, rfl, trivial⟩ (fun w hw => OwnSl.nil_new 3 1 (hw.addFact (TreeF t (nodeV t a len cap)) (fun K hf => hf _ ht))) (fun x hx => ?_)
      refine TR.seq ?_
      refine TR.seq ?_
      refine TR.region ?_
      refine RL.loadA 1 rfl rfl rfl tb_ta30 rfl ?_
      refine RL.call rfl rfl Tryd.call16 rfl (leaf_spec x.u.id x.u.kind x.u.txt x.a x.len x.cap _ _) (fun _ => ?_)
      refine RL.not rfl rfl rfl ?_
      refine RL.nil ?_
      refine NX.seq ?_
      refine TR.cond rfl (fun h4 => ?_) (fun h4 => ?_)
      · skip
        have hl : x.u.isLeaf = false := by have h9 : (!x.u.isLeaf) = true := h4; simpa using h9
        have hle : x.e ≤ 8 := by omega
        have hlen0 : 0 < x.u.kids.length := by
          rcases Nat.eq_zero_or_pos x.u.kids.length with h0 | h0
          · have h7 := hx.2.2.1
            rw [Tree.width, inner_text hl, List.eq_nil_of_length_eq_zero h0] at h7
            simp at h7
          · exact h0
        obtain ⟨k0, hk0⟩ : ∃ k0, x.u.kids[0]? = some k0 := ⟨_, List.getElem?_eq_getElem hlen0⟩
        refine TR.open1 (open_node (.head _)) (fun hlen => ?_)
        refine TR.openP (open_kid (.head _) hk0) (fun w1 hw1 => ?_)
        refine TR.skip ?_
        refine NX.seq ?_
        refine TR.block ?_
        refine TR.seq ?_
        refine TR.region ?_
        refine RL.assign rfl rfl rfl ?_
        refine RL.nil ?_
        refine NX.seq ?_
        refine TR.seq ?_
        refine TR.seq ?_
        refine TR.region ?_
        refine RL.fieldAddr rfl tb_tf30_3 rfl rfl ?_
        refine RL.load1 1 rfl tb_ts28 rfl rfl rfl rfl ?_
        refine RL.move rfl rfl rfl ?_
        refine RL.indexAddr rfl tb_tl28 tb_tz30 (congrArg (fun a => some (Value.slice a _ _)) hw1) rfl (by omega) (by omega) rfl ?_
        refine RL.loadF rfl rfl (fun w K hF => run_loadCellsAt (hF _ (.head _)) tb_ta30) rfl ?_
        refine RL.call rfl rfl Tryd.call33 rfl (width_spec (.tail _ (.head _)) (by have := (hx.1.kid_any (List.mem_of_getElem? hk0)).width6 (by omega); omega)) (fun _ => ?_)
        refine RL.assign rfl rfl rfl ?_
        refine RL.nil ?_
        refine NX.seq ?_
        refine TR.block ?_
        refine TR.loopP (ι := IX) (fun y => x.u.kids[y.i]? = some y.k ∧ ((x.u.kids.take y.i).flatMap text).length ≤ x.o ∧ pathAll y.i (x.u.kids.drop y.i) (x.o - ((x.u.kids.take y.i).flatMap text).length) = x.u.path x.o) (fun y => [(1, I (x.o - ((x.u.kids.take y.i).flatMap text).length : Int)), (2, .pointer (some ⟨b1, 0, none⟩)), (4, .slice none 0 0), (5, .bool false), (6, .slice x.oa x.ps.length x.oc), (7, I y.i), (8, I y.k.width)]) (fun y => OwnSl 3 1 x.oa x.ps.length x.oc (ints x.ps) :: Box b1 30 (nodeC x.u x.a x.len x.cap) :: M) (fun y => KidsOF x.a x.u.kids :: TreeF x.u (nodeV x.u x.a x.len x.cap) :: F) (fun y => x.u.kids.length - y.i) ⟨0, k0⟩ ⟨hk0, Nat.zero_le _, (path_inner hl).symm⟩ ⟨congrArg (fun z => some (I z)) (by simp), rfl, rfl, rfl, rfl, rfl, rfl, trivial⟩ (fun w hw => hw.facts (F' := KidsOF x.a x.u.kids :: _) (fun φ h => .tail _ (.tail _ h))) (fun y hy => ?_)
        refine TR.seq ?_
        refine TR.seq ?_
        refine TR.region ?_
        refine RL.move rfl rfl rfl ?_
        refine RL.move rfl rfl rfl ?_
        refine RL.bin rfl rfl rfl BinV.geq rfl ?_
        refine RL.nil ?_
        refine NX.seq ?_
        refine TR.cond rfl (fun h5 => ?_) (fun h5 => ?_)
        · skip
          have hge0 := of_decide_eq_true h5
          have hlt := (List.getElem?_eq_some_iff.1 hy.1).1
          have hge : x.u.kids[y.i] = y.k := (List.getElem?_eq_some_iff.1 hy.1).2
          have hb := kid_bounds' hx.1 hle hl hlt
          rw [hge] at hb
          have hlt1 : y.i + 1 < x.u.kids.length := by
            rcases Nat.lt_or_ge (y.i + 1) x.u.kids.length with h0 | h0
            · exact h0
            · have h7 := hx.2.2.1
              have h8 : x.u.width = ((x.u.kids.take (y.i + 1)).flatMap text).length := by rw [Tree.width, inner_text hl, List.take_of_length_le h0]
              omega
          obtain ⟨k1, hk0⟩ : ∃ k1, x.u.kids[y.i + 1]? = some k1 := ⟨_, List.getElem?_eq_getElem hlt1⟩
          refine TR.openP (open_kid (.head _) hk0) (fun w2 hw2 => ?_)
          refine TR.skip ?_
          refine NX.seq ?_
          refine TR.seq ?_
          refine TR.block ?_
          refine TR.seq ?_
          refine TR.region ?_
          refine RL.move rfl rfl rfl ?_
          refine RL.move rfl rfl rfl ?_
          refine RL.bin rfl rfl rfl (BinV.sub _ rfl (by omega) (by omega)) rfl ?_
          refine RL.assign rfl rfl rfl ?_
          refine RL.nil ?_
          refine NX.seq ?_
          refine TR.region ?_
          refine RL.move rfl rfl rfl ?_
          refine RL.bin rfl rfl rfl (BinV.add _ rfl (by omega) (by omega)) rfl ?_
          refine RL.assign rfl rfl rfl ?_
          refine RL.nil ?_
          refine NX.off ?_
          refine NX.seq ?_
          refine TR.region ?_
          refine RL.fieldAddr rfl tb_tf30_3 rfl rfl ?_
          refine RL.load1 1 rfl tb_ts28 rfl rfl rfl rfl ?_
          refine RL.move rfl rfl rfl ?_
          refine RL.indexAddr rfl tb_tl28 tb_tz30 (congrArg (fun a => some (Value.slice a _ _)) hw2) rfl (by omega) (by omega) rfl ?_
          refine RL.loadF rfl rfl (fun w K hF => run_loadCellsAt (hF _ (.head _)) tb_ta30) rfl ?_
          refine RL.call rfl rfl Tryd.call33 rfl (width_spec (.tail _ (.head _)) (by have := (hx.1.kid_any (List.mem_of_getElem? hk0)).width6 (by omega); omega)) (fun _ => ?_)
          refine RL.assign rfl rfl rfl ?_
          refine RL.nil ?_
          refine NX.roundP ⟨y.i + 1, k1⟩ ⟨hk0, ?_, ?_⟩ (by show _ - (y.i + 1) < _ - y.i; omega) ⟨congrArg (fun z => some (I z)) ?_, rfl, rfl, rfl, rfl, rfl, rfl, trivial⟩ (fun w hw => hw.facts (F' := KidsOF x.a x.u.kids :: _) (fun φ h => .tail _ (.tail _ h)))
          · show ((x.u.kids.take (y.i + 1)).flatMap text).length ≤ x.o; omega
          · have h9 := hy.2.2
            rw [pathAll_out hlt (by rw [hge]; omega), hge, Nat.sub_sub, hb.1] at h9
            exact h9
          · show (_ : Int) = x.o - ((x.u.kids.take (y.i + 1)).flatMap text).length; rw [← hb.1]; simp; omega
        · skip
          have hge0 := of_decide_eq_false h5
          have hlt := (List.getElem?_eq_some_iff.1 hy.1).1
          refine TR.openP (open_kid (.head _) hy.1) (fun w2 hw2 => ?_)
          refine TR.exit ?_
          refine NX.exitThen ?_
          refine NX.exitThen ?_
          refine NX.exitHere ?_
          refine NX.seq ?_
          refine TR.seq ?_
          refine TR.region ?_
          refine RL.move rfl rfl rfl ?_
          refine RL.move rfl rfl rfl ?_
          refine RL.buildSlice rfl rfl (tb_bs22_1_0 _) rfl (fun b6 => ?_)
          refine RL.ofGV rfl rfl (GV.append (j := 1) tb_tl22 tb_ni22 tb_te3 rfl rfl rfl (src_box (i := 0) rfl rfl rfl) (by omega) (by omega)) (fun v => ?_)
          refine RL.assign rfl rfl rfl ?_
          refine RL.nil ?_
          refine NX.seq ?_
          refine TR.region ?_
          refine RL.fieldAddr rfl tb_tf30_3 rfl rfl ?_
          refine RL.load1 2 rfl tb_ts28 rfl rfl rfl rfl ?_
          refine RL.move rfl rfl rfl ?_
          refine RL.indexAddr rfl tb_tl28 tb_tz30 (congrArg (fun a => some (Value.slice a _ _)) hw2) rfl (by omega) (by omega) rfl ?_
          refine RL.loadF rfl rfl (fun w K hF => run_loadCellsAt (hF _ (.head _)) tb_ta30) rfl ?_
          refine RL.storeA 2 rfl rfl rfl rfl tb_tz30 rfl rfl ?_
          refine RL.nil ?_
          refine NX.off ?_
          obtain ⟨e0, he0⟩ : ∃ e0, x.e = e0 + 1 := by
            cases hee : x.e with
            | zero => rw [hee] at hx; exact hx.1.elim
            | succ e0 => exact ⟨e0, rfl⟩
          refine NX.roundP ⟨y.k, w2.a, w2.len, w2.cap, x.o - ((x.u.kids.take y.i).flatMap text).length, e0, x.ps ++ [(y.i : Int)], v.1, v.2⟩ ⟨?_, ?_, ?_, ?_, ?_⟩ (by show e0 < x.e; omega) ?_ (fun w hw => ?_)
          · have := hx.1; rw [he0] at this; exact this.kid (List.mem_of_getElem? hy.1)
          · show e0 ≤ d; omega
          · show x.o - ((x.u.kids.take y.i).flatMap text).length < y.k.width; omega
          · have h9 := hy.2.2
            have hlt := (List.getElem?_eq_some_iff.1 hy.1).1
            have hge : x.u.kids[y.i] = y.k := (List.getElem?_eq_some_iff.1 hy.1).2
            rw [pathAll_in hlt (by rw [hge]; omega), hge] at h9
            show (x.ps ++ [_]) ++ _ = _
            rw [List.append_assoc, List.singleton_append, h9]; exact hx.2.2.2.1
          · show (x.ps ++ [_]).length + e0 ≤ 8; rw [List.length_append]; simp; omega
          · refine ⟨congrArg (fun z => some (I z)) (show (x.o : Int) - ((x.u.kids.take y.i).flatMap text).length = ((x.o - ((x.u.kids.take y.i).flatMap text).length : Nat) : Int) by omega), rfl, rfl, rfl, congrArg (fun z => some (Value.slice _ z _)) (by simp), trivial⟩
          · have h9 := (hw.drop 0 rfl).facts (F' := TreeF y.k (nodeV y.k w2.a w2.len w2.cap) :: F) (fun φ h => by
              rcases List.mem_cons.1 h with e | e
              · subst e; simp
              · simp [e])
            show St w (OwnSl 3 1 v.1 (x.ps ++ [_]).length v.2 (ints (x.ps ++ [_])) :: _) _
            rw [List.length_append, show ints (x.ps ++ [(y.i : Int)]) = ints x.ps ++ [I y.i] from by simp]
            exact h9
      · skip
        have hl : x.u.isLeaf = true := by have h9 : (!x.u.isLeaf) = false := h4; simpa using h9
        refine TR.exit ?_
        refine NX.exitThen ?_
        refine NX.exitThen ?_
        refine NX.exitHere ?_
        refine NX.seq ?_
        refine TR.seq ?_
        refine TR.region ?_
        refine RL.move rfl rfl rfl ?_
        refine RL.assign rfl rfl rfl ?_
        refine RL.assign rfl rfl rfl ?_
        refine RL.nil ?_
        refine NX.seq ?_
        refine TR.ret ?_
        have h9 : t.pathL (n : Int) = x.ps := by
          rw [(pathL_in hin).1, Int.toNat_natCast, ← hx.2.2.2.1, path_leaf hl, List.append_nil]
        refine NX.ret2x rfl rfl rfl (fun w hw => ⟨(x.oa, x.oc), ?_, ?_⟩)
        · rw [h9, (pathL_in hin).2]
        · rw [h9]
          exact (hw.facts (F' := F) (fun φ h => .tail _ h)).keepSl.tail
theorem depth_spec {d : Nat} : ∀ {t : Tree} {a : Option Addr} {len cap : Nat} {M : List HP} {F : List Fact}, Small d t → d ≤ 8 → TreeF t (nodeV t a len cap) ∈ F → Ctr Tryd.prog 23 [nodeV t a len cap] M F Unit (fun _ => I t.depth) (fun _ => M) (fun _ => F) := by
  induction d with
  | zero => intro t a len cap M F hs hd ht; exact hs.elim
  | succ d depth_spec =>
  intro t a len cap M F hs hd ht
  refine Ctr.body Tryd.func23 rfl rfl ?_
  refine TR.seq ?_
  refine TR.region ?_
  refine RL.boxA rfl rfl rfl (fun b1 => ?_)
  refine RL.assign rfl rfl rfl ?_
  refine RL.nil ?_
  refine NX.seq ?_
  refine TR.seq ?_
  refine TR.region ?_
  refine RL.assign rfl rfl rfl ?_
  refine RL.nil ?_
  refine NX.seq ?_
  refine TR.seq ?_
  refine TR.seq ?_
  refine TR.region ?_
  refine RL.open1 (open_node ht) (fun hlen => ?_)
  refine RL.fieldAddr rfl tb_tf30_3 rfl rfl ?_
  refine RL.load1 0 rfl tb_ts28 rfl rfl rfl rfl ?_
  refine RL.lenSlice rfl tb_tl28 rfl rfl ?_
  refine RL.move rfl rfl rfl ?_
  refine RL.nil ?_
  refine NX.seq ?_
  refine TR.block ?_
  refine TR.loopP (ι := Nat) (fun k => k ≤ t.kids.length) (fun k => [(1, .pointer (some ⟨b1, 0, none⟩)), (2, I 0), (3, I (depthAll 0 (t.kids.take k))), (7, .slice a len cap), (8, I len), (9, I k)]) (fun _ => Box b1 30 (nodeC t a len cap) :: M) (fun _ => KidsOF a t.kids :: F) (fun k => t.kids.length - k) 0 (Nat.zero_le _) ⟨rfl, rfl, rfl, rfl, rfl, rfl, trivial⟩ (fun w hw => hw) (fun k hk => ?_)
  refine TR.seq ?_
  refine TR.region ?_
  refine RL.bin rfl rfl rfl BinV.lss rfl ?_
  refine RL.nil ?_
  refine NX.seq ?_
  refine TR.seq ?_
  refine TR.cond rfl (fun h2 => ?_) (fun h2 => ?_)
  · skip
    have hk1 : k < t.kids.length := by have := of_decide_eq_true h2; omega
    refine TR.openP (open_kid (.head _) (List.getElem?_eq_getElem hk1)) (fun w0 hw0 => ?_)
    refine TR.skip ?_
    refine NX.seq ?_
    refine TR.seq ?_
    refine TR.block ?_
    refine TR.seq ?_
    refine TR.region ?_
    refine RL.indexAddr rfl tb_tl28 tb_tz30 (congrArg (fun a => some (Value.slice a _ _)) hw0) rfl (by omega) (by omega) rfl ?_
    refine RL.loadF rfl rfl (fun w K hF => run_loadCellsAt (hF _ (.head _)) tb_ta30) rfl ?_
    refine RL.allocA rfl (Tryd.zeroValue30) rfl (fun b3 => ?_)
    refine RL.storeA 0 rfl rfl rfl rfl tb_tz30 rfl rfl ?_
    refine RL.nil ?_
    refine NX.seq ?_
    refine TR.region ?_
    refine RL.move rfl rfl rfl ?_
    refine RL.loadA 0 rfl rfl rfl tb_ta30 rfl ?_
    refine RL.call rfl rfl Tryd.call23 rfl (depth_spec (hs.kid (List.getElem_mem hk1)) (by omega) (.tail _ (.head _))) (fun _ => ?_)
    refine RL.max rfl rfl rfl rfl ?_
    refine RL.assign rfl rfl rfl ?_
    refine RL.nil ?_
    refine NX.off ?_
    refine NX.seq ?_
    refine TR.region ?_
    refine RL.bin rfl rfl rfl (BinV.add _ rfl (by omega) (by omega)) rfl ?_
    refine RL.move rfl rfl rfl ?_
    refine RL.nil ?_
    refine NX.roundP (k + 1) (by omega) (by omega) ⟨rfl, rfl, congrArg (fun z => some (I z)) ?_, rfl, rfl, rfl, trivial⟩ (fun w hw => (hw.drop 0 rfl).facts (F' := KidsOF a t.kids :: F) (fun φ h => .tail _ (.tail _ h)))
    rw [depthAll_step hk1]; omega
  · skip
    have hk2 : k = t.kids.length := by have := of_decide_eq_false h2; omega
    have hd9 := hs.depth
    rw [depth_eq] at hd9
    rw [hk2, List.take_length]
    refine TR.exit ?_
    refine NX.exitThen ?_
    refine NX.exitThen ?_
    refine NX.exitHere ?_
    refine NX.seq ?_
    refine TR.seq ?_
    refine TR.region ?_
    refine RL.move rfl rfl rfl ?_
    refine RL.bin rfl rfl rfl (BinV.add _ rfl (by omega) (by omega)) rfl ?_
    refine RL.assign rfl rfl rfl ?_
    refine RL.nil ?_
    refine NX.seq ?_
    refine TR.ret ?_
    refine NX.ret1 () rfl rfl ?_ (fun w hw => hw.tail.facts (fun φ h => .tail _ h))
    rw [depth_eq]; simp
theorem around_spec {n m : Int} {M : List HP} {F : List Fact} (hm : 0 < m) (h0 : -9223372036854775808 ≤ n) (h1 : n ≤ 9223372036854775807) : Ctr Tryd.prog 25 [I n, I m] M F {r : Int // 0 ≤ r ∧ r < m} (fun r => I r.1) (fun _ => M) (fun _ => F) := by
  refine Ctr.body Tryd.func25 rfl rfl ?_
  refine TR.seq ?_
  refine TR.region ?_
  refine RL.assign rfl rfl rfl ?_
  refine RL.nil ?_
  refine NX.seq ?_
  refine TR.seq ?_
  refine TR.seq ?_
  refine TR.region ?_
  refine RL.move rfl rfl rfl ?_
  refine RL.bin rfl rfl rfl BinV.lss rfl ?_
  refine RL.nil ?_
  refine NX.seq ?_
  refine TR.cond rfl (fun h1 => ?_) (fun h1 => ?_)
  · skip
    have hn := of_decide_eq_true h1
    refine TR.region ?_
    refine RL.move rfl rfl rfl ?_
    refine RL.bin rfl rfl rfl (BinV.add _ rfl (by omega) (by omega)) rfl ?_
    refine RL.neg rfl rfl (by omega) (by omega) rfl ?_
    refine RL.assign rfl rfl rfl ?_
    refine RL.nil ?_
    refine NX.seq ?_
    refine TR.seq ?_
    refine TR.region ?_
    refine RL.move rfl rfl rfl ?_
    refine RL.move rfl rfl rfl ?_
    refine RL.bin rfl rfl rfl (BinV.rem (by omega)) rfl ?_
    refine RL.assign rfl rfl rfl ?_
    refine RL.nil ?_
    refine NX.seq ?_
    refine TR.ret ?_
    refine NX.ret1 ⟨_, ?_, ?_⟩ rfl rfl rfl (fun w hw => hw)
    · exact Int.tmod_nonneg _ (by omega)
    · exact Int.tmod_lt_of_pos _ (by omega)
  · skip
    have hn := of_decide_eq_false h1
    refine TR.skip ?_
    refine NX.seq ?_
    refine TR.seq ?_
    refine TR.region ?_
    refine RL.move rfl rfl rfl ?_
    refine RL.move rfl rfl rfl ?_
    refine RL.bin rfl rfl rfl (BinV.rem (by omega)) rfl ?_
    refine RL.assign rfl rfl rfl ?_
    refine RL.nil ?_
    refine NX.seq ?_
    refine TR.ret ?_
    refine NX.ret1 ⟨_, ?_, ?_⟩ rfl rfl rfl (fun w hw => hw)
    · exact Int.tmod_nonneg _ (by omega)
    · exact Int.tmod_lt_of_pos _ (by omega)
def IntsOk (xs : List Int) : Prop := xs.length ≤ 9223372036854775807 ∧ ∀ x, x ∈ xs → -9223372036854775808 ≤ x ∧ x ≤ 9223372036854775807
theorem pick_spec {xs : List Int} {oa : Option Addr} {ca : Nat} {i m : Int} {M : List HP} {F : List Fact} (ha : ArrF oa (ints xs) ∈ F) (hxs : IntsOk xs) (hm : 0 < m) : Ctr Tryd.prog 14 [.slice oa xs.length ca, I i, I m] M F {r : Int // 0 ≤ r ∧ r < m} (fun r => I r.1) (fun _ => M) (fun _ => F) := by
  refine Ctr.body Tryd.func14 rfl rfl ?_
  refine TR.seq ?_
  refine TR.region ?_
  refine RL.assign rfl rfl rfl ?_
  refine RL.nil ?_
  refine NX.seq ?_
  refine TR.seq ?_
  refine TR.seq ?_
  refine TR.region ?_
  refine RL.move rfl rfl rfl ?_
  refine RL.bin rfl rfl rfl BinV.lss rfl ?_
  refine RL.move rfl rfl rfl ?_
  refine RL.part (fun h1 => ?_) (fun h1 => ?_)
  · skip
    refine RL.skip rfl rfl rfl ?_
    refine RL.skip rfl rfl rfl ?_
    refine RL.skip rfl rfl rfl ?_
    refine RL.skip rfl rfl rfl ?_
    refine RL.pickT rfl rfl rfl rfl ?_
    refine RL.nil ?_
    refine NX.seq ?_
    refine TR.condT rfl ?_
    refine TR.seq ?_
    refine TR.region ?_
    refine RL.assign rfl rfl rfl ?_
    refine RL.nil ?_
    refine NX.seq ?_
    refine TR.ret ?_
    refine NX.retThen ?_
    exact NX.ret1 ⟨0, by omega, hm⟩ rfl rfl rfl (fun w hw => hw)
  · skip
    have hp1 := of_decide_eq_false h1
    refine RL.move rfl rfl rfl ?_
    refine RL.move rfl rfl rfl ?_
    refine RL.lenSlice rfl tb_tl22 rfl rfl ?_
    refine RL.bin rfl rfl rfl BinV.geq rfl ?_
    refine RL.pickF rfl rfl rfl rfl ?_
    refine RL.nil ?_
    refine NX.seq ?_
    refine TR.cond rfl (fun h2 => ?_) (fun h2 => ?_)
    · skip
      refine TR.seq ?_
      refine TR.region ?_
      refine RL.assign rfl rfl rfl ?_
      refine RL.nil ?_
      refine NX.seq ?_
      refine TR.ret ?_
      refine NX.retThen ?_
      exact NX.ret1 ⟨0, by omega, hm⟩ rfl rfl rfl (fun w hw => hw)
    · skip
      have hi0 := of_decide_eq_false h2
      have hi1 : i.toNat < xs.length := by omega
      have hr := hxs.2 _ (List.getElem_mem hi1)
      refine TR.openP (open_arr ha (ints_ne (by omega))) (fun x hx => ?_)
      refine TR.skip ?_
      refine NX.seq ?_
      refine TR.seq ?_
      refine TR.region ?_
      refine RL.move rfl rfl rfl ?_
      refine RL.move rfl rfl rfl ?_
      refine RL.indexAddr rfl tb_tl22 tb_tz3 (congrArg (fun a => some (Value.slice a _ _)) hx) rfl (by omega) (by omega) rfl ?_
      refine RL.loadF rfl rfl (fun w K hF => run_loadCell1 (j := i.toNat * 1) (v := I xs[i.toNat]) (hF _ (.head _)) tb_ts3 (by simp [hi1])) rfl ?_
      refine RL.move rfl rfl rfl ?_
      refine RL.call rfl rfl Tryd.call25 rfl (around_spec hm hr.1 hr.2) (fun v => ?_)
      refine RL.assign rfl rfl rfl ?_
      refine RL.nil ?_
      refine NX.seq ?_
      refine TR.ret ?_
      exact NX.ret1 v rfl rfl rfl (fun w hw => hw.facts (fun φ h => .tail _ h))
theorem clone66_spec {cs : List Value} {n : Nat} {oa : Option Addr} {c : Nat} {M : List HP} {F : List Fact} (hF : ArrF oa cs ∈ F) (hl : cs.length = n * 4) (hone : cs.all Value.oneCell' = true) (hn : n ≤ 65536) : Ctr Tryd.prog 39 [.slice oa n c] M F (Option Addr × Nat) (fun z => .slice z.1 n z.2) (fun z => OwnSl 30 4 z.1 n z.2 cs :: M) (fun _ => F) := by
  refine Ctr.body Tryd.func39 rfl rfl ?_
  refine TR.seq ?_
  refine TR.region ?_
  refine RL.assign rfl rfl rfl ?_
  refine RL.nil ?_
  refine NX.seq ?_
  refine TR.seq ?_
  refine TR.seq ?_
  refine TR.region ?_
  refine RL.move rfl rfl rfl ?_
  refine RL.bin rfl rfl rfl (BinV.eqlNil tb_tl28) rfl ?_
  refine RL.nil ?_
  refine NX.seq ?_
  refine TR.cond rfl (fun h1 => ?_) (fun h1 => ?_)
  · skip
    have h1_ := h1
    refine TR.seq ?_
    refine TR.region ?_
    refine RL.assign rfl rfl rfl ?_
    refine RL.nil ?_
    refine NX.seq ?_
    refine TR.ret ?_
    refine NX.retThen ?_
    refine NX.ret1x rfl rfl (fun w hw => ?_)
    have ho : oa = none := by cases oa with | none => rfl | some a => cases h1_
    subst ho
    have hc := arr_nil hw hF
    have hn0 : n = 0 := by rw [hc, List.length_nil] at hl; omega
    subst hc hn0
    exact ⟨(none, 0), rfl, OwnSl.nil_new 30 4 hw⟩
  · skip
    refine TR.skip ?_
    refine NX.seq ?_
    refine TR.seq ?_
    refine TR.region ?_
    refine RL.buildSlice rfl rfl (tb_bs28_0_) rfl (fun b2 => ?_)
    refine RL.move rfl rfl rfl ?_
    refine RL.weak (fun w hw => St.boxSl (n := 0) (size := 4) rfl (by decide) hw) ?_
    refine RL.ofGV rfl rfl (GV.append (j := 0) tb_tl28 tb_ni28 tb_te30 rfl rfl rfl (src_fact hF hl hone) (by omega) (by omega)) (fun z => ?_)
    refine RL.assign rfl rfl rfl ?_
    refine RL.nil ?_
    refine NX.seq ?_
    refine TR.ret ?_
    refine NX.ret1x rfl rfl (fun w hw => ⟨(z.1, z.2), ?_, ?_⟩)
    · rw [Nat.zero_add]
    · have h9 : St w (OwnSl 30 4 z.1 (0 + n) z.2 ([] ++ cs) :: M) F := hw
      rw [Nat.zero_add] at h9
      exact h9
structure CX where
  k : Nat
  dn : List Value
  rs : List Value
theorem clone_spec {d : Nat} : ∀ {t : Tree} {a : Option Addr} {len cap : Nat} {M : List HP} {F : List Fact}, Small d t → d ≤ 8 → TreeF t (nodeV t a len cap) ∈ F → Ctr Tryd.prog 34 [nodeV t a len cap] M F {x : TX // x.t = t} (fun x => x.1.v) (fun x => OT 30 x.1.t x.1.a x.1.len x.1.cap :: M) (fun _ => F) := by
  induction d with
  | zero => intro t a len cap M F hs hd ht; exact hs.elim
  | succ d clone_spec =>
  intro t a len cap M F hs hd ht
  refine Ctr.body Tryd.func34 rfl rfl ?_
  refine TR.seq ?_
  refine TR.region ?_
  refine RL.boxA rfl rfl rfl (fun b1 => ?_)
  refine RL.allocA rfl (Tryd.zeroValue30) rfl (fun b2 => ?_)
  refine RL.nil ?_
  refine NX.seq ?_
  refine TR.seq ?_
  refine TR.region ?_
  refine RL.openP (ι := List Value) (p := fun cs => (len = t.kids.length ∧ len ≤ cap ∧ cap ≤ 9223372036854775807) ∧ cs.length = t.kids.length * 4 ∧ cs.all Value.oneCell' = true) (fun w hw => by
    obtain ⟨cs, h1, h2⟩ := open_cells ht w hw
    exact ⟨cs, ⟨h1, trees_len h2 (.tail _ (.head _)), src_trees h2 (.tail _ (.head _))⟩, h2⟩) (fun cs hcs => ?_)
  obtain ⟨hlen, hcl, ho1⟩ := hcs
  obtain ⟨hle, hlc, hcm⟩ := hlen
  subst hle
  refine RL.fieldAddr rfl tb_tf30_3 rfl rfl ?_
  refine RL.load1 1 rfl tb_ts28 rfl rfl rfl rfl ?_
  refine RL.call rfl rfl Tryd.call39 rfl (clone66_spec (.head _) hcl ho1 (by have := hs.2.1; omega)) (fun z => ?_)
  refine RL.fieldAddr rfl tb_tf30_3 rfl rfl ?_
  refine RL.store1 2 rfl tb_ts28 rfl rfl rfl rfl rfl ?_
  refine RL.nil ?_
  refine NX.seq ?_
  refine TR.seq ?_
  refine TR.seq ?_
  refine TR.region ?_
  refine RL.fieldAddr rfl tb_tf30_3 rfl rfl ?_
  refine RL.load1 2 rfl tb_ts28 rfl rfl rfl rfl ?_
  refine RL.lenSlice rfl tb_tl28 rfl rfl ?_
  refine RL.move rfl rfl rfl ?_
  refine RL.nil ?_
  refine NX.seq ?_
  refine TR.block ?_
  refine TR.loopP (ι := CX) (fun x => x.k ≤ t.kids.length ∧ x.dn.length = x.k * 4) (fun x => [(1, .pointer (some ⟨b1, 0, none⟩)), (2, .pointer (some ⟨b2, 0, none⟩)), (10, .slice z.1 t.kids.length z.2), (11, I t.kids.length), (12, I x.k)]) (fun x => OwnSl 30 4 z.1 t.kids.length z.2 (x.dn ++ x.rs) :: OTs 30 (t.kids.take x.k) x.dn :: Box b2 30 [I 0, I 0, S [], .slice none 0 0] :: Box b1 30 [I t.id, I t.kind, S t.txt, .slice z.1 t.kids.length z.2] :: M) (fun x => TreesF (t.kids.drop x.k) x.rs :: F) (fun x => t.kids.length - x.k) ⟨0, [], cs⟩ ⟨Nat.zero_le _, rfl⟩ ⟨rfl, rfl, rfl, rfl, rfl, trivial⟩ (fun w hw => ((St.otsNil (hw.facts (fun φ h => .tail _ h))).swap)) (fun x hx => ?_)
  refine TR.seq ?_
  refine TR.region ?_
  refine RL.bin rfl rfl rfl BinV.lss rfl ?_
  refine RL.nil ?_
  refine NX.seq ?_
  refine TR.seq ?_
  refine TR.cond rfl (fun h3 => ?_) (fun h3 => ?_)
  · skip
    have hk1 : x.k < t.kids.length := by have := of_decide_eq_true h3; omega
    have hdk := List.drop_eq_getElem_cons hk1
    refine TR.openP (open_trees (t := t.kids[x.k]) (ts := t.kids.drop (x.k + 1)) (cs := x.rs) (by rw [← hdk]; exact .head _)) (fun y hy => ?_)
    refine TR.openP (fun w hw => own_at (i := 0) (xs := x.dn ++ x.rs) rfl (by rw [hy.2]; simp) hw) (fun b0 hz => ?_)
    have hoff : 0 + (x.k : Int).toNat * 4 = x.dn.length := by rw [hx.2]; simp
    refine TR.skip ?_
    refine NX.seq ?_
    refine TR.seq ?_
    refine TR.block ?_
    refine TR.seq ?_
    refine TR.region ?_
    refine RL.move rfl rfl rfl ?_
    refine RL.indexAddr rfl tb_tl28 tb_tz30 (congrArg (fun a => some (Value.slice a _ _)) hz) rfl (by omega) (by omega) rfl ?_
    refine RL.loadS rfl rfl (own_agg (i := 0) (vs := y.1.c) rfl hz tb_ta30 (fun j v hj => by rw [hoff, hy.2]; exact get_mid hj)) rfl ?_
    refine RL.allocA rfl (Tryd.zeroValue30) rfl (fun b4 => ?_)
    refine RL.assign rfl rfl rfl ?_
    refine RL.storeA 0 rfl rfl rfl rfl tb_tz30 rfl rfl ?_
    refine RL.nil ?_
    refine NX.seq ?_
    refine TR.sub (E' := [(1, _), (2, _), (3, _), (4, _), (10, _), (11, _), (12, _), (13, _), (14, _), (15, _), (16, _)]) ⟨rfl, rfl, rfl, rfl, rfl, rfl, rfl, rfl, rfl, rfl, rfl, trivial⟩ ?_
    refine TR.draw mixed ?_
    apply AR.more [(0, _), (1, _), (2, _), (3, _)]
    refine AR.eff [0, 1, 2, 3] 4 [0, 1, 2, 3, 4, 5, 6] ⟨QOne.yes rfl rfl rfl (PV.fieldAddr tb_tf30_3 rfl), QOne.yes rfl rfl rfl (PV.load1 4 tb_ts28 rfl rfl rfl), QOne.yes rfl rfl rfl (PV.move rfl), QOne.yes rfl rfl rfl (PV.loadA 0 rfl rfl tb_ta30), trivial⟩ rfl rfl rfl rfl rfl rfl rfl (EV.call rfl Tryd.call34 (clone_spec (by rw [hy.1]; exact hs.kid (List.getElem_mem hk1)) (by omega) (.head _))) (fun v => ?_)
    refine AR.done [3] rfl ?_
    apply AR.more [(5, _)]
    refine AR.eff [0, 1, 2, 5] 6 [0, 1, 2, 3, 4, 5, 6] ⟨QOne.yes rfl rfl rfl (PV.fieldAddr tb_tf30_3 rfl), QOne.yes rfl rfl rfl (PV.load1 5 tb_ts28 rfl rfl rfl), QOne.yes rfl rfl rfl (PV.move rfl), QOne.yes rfl rfl rfl (PV.indexAddr tb_tl28 tb_tz30 (congrArg (fun a => some (Value.slice a _ _)) hz) rfl (by omega) (by omega)), trivial⟩ rfl rfl rfl rfl rfl rfl rfl (EV.storeO (vs := v.1.c) 2 rfl rfl rfl hz tb_tz30 rfl (by rw [hoff, hy.2]; simp) rfl) (fun _ => ?_)
    refine AR.done [5, 0, 1, 2] rfl ?_
    refine AR.last [] [0, 1, 2, 3, 4, 5, 6] trivial rfl rfl rfl ?_
    refine NX.sub (E' := [(1, _), (2, _), (3, _), (4, _), (10, _), (11, _), (12, _), (13, _), (14, _), (15, _), (16, _), (17, _), (18, _), (19, _), (20, _), (21, _), (22, _)]) ⟨rfl, rfl, rfl, rfl, rfl, rfl, rfl, rfl, rfl, rfl, rfl, rfl, rfl, rfl, rfl, rfl, rfl, trivial⟩ ?_
    refine NX.off ?_
    refine NX.seq ?_
    refine TR.region ?_
    refine RL.bin rfl rfl rfl (BinV.add _ rfl (by omega) (by omega)) rfl ?_
    refine RL.move rfl rfl rfl ?_
    refine RL.nil ?_
    obtain ⟨v, hv⟩ := v
    have hvk : v.t = t.kids[x.k] := hv.trans hy.1
    refine NX.roundP ⟨x.k + 1, x.dn ++ v.c, y.2⟩ ⟨hk1, ?_⟩ (by show _ - (x.k + 1) < _ - x.k; omega) ⟨rfl, rfl, rfl, rfl, rfl, trivial⟩ (fun w hw => ?_)
    · show (x.dn ++ v.c).length = (x.k + 1) * 4; rw [List.length_append, hx.2]; simp; omega
    · have h9 : St w (OT 30 v.t v.a v.len v.cap :: Box _ 30 y.1.c :: OwnSl 30 4 z.1 t.kids.length z.2 ((x.dn ++ x.rs).take (0 + (x.k : Int).toNat * 4) ++ v.c ++ (x.dn ++ x.rs).drop (0 + (x.k : Int).toNat * 4 + v.c.length)) :: OTs 30 (t.kids.take x.k) x.dn :: _) _ := hw
      rw [hoff, hy.2, splice_mid x.dn y.1.c y.2 v.c rfl] at h9
      have h8 := (h9.drop 1 rfl).rot3.otsSnoc.swap
      have e8 : t.kids.take x.k ++ [v.t] = t.kids.take (x.k + 1) := by rw [hvk, ← List.take_succ_eq_append_getElem hk1]
      rw [e8] at h8
      have h7 := h8.facts (F' := TreesF (t.kids.drop (x.k + 1)) y.2 :: F) (fun φ h => by
        rcases List.mem_cons.1 h with e | h
        · subst e; exact .tail _ (.head _)
        · exact .tail _ (.tail _ (.tail _ h)))
      show St w (OwnSl 30 4 z.1 t.kids.length z.2 ((x.dn ++ v.c) ++ y.2) :: OTs 30 (t.kids.take (x.k + 1)) (x.dn ++ v.c) :: _) _
      rw [List.append_assoc]
      exact h7
  · skip
    have hk2 : x.k = t.kids.length := by have := of_decide_eq_false h3; omega
    refine TR.exit ?_
    refine NX.exitThen ?_
    refine NX.exitThen ?_
    refine NX.exitHere ?_
    refine NX.seq ?_
    refine TR.seq ?_
    refine TR.region ?_
    refine RL.loadA 3 rfl rfl rfl tb_ta30 rfl ?_
    refine RL.storeA 2 rfl rfl rfl rfl tb_tz30 rfl rfl ?_
    refine RL.nil ?_
    refine NX.seq ?_
    refine TR.ret ?_
    refine NX.retCx (j := 2) rfl rfl rfl tb_ta30 (fun w hw => ?_)
    rw [hk2, List.take_length, List.drop_length] at hw
    have hr := trees_nil hw (.head _)
    rw [hr, List.append_nil] at hw
    exact ⟨⟨⟨t, z.1, t.kids.length, z.2⟩, rfl⟩, rfl, St.otClose (((hw.drop 2 rfl).drop 2 rfl).facts (fun φ h => .tail _ h))⟩
theorem ext68 (v : Value) (w : World) : (callFunc 38 #[v]).run Tryd.prog w = .ok (.value v) w := by kernel_rfl
theorem lies80 : liesAt Tryd.prog Tryd.prog.depth 47 (([Value.pointer none, .slice none 0 0] : List Value).length / Tryd.prog.cellsOf 47) 0 47 1 = true := by kernel_rfl
theorem cells5 : Nat.beq (Tryd.prog.cellsOf 5) 1 = true := by kernel_rfl
theorem copyCheck0_spec {b : Nat} {oa : Option Addr} {n c : Nat} {M : List HP} {F : List Fact} : Ctr Tryd.prog 32 [.pointer (some ⟨b, 0, none⟩)] (Box b 47 [.pointer (none), .slice oa n c] :: M) F Unit (fun _ => .tuple #[]) (fun _ => Box b 47 [.pointer (some ⟨b, 0, none⟩), .slice oa n c] :: M) (fun _ => F) := by
  refine Ctr.body Tryd.func32 rfl rfl ?_
  refine TR.seq ?_
  refine TR.region ?_
  refine RL.move rfl rfl rfl ?_
  refine RL.nilCheck rfl rfl rfl ?_
  refine RL.fieldAddr rfl tb_tf47_0 rfl rfl ?_
  refine RL.load1 0 rfl tb_ts44 rfl rfl rfl rfl ?_
  refine RL.bin rfl rfl rfl (BinV.eqlPtrNil tb_tp44) rfl ?_
  refine RL.nil ?_
  refine NX.seq ?_
  refine TR.condT rfl ?_
  refine TR.region ?_
  refine RL.move rfl rfl rfl ?_
  refine RL.move rfl rfl rfl ?_
  refine RL.toUnsafe 0 rfl tb_tp44 tb_tz47 rfl tb_tu73 rfl rfl rfl rfl ?_
  refine RL.callX rfl rfl (ext68 _) rfl ?_
  refine RL.fromUnsafe 0 rfl tb_tu73 tb_tz47 tb_tp44 rfl rfl lies80 rfl ?_
  refine RL.nilCheck rfl rfl rfl ?_
  refine RL.fieldAddr rfl tb_tf47_0 rfl rfl ?_
  refine RL.store1 0 rfl tb_ts44 rfl rfl rfl rfl rfl ?_
  refine RL.nil ?_
  exact NX.end0 () rfl rfl (fun w hw => hw)
theorem copyCheck1_spec {b : Nat} {oa : Option Addr} {n c : Nat} {M : List HP} {F : List Fact} : Ctr Tryd.prog 32 [.pointer (some ⟨b, 0, none⟩)] (Box b 47 [.pointer (some ⟨b, 0, none⟩), .slice oa n c] :: M) F Unit (fun _ => .tuple #[]) (fun _ => Box b 47 [.pointer (some ⟨b, 0, none⟩), .slice oa n c] :: M) (fun _ => F) := by
  refine Ctr.body Tryd.func32 rfl rfl ?_
  refine TR.seq ?_
  refine TR.region ?_
  refine RL.move rfl rfl rfl ?_
  refine RL.nilCheck rfl rfl rfl ?_
  refine RL.fieldAddr rfl tb_tf47_0 rfl rfl ?_
  refine RL.load1 0 rfl tb_ts44 rfl rfl rfl rfl ?_
  refine RL.bin rfl rfl rfl (BinV.eqlPtrNil tb_tp44) rfl ?_
  refine RL.nil ?_
  refine NX.seq ?_
  refine TR.condF rfl ?_
  refine TR.seq ?_
  refine TR.region ?_
  refine RL.move rfl rfl rfl ?_
  refine RL.nilCheck rfl rfl rfl ?_
  refine RL.fieldAddr rfl tb_tf47_0 rfl rfl ?_
  refine RL.load1 0 rfl tb_ts44 rfl rfl rfl rfl ?_
  refine RL.move rfl rfl rfl ?_
  refine RL.bin rfl rfl rfl (BinV.neqPtrSame tb_tp44 tb_tz47) rfl ?_
  refine RL.nil ?_
  refine NX.seq ?_
  refine TR.condF rfl ?_
  refine TR.skip ?_
  exact NX.end0 () rfl rfl (fun w hw => hw)
theorem copyCheck_spec {b : Nat} {oa : Option Addr} {n c : Nat} {M : List HP} {F : List Fact} (i : Bool) : Ctr Tryd.prog 32 [.pointer (some ⟨b, 0, none⟩)] (Box b 47 [.pointer (if i then some ⟨b, 0, none⟩ else none), .slice oa n c] :: M) F Unit (fun _ => .tuple #[]) (fun _ => Box b 47 [.pointer (some ⟨b, 0, none⟩), .slice oa n c] :: M) (fun _ => F) := by
  cases i
  · exact copyCheck0_spec
  · exact copyCheck1_spec
theorem writeString_spec {b : Nat} {l x : List UInt8} {M : List HP} {F : List Fact} (hl : l.length + x.length ≤ 140737488355328) : Ctr Tryd.prog 17 [.pointer (some ⟨b, 0, none⟩), S x] (Bld 47 5 b l :: M) F Unit (fun _ => .tuple #[I x.length, .nilIface]) (fun _ => Bld 47 5 b (l ++ x) :: M) (fun _ => F) := by
  refine Ctr.body Tryd.func17 rfl rfl ?_
  refine TR.seq ?_
  refine TR.region ?_
  refine RL.open (fun w hw => St.exOpen hw) (fun i => ?_)
  refine RL.assign rfl rfl rfl ?_
  refine RL.assign rfl rfl rfl ?_
  refine RL.nil ?_
  refine NX.seq ?_
  refine TR.seq ?_
  refine TR.region ?_
  refine RL.move rfl rfl rfl ?_
  refine RL.call rfl rfl Tryd.call32 rfl (copyCheck_spec i.1) (fun _ => ?_)
  refine RL.nil ?_
  refine NX.seq ?_
  refine TR.seq ?_
  refine TR.region ?_
  refine RL.move rfl rfl rfl ?_
  refine RL.move rfl rfl rfl ?_
  refine RL.nilCheck rfl rfl rfl ?_
  refine RL.fieldAddr rfl tb_tf47_1 rfl rfl ?_
  refine RL.load1 0 rfl tb_ts45 rfl rfl rfl rfl ?_
  refine RL.move rfl rfl rfl ?_
  refine RL.ofGV rfl rfl (GV.append (j := 1) tb_tl45 tb_ni9 tb_te5 rfl rfl rfl (src_str x) (by omega) (by omega)) (fun z => ?_)
  refine RL.nilCheck rfl rfl rfl ?_
  refine RL.fieldAddr rfl tb_tf47_1 rfl rfl ?_
  refine RL.store1 0 rfl tb_ts45 rfl rfl rfl rfl rfl ?_
  refine RL.nil ?_
  refine NX.seq ?_
  refine TR.seq ?_
  refine TR.region ?_
  refine RL.move rfl rfl rfl ?_
  refine RL.lenStr rfl tb_tstr9 rfl rfl ?_
  refine RL.assign rfl rfl rfl ?_
  refine RL.assign rfl rfl rfl ?_
  refine RL.nil ?_
  refine NX.seq ?_
  refine TR.ret ?_
  exact NX.ret2 () rfl rfl rfl rfl (fun w hw => St.exClose (true, z.1, z.2) (by rw [bytesV_append, List.length_append]; exact hw))
theorem bString_spec {b : Nat} {l : List UInt8} {M : List HP} {F : List Fact} (hl : l.length ≤ 140737488355328) : Ctr Tryd.prog 18 [.pointer (some ⟨b, 0, none⟩)] (Bld 47 5 b l :: M) F Unit (fun _ => S l) (fun _ => M) (fun _ => F) := by
  refine Ctr.body Tryd.func18 rfl rfl ?_
  refine TR.seq ?_
  refine TR.region ?_
  refine RL.open (fun w hw => St.exOpen hw) (fun i => ?_)
  refine RL.assign rfl rfl rfl ?_
  refine RL.nil ?_
  refine NX.seq ?_
  refine TR.seq ?_
  refine TR.sub (E' := [(0, _), (2, _)]) ⟨rfl, rfl, trivial⟩ ?_
  refine TR.draw mixed ?_
  apply AR.more [(0, _), (1, _), (2, _), (3, _), (5, _), (6, _), (7, _), (8, _), (9, _)]
  refine AR.eff [0, 1, 2, 3, 5, 6, 7, 8, 9] 4 [0, 1, 2, 3, 4, 5, 6, 7, 8, 9, 10, 11] ⟨QOne.yes rfl rfl rfl (PV.move rfl), QOne.yes rfl rfl rfl (PV.nilCheck rfl), QOne.yes rfl rfl rfl (PV.fieldAddr tb_tf47_1 rfl), QOne.yes rfl rfl rfl (PV.load1 0 tb_ts45 rfl rfl rfl), QOne.yes rfl rfl rfl (PV.move rfl), QOne.yes rfl rfl rfl (PV.nilCheck rfl), QOne.yes rfl rfl rfl (PV.fieldAddr tb_tf47_1 rfl), QOne.yes rfl rfl rfl (PV.load1 0 tb_ts45 rfl rfl rfl), QOne.yes rfl rfl rfl (PV.lenSlice tb_tl45 rfl), trivial⟩ rfl rfl rfl rfl rfl rfl rfl (EV.ofGV (GV.sliceData (j := 1) tb_tp69 rfl rfl)) (fun q => ?_)
  refine AR.done [3, 2, 1, 0] rfl ?_
  refine AR.eff [5, 6, 7, 8, 9] 10 [0, 1, 2, 3, 4, 5, 6, 7, 8, 9, 10, 11] ⟨QOne.yes rfl rfl rfl (PV.move rfl), QOne.yes rfl rfl rfl (PV.nilCheck rfl), QOne.yes rfl rfl rfl (PV.fieldAddr tb_tf47_1 rfl), QOne.yes rfl rfl rfl (PV.load1 0 tb_ts45 rfl rfl rfl), QOne.yes rfl rfl rfl (PV.lenSlice tb_tl45 rfl), trivial⟩ rfl rfl rfl rfl rfl rfl rfl (EV.ofGV (GV.unsafeString (j := 1) tb_tp69 cells5 rfl rfl q.2 (by omega) rfl)) (fun _ => ?_)
  refine AR.done [9, 8, 7, 6, 5] rfl ?_
  apply AR.more [(11, _)]
  refine AR.last [11] [0, 1, 2, 3, 4, 5, 6, 7, 8, 9, 10, 11] ⟨QOne.yes rfl rfl rfl (PV.assign rfl), trivial⟩ rfl rfl rfl ?_
  refine NX.sub (E' := [(2, _)]) ⟨rfl, trivial⟩ ?_
  refine NX.seq ?_
  refine TR.ret ?_
  exact NX.ret1 () rfl rfl rfl (fun w hw => (hw.drop 0 rfl).drop 0 rfl)
theorem text_spec {t : Tree} {a : Option Addr} {len cap : Nat} {M : List HP} {F : List Fact} (ht : TreeF t (nodeV t a len cap) ∈ F) (hwd : t.width ≤ 140737488355328) : Ctr Tryd.prog 8 [nodeV t a len cap] M F Unit (fun _ => S t.text) (fun _ => M) (fun _ => F) := by
  refine Ctr.bodyM Tryd.func8 rfl rfl ?_
  refine TR.seq ?_
  refine TR.region ?_
  refine RL.boxA rfl rfl rfl (fun b1 => ?_)
  refine RL.assign rfl rfl rfl ?_
  refine RL.nil ?_
  refine NX.seq ?_
  refine TR.seq ?_
  refine TR.region ?_
  refine RL.allocA rfl (Tryd.zeroValue47) rfl (fun b2 => ?_)
  refine RL.weak (fun w hw => St.bldNew (e := 5) hw) ?_
  refine RL.nil ?_
  refine NX.seq ?_
  refine TR.seq ?_
  refine TR.seq ?_
  refine TR.region ?_
  refine RL.loadA 1 rfl rfl rfl tb_ta30 rfl ?_
  refine RL.call rfl rfl Tryd.call15 rfl (all_spec (nodeC t a len cap) _ _) (fun bc => ?_)
  refine RL.nil ?_
  refine NX.seq ?_
  refine TR.block ?_
  refine TR.rangeFunc (κ := Nat) (xs := t.pre) rfl Tryd.call30 (by simp) nodeEnc_len (all_iter (.tail _ ht) (.head _)) (fun pre => [Bld 47 5 b2 (textOf pre)]) (Box b1 30 (nodeC t a len cap) :: M) (fun w hw => hw) (fun pre x args b => [(3, .pointer (some ⟨b2, 0, none⟩)), (4, .pointer (some ⟨b, 0, none⟩))]) (fun pre x args b => [Box b 30 (argCells args), Bld 47 5 b2 (textOf pre)]) ?as0 ?bd0 ?ki0
  case as0 =>
    intro l pre x suf args hx he Mi G hG
    obtain ⟨a2, len2, cap2, rfl⟩ := he
    refine TR.region ?_
    refine RL.allocA rfl (Tryd.zeroValue30) rfl (fun b3 => ?_)
    refine RL.storeA 0 rfl rfl rfl rfl tb_tz30 rfl rfl ?_
    refine RL.nil ?_
    exact NX.meet b3 ⟨rfl, rfl, trivial⟩ (fun w hw => hw)
  case bd0 =>
    intro l pre x suf args i hx he Mi G hG
    obtain ⟨a2, len2, cap2, rfl⟩ := he
    refine TR.block ?_
    refine TR.seq ?_
    refine TR.region ?_
    refine RL.loadA 0 rfl rfl rfl tb_ta30 rfl ?_
    refine RL.call rfl rfl Tryd.call16 rfl (leaf_spec x.id x.kind x.txt a2 len2 cap2 _ _) (fun _ => ?_)
    refine RL.nil ?_
    refine NX.seq ?_
    refine TR.cond rfl (fun h4 => ?_) (fun h4 => ?_)
    · skip
      have hlf := h4
      have hp := textOf_parts hx
      rw [leafText_T h4] at hp
      have hwd2 : (textOf t.pre).length ≤ 140737488355328 := hwd
      refine TR.region ?_
      refine RL.fieldAddr rfl tb_tf30_2 rfl rfl ?_
      refine RL.load1 0 rfl tb_ts9 rfl rfl rfl rfl ?_
      refine RL.call rfl rfl Tryd.call17 rfl (Ctr.frame1 [_] (writeString_spec (by omega))) (fun _ => ?_)
      refine RL.nil ?_
      refine NX.off ?_
      exact fun a w _ hw => by
        have h9 := hw.drop 0 rfl
        show St w (Bld 47 5 b2 (textOf (pre ++ [x])) :: Mi) G
        rw [textOf_snoc, leafText_T hlf]
        exact h9
    · skip
      have hlf := h4
      refine TR.skip ?_
      refine NX.off ?_
      exact fun a w _ hw => by
        have h9 := hw.drop 0 rfl
        show St w (Bld 47 5 b2 (textOf (pre ++ [x])) :: Mi) G
        rw [textOf_snoc, leafText_F hlf, List.append_nil]
        exact h9
  case ki0 =>
    intro D
    refine NX.off ?_
    refine NX.seq ?_
    refine TR.seq ?_
    refine TR.region ?_
    have hwd3 : (textOf t.pre).length ≤ 140737488355328 := hwd
    refine RL.call rfl rfl Tryd.call18 rfl (Ctr.frame0 [_] (bString_spec hwd)) (fun _ => ?_)
    refine RL.assign rfl rfl rfl ?_
    refine RL.nil ?_
    refine NX.seq ?_
    refine TR.ret ?_
    refine NX.retM 0 () rfl rfl rfl rfl (fun w hw => (hw.tail).facts (fun φ h => .tail _ h))
end Go.Proofs.YtnolpmigiboanaaDoor

namespace Go.Proofs.YtnolpmigiboanaaDoor
open Go.GL Go.GL.Tree
set_option linter.unusedVariables false
theorem tc_bs22_1_0 (x0 : Int) : BuildSV Tryd.prog 22 3 1 [(0, .int .i64 x0)] [.int .i64 x0] := fun w => by kernel_rfl
theorem tc_bs22_2_0_1 (x0 : Int) (x1 : Int) : BuildSV Tryd.prog 22 3 2 [(0, .int .i64 x0), (1, .int .i64 x1)] [.int .i64 x0, .int .i64 x1] := fun w => by kernel_rfl
theorem tc_bs28_1_0 (x00 : Int) (x01 : Int) (x02 : List UInt8) (x03 : Option Addr) (x03n x03c : Nat) : BuildSV Tryd.prog 28 30 1 [(0, .agg #[.int .i64 x00, .int .i64 x01, S x02, .slice x03 x03n x03c])] [.int .i64 x00, .int .i64 x01, S x02, .slice x03 x03n x03c] := fun w => by kernel_rfl
theorem tc_bs28_2_0_1 (x00 : Int) (x01 : Int) (x02 : List UInt8) (x03 : Option Addr) (x03n x03c : Nat) (x10 : Int) (x11 : Int) (x12 : List UInt8) (x13 : Option Addr) (x13n x13c : Nat) : BuildSV Tryd.prog 28 30 2 [(0, .agg #[.int .i64 x00, .int .i64 x01, S x02, .slice x03 x03n x03c]), (1, .agg #[.int .i64 x10, .int .i64 x11, S x12, .slice x13 x13n x13c])] [.int .i64 x00, .int .i64 x01, S x02, .slice x03 x03n x03c, .int .i64 x10, .int .i64 x11, S x12, .slice x13 x13n x13c] := fun w => by kernel_rfl
theorem tc_bs28_3_0_1_2 (x00 : Int) (x01 : Int) (x02 : List UInt8) (x03 : Option Addr) (x03n x03c : Nat) (x10 : Int) (x11 : Int) (x12 : List UInt8) (x13 : Option Addr) (x13n x13c : Nat) (x20 : Int) (x21 : Int) (x22 : List UInt8) (x23 : Option Addr) (x23n x23c : Nat) : BuildSV Tryd.prog 28 30 3 [(0, .agg #[.int .i64 x00, .int .i64 x01, S x02, .slice x03 x03n x03c]), (1, .agg #[.int .i64 x10, .int .i64 x11, S x12, .slice x13 x13n x13c]), (2, .agg #[.int .i64 x20, .int .i64 x21, S x22, .slice x23 x23n x23c])] [.int .i64 x00, .int .i64 x01, S x02, .slice x03 x03n x03c, .int .i64 x10, .int .i64 x11, S x12, .slice x13 x13n x13c, .int .i64 x20, .int .i64 x21, S x22, .slice x23 x23n x23c] := fun w => by kernel_rfl
theorem tc_bv30_  : BuildV Tryd.prog 30 [] (.agg #[.int .i64 0, .int .i64 0, S [], .slice none 0 0]) := fun w => by kernel_rfl
theorem tc_bv30_1_2 (x1 : Int) (x2 : List UInt8) : BuildV Tryd.prog 30 [(1, .int .i64 x1), (2, S x2)] (.agg #[.int .i64 0, .int .i64 x1, S x2, .slice none 0 0]) := fun w => by kernel_rfl
theorem tc_bv30_1_3 (x1 : Int) (x3 : Option Addr) (x3n x3c : Nat) : BuildV Tryd.prog 30 [(1, .int .i64 x1), (3, .slice x3 x3n x3c)] (.agg #[.int .i64 0, .int .i64 x1, S [], .slice x3 x3n x3c]) := fun w => by kernel_rfl
theorem tc_ta30 : tyAgg Tryd.prog 30 4 = true := by kernel_rfl
theorem tc_ta42 : tyAgg Tryd.prog 42 3 = true := by kernel_rfl
theorem tc_tf30_1 : fieldOff Tryd.prog 30 1 1 = true := by kernel_rfl
theorem tc_tf30_3 : fieldOff Tryd.prog 30 3 3 = true := by kernel_rfl
theorem tc_tl22 : tySlice Tryd.prog 22 3 = true := by kernel_rfl
theorem tc_tl26 : tySlice Tryd.prog 26 42 = true := by kernel_rfl
theorem tc_tl28 : tySlice Tryd.prog 28 30 = true := by kernel_rfl
theorem tc_ts28 : tyScalar Tryd.prog 28 = true := by kernel_rfl
theorem tc_ts3 : tyScalar Tryd.prog 3 = true := by kernel_rfl
theorem tc_tz3 : tySize Tryd.prog 3 1 = true := by kernel_rfl
theorem tc_tz30 : tySize Tryd.prog 30 4 = true := by kernel_rfl
theorem tc_tz42 : tySize Tryd.prog 42 3 = true := by kernel_rfl
def exA : Tree := .node 0 50 [] [.node 0 2 [97] []]
def exB : Tree := .node 0 49 [] [.node 0 0 [32] [], .node 0 4 [49] []]
def exT : Tree := .node 0 37 [] [exA, .node 0 6 [43] [], exB]
theorem exT_small : Small 3 exT := by
  simp [exT, exA, exB, Small, Tree.kids, Tree.txt, Tree.isLeaf, Tree.kind]
theorem example_spec {M : List HP} {F : List Fact} : Ctr Tryd.prog 19 [] M F {x : TX // x.t = exT} (fun x => x.1.v) (fun _ => M) (fun x => TreeF x.1.t x.1.v :: F) := by
  refine Ctr.body Tryd.func19 rfl rfl ?_
  refine TR.seq ?_
  refine TR.region ?_
  refine RL.allocA rfl (Tryd.zeroValue30) rfl (fun b1 => ?_)
  refine RL.nil ?_
  refine NX.seq ?_
  refine TR.seq ?_
  refine TR.region ?_
  refine RL.build rfl rfl (tc_bv30_1_2 _ _) rfl ?_
  refine RL.buildSlice rfl rfl (tc_bs28_1_0 _ _ _ _ _ _) rfl (fun ba => ?_)
  refine RL.weak (fun w hw => St.boxTree exA (by decide) (hw.addFact (TreesF [.node 0 2 [97] []] (nodeC (.node 0 2 [97] []) none 0 0)) (fun K _ => ⟨_, _, _, [], rfl, leaf_at _ _ _, rfl⟩)) (.head _)) ?_
  refine RL.build rfl rfl (tc_bv30_1_3 _ _ _ _) rfl ?_
  refine RL.allocA rfl (Tryd.zeroValue30) rfl (fun b2 => ?_)
  refine RL.storeA 0 rfl rfl rfl rfl tc_tz30 rfl rfl ?_
  refine RL.nil ?_
  refine NX.seq ?_
  refine TR.seq ?_
  refine TR.region ?_
  refine RL.build rfl rfl (tc_bv30_1_2 _ _) rfl ?_
  refine RL.build rfl rfl (tc_bv30_1_2 _ _) rfl ?_
  refine RL.buildSlice rfl rfl (tc_bs28_2_0_1 _ _ _ _ _ _ _ _ _ _ _ _) rfl (fun bb => ?_)
  refine RL.weak (fun w hw => St.boxTree exB (by decide) (hw.addFact (TreesF [.node 0 0 [32] [], .node 0 4 [49] []] (nodeC (.node 0 0 [32] []) none 0 0 ++ nodeC (.node 0 4 [49] []) none 0 0)) (fun K _ => ⟨_, _, _, _, rfl, leaf_at _ _ _, _, _, _, [], rfl, leaf_at _ _ _, rfl⟩)) (.head _)) ?_
  refine RL.build rfl rfl (tc_bv30_1_3 _ _ _ _) rfl ?_
  refine RL.allocA rfl (Tryd.zeroValue30) rfl (fun b3 => ?_)
  refine RL.storeA 0 rfl rfl rfl rfl tc_tz30 rfl rfl ?_
  refine RL.nil ?_
  refine NX.seq ?_
  refine TR.seq ?_
  refine TR.region ?_
  refine RL.loadA 1 rfl rfl rfl tc_ta30 rfl ?_
  refine RL.build rfl rfl (tc_bv30_1_2 _ _) rfl ?_
  refine RL.loadA 0 rfl rfl rfl tc_ta30 rfl ?_
  refine RL.buildSlice rfl rfl (tc_bs28_3_0_1_2 _ _ _ _ _ _ _ _ _ _ _ _ _ _ _ _ _ _) rfl (fun bt => ?_)
  refine RL.weak (fun w hw => St.boxTree exT (by decide) (hw.addFact (TreesF [exA, .node 0 6 [43] [], exB] (nodeC exA (some ⟨ba, 0, none⟩) 1 1 ++ (nodeC (.node 0 6 [43] []) none 0 0 ++ nodeC exB (some ⟨bb, 0, none⟩) 2 2))) (fun K hf => ⟨_, _, _, _, rfl, hf _ (.tail _ (.tail _ (.head _))), _, _, _, _, rfl, leaf_at _ _ _, _, _, _, [], rfl, hf _ (.head _), rfl⟩)) (.head _)) ?_
  refine RL.build rfl rfl (tc_bv30_1_3 _ _ _ _) rfl ?_
  refine RL.storeA 2 rfl rfl rfl rfl tc_tz30 rfl rfl ?_
  refine RL.nil ?_
  refine NX.seq ?_
  refine TR.ret ?_
  exact NX.retCx (j := 2) rfl rfl rfl tc_ta30 (fun w hw => ⟨⟨⟨exT, some ⟨bt, 0, none⟩, 3, 3⟩, rfl⟩, rfl, (((hw.drop 0 rfl).drop 0 rfl).drop 0 rfl).facts (fun φ h => by
    rcases List.mem_cons.1 h with e | h
    · subst e; exact .head _
    · exact .tail _ (.tail _ (.tail _ (.tail _ (.tail _ (.tail _ h))))))⟩)
structure RX where
  u : Tree
  a : Option Addr
  len : Nat
  cap : Nat
  p : Nat
  j : Nat
  e : Nat
theorem kids_cap {d : Nat} {t : Tree} (hs : Small d t) (hd : d ≤ 8) {k : Nat} (h : k < t.kids.length) : ((t.kids.take k).flatMap text).length + t.kids[k].width ≤ t.width ∧ t.width ≤ 524288 := by
  have := kid_bounds' hs hd (hs.inner h) h
  omega
theorem get_spec {t : Tree} {a : Option Addr} {len cap : Nat} {M : List HP} {F : List Fact} {d : Nat} (hs : Small d t) (hd : d ≤ 8) (ht : TreeF t (nodeV t a len cap) ∈ F) {ps : List Int} {oa : Option Addr} {ca : Nat} (ha : ArrF oa (ints ps) ∈ F) (hps : ps.length ≤ 4611686018427387904) : Ctr Tryd.prog 21 [nodeV t a len cap, .slice oa ps.length ca] M F {x : TX // x.t = (t.getR ps).1} (fun x => .tuple #[x.1.v, I (t.getR ps).2.1, .bool (t.getR ps).2.2]) (fun _ => M) (fun x => TreeF x.1.t x.1.v :: F) := by
  refine Ctr.body Tryd.func21 rfl rfl ?_
  refine TR.seq ?_
  refine TR.region ?_
  refine RL.boxA rfl rfl rfl (fun b1 => ?_)
  refine RL.allocA rfl (Tryd.zeroValue30) rfl (fun b2 => ?_)
  refine RL.assign rfl rfl rfl ?_
  refine RL.assign rfl rfl rfl ?_
  refine RL.nil ?_
  refine NX.seq ?_
  refine TR.seq ?_
  refine TR.region ?_
  refine RL.assign rfl rfl rfl ?_
  refine RL.nil ?_
  refine NX.seq ?_
  refine TR.seq ?_
  refine TR.seq ?_
  refine TR.region ?_
  refine RL.move rfl rfl rfl ?_
  refine RL.lenSlice rfl tc_tl22 rfl rfl ?_
  refine RL.move rfl rfl rfl ?_
  refine RL.nil ?_
  refine NX.seq ?_
  refine TR.block ?_
  refine TR.loopP (ι := RX) (fun x => Small x.e x.u ∧ x.e ≤ d ∧ x.j ≤ ps.length ∧ x.u.get (ps.drop x.j) x.p = t.get ps 0 ∧ x.p + x.u.width ≤ 524288) (fun x => [(1, .slice oa ps.length ca), (2, .pointer (some ⟨b1, 0, none⟩)), (4, .pointer (some ⟨b2, 0, none⟩)), (5, I 0), (6, .bool false), (7, I x.p), (12, .slice oa ps.length ca), (13, I ps.length), (14, I x.j)]) (fun x => Box b2 30 [I 0, I 0, S [], .slice none 0 0] :: Box b1 30 (nodeC x.u x.a x.len x.cap) :: M) (fun x => TreeF x.u (nodeV x.u x.a x.len x.cap) :: F) (fun x => ps.length - x.j) ⟨t, a, len, cap, 0, 0, d⟩ ⟨hs, Nat.le_refl _, Nat.zero_le _, rfl, by have := hs.width6 hd; show 0 + t.width ≤ 524288; omega⟩ ⟨rfl, rfl, rfl, rfl, rfl, rfl, rfl, rfl, rfl, trivial⟩ (fun w hw => hw.addFact (TreeF t (nodeV t a len cap)) (fun K hf => hf _ ht)) (fun x hx => ?_)
  refine TR.seq ?_
  refine TR.region ?_
  refine RL.bin rfl rfl rfl BinV.lss rfl ?_
  refine RL.nil ?_
  refine NX.seq ?_
  refine TR.seq ?_
  refine TR.cond rfl (fun h3 => ?_) (fun h3 => ?_)
  · skip
    have hj1 : x.j < ps.length := by have := of_decide_eq_true h3; omega
    have hdk := List.drop_eq_getElem_cons hj1
    refine TR.open1 (open_node (.head _)) (fun hlen => ?_)
    refine TR.openP (open_arr (oa := oa) (xs := ints ps) (.tail _ (.tail _ ha)) (ints_ne (by omega))) (fun q hpa => ?_)
    refine TR.skip ?_
    refine NX.seq ?_
    refine TR.seq ?_
    refine TR.block ?_
    refine TR.seq ?_
    refine TR.region ?_
    refine RL.indexAddr rfl tc_tl22 tc_tz3 (congrArg (fun a => some (Value.slice a _ _)) hpa) rfl (by omega) (by omega) rfl ?_
    refine RL.loadF rfl rfl (fun w K hF => run_loadCell1 (j := (x.j : Int).toNat * 1) (v := I ps[x.j]) (hF _ (.head _)) tc_ts3 (by simp [hj1])) rfl ?_
    refine RL.assign rfl rfl rfl ?_
    refine RL.nil ?_
    refine NX.seq ?_
    refine TR.seq ?_
    refine TR.seq ?_
    refine TR.region ?_
    refine RL.move rfl rfl rfl ?_
    refine RL.bin rfl rfl rfl BinV.lss rfl ?_
    refine RL.move rfl rfl rfl ?_
    refine RL.part (fun h4 => ?_) (fun h4 => ?_)
    · skip
      have hout : ps[x.j] < 0 ∨ (x.u.kids.length : Int) ≤ ps[x.j] := by have := of_decide_eq_true h4; omega
      refine RL.skip rfl rfl rfl ?_
      refine RL.skip rfl rfl rfl ?_
      refine RL.skip rfl rfl rfl ?_
      refine RL.skip rfl rfl rfl ?_
      refine RL.skip rfl rfl rfl ?_
      refine RL.pickT rfl rfl rfl rfl ?_
      refine RL.nil ?_
      refine NX.seq ?_
      refine TR.condT rfl ?_
      refine TR.seq ?_
      refine TR.region ?_
      refine RL.build rfl rfl (tc_bv30_) rfl ?_
      refine RL.storeA 0 rfl rfl rfl rfl tc_tz30 rfl rfl ?_
      refine RL.assign rfl rfl rfl ?_
      refine RL.assign rfl rfl rfl ?_
      refine RL.nil ?_
      refine NX.seq ?_
      refine TR.ret ?_
      refine NX.retThen ?_
      refine NX.retBlock ?_
      refine NX.retThen ?_
      refine NX.retThen ?_
      refine NX.retBlock ?_
      refine NX.retThen ?_
      have h9 : t.getR ps = (.node 0 0 [] [], 0, false) := by
        have h8 := hx.2.2.2.1
        rw [hdk, get_out hout] at h8
        unfold getR; rw [← h8]
      refine NX.retC2 (j := 0) rfl rfl rfl rfl rfl tc_ta30 (fun w hw => ⟨⟨⟨.node 0 0 [] [], none, 0, 0⟩, by rw [h9]⟩, (by show _ = Value.tuple #[nodeV (.node 0 0 [] []) none 0 0, I (t.getR ps).2.1, .bool (t.getR ps).2.2]; rw [h9]; rfl), ?_⟩)
      exact (((hw.drop 0 rfl).drop 0 rfl).facts (fun φ h => by simp [h])).leafT 0 0 []
    · skip
      have hneg := of_decide_eq_false h4
      refine RL.move rfl rfl rfl ?_
      refine RL.fieldAddr rfl tc_tf30_3 rfl rfl ?_
      refine RL.load1 1 rfl tc_ts28 rfl rfl rfl rfl ?_
      refine RL.lenSlice rfl tc_tl28 rfl rfl ?_
      refine RL.bin rfl rfl rfl BinV.geq rfl ?_
      refine RL.pickF rfl rfl rfl rfl ?_
      refine RL.nil ?_
      refine NX.seq ?_
      refine TR.cond rfl (fun h5 => ?_) (fun h5 => ?_)
      · skip
        have hout : ps[x.j] < 0 ∨ (x.u.kids.length : Int) ≤ ps[x.j] := by have := of_decide_eq_true h5; omega
        refine TR.seq ?_
        refine TR.region ?_
        refine RL.build rfl rfl (tc_bv30_) rfl ?_
        refine RL.storeA 0 rfl rfl rfl rfl tc_tz30 rfl rfl ?_
        refine RL.assign rfl rfl rfl ?_
        refine RL.assign rfl rfl rfl ?_
        refine RL.nil ?_
        refine NX.seq ?_
        refine TR.ret ?_
        refine NX.retThen ?_
        refine NX.retBlock ?_
        refine NX.retThen ?_
        refine NX.retThen ?_
        refine NX.retBlock ?_
        refine NX.retThen ?_
        have h9 : t.getR ps = (.node 0 0 [] [], 0, false) := by
          have h8 := hx.2.2.2.1
          rw [hdk, get_out hout] at h8
          unfold getR; rw [← h8]
        refine NX.retC2 (j := 0) rfl rfl rfl rfl rfl tc_ta30 (fun w hw => ⟨⟨⟨.node 0 0 [] [], none, 0, 0⟩, by rw [h9]⟩, (by show _ = Value.tuple #[nodeV (.node 0 0 [] []) none 0 0, I (t.getR ps).2.1, .bool (t.getR ps).2.2]; rw [h9]; rfl), ?_⟩)
        exact (((hw.drop 0 rfl).drop 0 rfl).facts (fun φ h => by simp [h])).leafT 0 0 []
      · skip
        have hge := of_decide_eq_false h5
        obtain ⟨i, hi⟩ := Int.eq_ofNat_of_zero_le (show 0 ≤ ps[x.j] by omega)
        have hik : i < x.u.kids.length := by omega
        refine TR.skip ?_
        refine NX.seq ?_
        refine TR.seq ?_
        refine TR.seq ?_
        refine TR.region ?_
        refine RL.fieldAddr rfl tc_tf30_3 rfl rfl ?_
        refine RL.load1 1 rfl tc_ts28 rfl rfl rfl rfl ?_
        refine RL.move rfl rfl rfl ?_
        refine RL.sliceLH (h := i) rfl tc_tl28 tc_tz30 rfl (.inl ⟨rfl, rfl⟩) (.inr ⟨_, rfl, congrArg (fun z => some (I z)) hi⟩) (by omega) (by omega) rfl ?_
        refine RL.lenSlice rfl tc_tl28 rfl rfl ?_
        refine RL.move rfl rfl rfl ?_
        refine RL.nil ?_
        refine NX.seq ?_
        refine TR.block ?_
        refine TR.loopP (ι := Nat) (fun m => m ≤ i) (fun m => [(1, .slice oa ps.length ca), (2, .pointer (some ⟨b1, 0, none⟩)), (4, .pointer (some ⟨b2, 0, none⟩)), (5, I 0), (6, .bool false), (7, I (x.p + ((x.u.kids.take m).flatMap text).length : Nat)), (9, I ps[x.j]), (12, .slice oa ps.length ca), (13, I ps.length), (14, I x.j), (31, .slice (cutA x.a 0 x.cap 4) (i - 0) (x.cap - 0)), (32, I (i - 0 : Nat)), (33, I m)]) (fun m => Box b2 30 [I 0, I 0, S [], .slice none 0 0] :: Box b1 30 (nodeC x.u x.a x.len x.cap) :: M) (fun m => CellsF q.1 q.2 (ints ps) :: KidsOF x.a x.u.kids :: TreeF x.u (nodeV x.u x.a x.len x.cap) :: F) (fun m => i - m) 0 (Nat.zero_le _) ⟨rfl, rfl, rfl, rfl, rfl, rfl, rfl, rfl, rfl, rfl, rfl, rfl, rfl, trivial⟩ (fun w hw => hw) (fun m hm => ?_)
        refine TR.seq ?_
        refine TR.region ?_
        refine RL.bin rfl rfl rfl BinV.lss rfl ?_
        refine RL.nil ?_
        refine NX.seq ?_
        refine TR.seq ?_
        refine TR.cond rfl (fun h6 => ?_) (fun h6 => ?_)
        · skip
          have hm0 : m < i := by have := of_decide_eq_true h6; omega
          have hm1 : m < x.u.kids.length := by omega
          refine TR.openP (open_kid (a := x.a) (ks := x.u.kids) (.tail _ (.head _)) (List.getElem?_eq_getElem hm1)) (fun w1 hw1 => ?_)
          have hcut := cutA_zero (cap := x.cap) (size := 4) hw1
          have hkc := kids_cap hx.1 (by omega) hm1
          refine TR.skip ?_
          refine NX.seq ?_
          refine TR.seq ?_
          refine TR.block ?_
          refine TR.seq ?_
          refine TR.region ?_
          refine RL.indexAddr rfl tc_tl28 tc_tz30 (congrArg (fun a => some (Value.slice a _ _)) hcut) rfl (by omega) (by omega) rfl ?_
          refine RL.loadF rfl rfl (fun w K hF => run_loadCellsAt (hF _ (.head _)) tc_ta30) rfl ?_
          refine RL.allocA rfl (Tryd.zeroValue30) rfl (fun b7 => ?_)
          refine RL.storeA 0 rfl rfl rfl rfl tc_tz30 rfl rfl ?_
          refine RL.nil ?_
          refine NX.seq ?_
          refine TR.region ?_
          refine RL.move rfl rfl rfl ?_
          refine RL.loadA 0 rfl rfl rfl tc_ta30 rfl ?_
          refine RL.call rfl rfl Tryd.call33 rfl (width_spec (.tail _ (.head _)) (by have := kids_cap hx.1 (by omega) hm1; omega)) (fun _ => ?_)
          refine RL.bin rfl rfl rfl (BinV.add _ rfl (by omega) (by omega)) rfl ?_
          refine RL.assign rfl rfl rfl ?_
          refine RL.nil ?_
          refine NX.off ?_
          refine NX.seq ?_
          refine TR.region ?_
          refine RL.bin rfl rfl rfl (BinV.add _ rfl (by omega) (by omega)) rfl ?_
          refine RL.move rfl rfl rfl ?_
          refine RL.nil ?_
          have h8 : ((x.u.kids.take (m + 1)).flatMap text).length = ((x.u.kids.take m).flatMap text).length + x.u.kids[m].width := by rw [take_flat hm1, List.length_append]; rfl
          refine NX.roundP (m + 1) (by omega) (by omega) ⟨rfl, rfl, rfl, rfl, rfl, congrArg (fun z => some (I z)) (by rw [h8]; simp; omega), rfl, rfl, rfl, rfl, rfl, rfl, rfl, trivial⟩ (fun w hw => (hw.drop 0 rfl).facts (fun φ h => .tail _ (.tail _ h)))
        · skip
          have hmi : m = i := by have := of_decide_eq_false h6; omega
          refine TR.openP (open_kid (a := x.a) (ks := x.u.kids) (.tail _ (.head _)) (List.getElem?_eq_getElem hik)) (fun w2 hw2 => ?_)
          refine TR.exit ?_
          refine NX.exitThen ?_
          refine NX.exitThen ?_
          refine NX.exitHere ?_
          refine NX.seq ?_
          refine TR.region ?_
          refine RL.fieldAddr rfl tc_tf30_3 rfl rfl ?_
          refine RL.load1 1 rfl tc_ts28 rfl rfl rfl rfl ?_
          refine RL.move rfl rfl rfl ?_
          refine RL.indexAddr rfl tc_tl28 tc_tz30 (congrArg (fun a => some (Value.slice a _ _)) hw2) (congrArg (fun z => some (I z)) hi) (by omega) (by omega) rfl ?_
          refine RL.loadF rfl rfl (fun w K hF => run_loadCellsAt (hF _ (.head _)) tc_ta30) rfl ?_
          refine RL.storeA 1 rfl rfl rfl rfl tc_tz30 rfl rfl ?_
          refine RL.nil ?_
          refine NX.off ?_
          refine NX.seq ?_
          refine TR.region ?_
          refine RL.bin rfl rfl rfl (BinV.add _ rfl (by omega) (by omega)) rfl ?_
          refine RL.move rfl rfl rfl ?_
          refine RL.nil ?_
          obtain ⟨e0, he0⟩ : ∃ e0, x.e = e0 + 1 := by
            cases hee : x.e with
            | zero => rw [hee] at hx; exact hx.1.elim
            | succ e0 => exact ⟨e0, rfl⟩
          refine NX.roundP ⟨x.u.kids[i], w2.a, w2.len, w2.cap, x.p + ((x.u.kids.take i).flatMap text).length, x.j + 1, e0⟩ ⟨?_, ?_, ?_, ?_, ?_⟩ (by show _ - (x.j + 1) < _ - x.j; omega) ⟨rfl, rfl, rfl, rfl, rfl, congrArg (fun z => some (I z)) (by rw [hmi]), rfl, rfl, rfl, trivial⟩ (fun w hw => ?_)
          · have := hx.1; rw [he0] at this; exact this.kid (List.getElem_mem hik)
          · show e0 ≤ d; omega
          · exact hj1
          · have h9 := hx.2.2.2.1
            rw [hdk, hi, get_in hik] at h9
            exact h9
          · have := kids_cap hx.1 (by omega) hik
            have := hx.2.2.2.2
            show x.p + _ + x.u.kids[i].width ≤ 524288; omega
          · exact hw.facts (fun φ h => by
              rcases List.mem_cons.1 h with e | h
              · subst e; exact .tail _ (.head _)
              · simp [h])
  · skip
    have hj2 : x.j = ps.length := by have := of_decide_eq_false h3; omega
    refine TR.exit ?_
    refine NX.exitThen ?_
    refine NX.exitThen ?_
    refine NX.exitHere ?_
    refine NX.seq ?_
    refine TR.seq ?_
    refine TR.region ?_
    refine RL.loadA 1 rfl rfl rfl tc_ta30 rfl ?_
    refine RL.call rfl rfl Tryd.call34 rfl (clone_spec hx.1 (by omega) (.head _)) (fun v => ?_)
    refine RL.move rfl rfl rfl ?_
    refine RL.storeA 1 rfl rfl rfl rfl tc_tz30 rfl rfl ?_
    refine RL.assign rfl rfl rfl ?_
    refine RL.assign rfl rfl rfl ?_
    refine RL.nil ?_
    refine NX.seq ?_
    refine TR.ret ?_
    have h9 : t.getR ps = (x.u, (x.p : Int), true) := by
      have h8 := hx.2.2.2.1
      rw [hj2, List.drop_length, Tree.get] at h8
      unfold getR; rw [← h8]
    refine NX.retC2 (j := 1) rfl rfl rfl rfl rfl tc_ta30 (fun w hw => ⟨⟨v.1, by rw [h9]; exact v.2⟩, (by show _ = Value.tuple #[v.1.v, I (t.getR ps).2.1, .bool (t.getR ps).2.2]; rw [h9]), ?_⟩)
    exact ((hw.otKeep.drop 0 rfl).drop 0 rfl).facts (fun φ h => by
      rcases List.mem_cons.1 h with e | h
      · subst e; exact .head _
      · exact .tail _ (.tail _ h))
theorem tok41 : tokOk Tryd.prog 42 = true := by kernel_rfl
theorem und41 : Tryd.prog.underlying 42 = some (.struct (Tryd.prog.fieldsOf 42)) := by kernel_rfl
theorem held41 : Tryd.prog.stoodInHeld 42 = false := by kernel_rfl
theorem grd41 : Tryd.prog.eqGuardType Tryd.prog.depth 42 = false := by kernel_rfl
theorem sameToks_spec {l : List Tree} {q : Nat} {oa ob : Option Addr} {ca cb : Nat} {M : List HP} {F : List Fact} (ha : ArrF oa (toks q l) ∈ F) (hb : ArrF ob (toks q l) ∈ F) (hl : l.length ≤ 65536) : Ctr Tryd.prog 9 [.slice oa l.length ca, .slice ob l.length cb] M F Unit (fun _ => .bool true) (fun _ => M) (fun _ => F) := by
  refine Ctr.body Tryd.func9 rfl rfl ?_
  refine TR.seq ?_
  refine TR.region ?_
  refine RL.assign rfl rfl rfl ?_
  refine RL.nil ?_
  refine NX.seq ?_
  refine TR.seq ?_
  refine TR.seq ?_
  refine TR.region ?_
  refine RL.move rfl rfl rfl ?_
  refine RL.lenSlice rfl tc_tl26 rfl rfl ?_
  refine RL.move rfl rfl rfl ?_
  refine RL.lenSlice rfl tc_tl26 rfl rfl ?_
  refine RL.bin rfl rfl rfl BinV.neq rfl ?_
  refine RL.nil ?_
  refine NX.seq ?_
  refine TR.cond rfl (fun h1 => ?_) (fun h1 => ?_)
  · skip
    exact absurd rfl (of_decide_eq_true h1)
  · skip
    refine TR.skip ?_
    refine NX.seq ?_
    refine TR.seq ?_
    refine TR.seq ?_
    refine TR.region ?_
    refine RL.assign rfl rfl rfl ?_
    refine RL.nil ?_
    refine NX.seq ?_
    refine TR.block ?_
    refine TR.loopP (ι := Nat) (fun k => k ≤ l.length) (fun k => [(0, .slice oa l.length ca), (1, .slice ob l.length cb), (4, .bool false), (5, I k)]) (fun _ => M) (fun _ => F) (fun k => l.length - k) 0 (Nat.zero_le _) ⟨rfl, rfl, rfl, rfl, trivial⟩ (fun w hw => hw) (fun k hk => ?_)
    refine TR.seq ?_
    refine TR.seq ?_
    refine TR.region ?_
    refine RL.move rfl rfl rfl ?_
    refine RL.move rfl rfl rfl ?_
    refine RL.lenSlice rfl tc_tl26 rfl rfl ?_
    refine RL.bin rfl rfl rfl BinV.lss rfl ?_
    refine RL.nil ?_
    refine NX.seq ?_
    refine TR.cond rfl (fun h2 => ?_) (fun h2 => ?_)
    · skip
      have hk1 : k < l.length := by have := of_decide_eq_true h2; omega
      refine TR.openP (open_arr ha (toks_ne (by omega))) (fun x hx => ?_)
      refine TR.openP (open_arr (.tail _ hb) (toks_ne (by omega))) (fun y hy => ?_)
      refine TR.skip ?_
      refine NX.seq ?_
      refine TR.seq ?_
      refine TR.block ?_
      refine TR.seq ?_
      refine TR.sub (E' := [(0, _), (1, _), (4, _), (5, _), (11, _), (12, _), (13, _), (14, _)]) ⟨rfl, rfl, rfl, rfl, rfl, rfl, rfl, rfl, trivial⟩ ?_
      refine TR.draw mixed ?_
      apply AR.more [(0, _), (1, _), (2, _), (3, _), (4, _), (5, _), (6, _), (7, _), (8, .bool false)]
      refine AR.last [0, 1, 2, 3, 4, 5, 6, 7, 8] [0, 1, 2, 3, 4, 5, 6, 7, 8] ⟨QOne.yes rfl rfl rfl (PV.move rfl), QOne.yes rfl rfl rfl (PV.move rfl), QOne.yes rfl rfl rfl (PV.indexAddr tc_tl26 tc_tz42 (congrArg (fun a => some (Value.slice a _ _)) hx) rfl (by omega) (by omega)), QOne.yes rfl rfl rfl (PV.loadF rfl (fun w K hF => run_tok (hF _ (.tail _ (.head _))) tc_ta42 hk1)), QOne.yes rfl rfl rfl (PV.move rfl), QOne.yes rfl rfl rfl (PV.move rfl), QOne.yes rfl rfl rfl (PV.indexAddr tc_tl26 tc_tz42 (congrArg (fun a => some (Value.slice a _ _)) hy) rfl (by omega) (by omega)), QOne.yes rfl rfl rfl (PV.loadF rfl (fun w K hF => run_tok (hF _ (.head _)) tc_ta42 hk1)), QOne.yes rfl rfl rfl (PV.bin rfl rfl (BinV.to (d := false) (tok_neq tok41 und41 held41 grd41 _ _ _) rfl)), trivial⟩ rfl rfl rfl ?_
      refine NX.sub (E' := [(0, _), (1, _), (4, _), (5, _), (11, _), (12, _), (13, _), (14, _), (17, _), (18, _), (19, _), (20, _), (21, _), (22, _), (23, _), (24, _), (25, _)]) ⟨rfl, rfl, rfl, rfl, rfl, rfl, rfl, rfl, rfl, rfl, rfl, rfl, rfl, rfl, rfl, rfl, rfl, trivial⟩ ?_
      refine NX.seq ?_
      refine TR.condF rfl ?_
      refine TR.skip ?_
      refine NX.off ?_
      refine NX.seq ?_
      refine TR.region ?_
      refine RL.move rfl rfl rfl ?_
      refine RL.bin rfl rfl rfl (BinV.add _ rfl (by omega) (by omega)) rfl ?_
      refine RL.assign rfl rfl rfl ?_
      refine RL.nil ?_
      refine NX.roundP (k + 1) (by omega) (by omega) ⟨rfl, rfl, rfl, rfl, trivial⟩ (fun w hw => hw.facts (fun φ h => .tail _ (.tail _ (h))))
    · skip
      refine TR.exit ?_
      refine NX.exitThen ?_
      refine NX.exitThen ?_
      refine NX.exitHere ?_
      refine NX.seq ?_
      refine TR.seq ?_
      refine TR.region ?_
      refine RL.assign rfl rfl rfl ?_
      refine RL.nil ?_
      refine NX.seq ?_
      refine TR.ret ?_
      exact NX.ret1 () rfl rfl rfl (fun w hw => hw)
theorem filter_T {pre : List Tree} {x : Tree} (h : (decide (0 ≤ x.kind) && decide (x.kind ≤ 8)) = true) : (pre ++ [x]).filter isLeaf = pre.filter isLeaf ++ [x] := by
  rw [List.filter_append]; congr 1; simp only [List.filter_cons, Tree.isLeaf, h]; rfl
theorem filter_F {pre : List Tree} {x : Tree} (h : (decide (0 ≤ x.kind) && decide (x.kind ≤ 8)) = false) : (pre ++ [x]).filter isLeaf = pre.filter isLeaf := by
  rw [List.filter_append]
  have : [x].filter isLeaf = [] := by simp only [List.filter_cons, Tree.isLeaf, h]; rfl
  rw [this, List.append_nil]
theorem toks_snoc {l : List Tree} {x : Tree} : toks 0 (l ++ [x]) = toks 0 l ++ [I x.kind, S x.txt, I ((l.flatMap Tree.txt).length : Nat)] := by
  rw [toks_append, toks, toks, Nat.zero_add]
theorem flat1 {x : Tree} : ([x].flatMap Tree.txt) = x.txt := by simp
theorem live_ok2 : pathOk exT 2 = true := by decide
theorem live_ok4 : pathOk exT 4 = false := by decide
theorem live_l2 : pathL exT 2 = [2, 0] := by decide
theorem live_get : exT.getR [2] = (exB, 2, true) := by rfl
theorem live_text : exT.text = [97, 43, 32, 49] := by decide
theorem live_count : exT.pre.length = 7 := by decide
theorem live_depth : exT.depth = 3 := by decide
theorem live_get_spec {a : Option Addr} {len cap : Nat} {oa : Option Addr} {ca : Nat} {M : List HP} {F : List Fact} (ht : TreeF exT (nodeV exT a len cap) ∈ F) (ha : ArrF oa (ints [2]) ∈ F) : Ctr Tryd.prog 21 [nodeV exT a len cap, .slice oa 1 ca] M F {x : TX // x.t = exB} (fun x => .tuple #[x.1.v, I 2, .bool true]) (fun _ => M) (fun x => TreeF x.1.t x.1.v :: F) := by
  have h := get_spec (ps := [2]) (M := M) (ca := ca) exT_small (by omega) ht ha (by decide)
  rw [live_get] at h
  exact h
theorem sameInts_refl {xs : List Int} {oa ob : Option Addr} {ca cb : Nat} {M : List HP} {F : List Fact} (ha : ArrF oa (ints xs) ∈ F) (hb : ArrF ob (ints xs) ∈ F) (hxl : xs.length ≤ 4611686018427387904) : Ctr Tryd.prog 24 [.slice oa xs.length ca, .slice ob xs.length cb] M F Unit (fun _ => .bool true) (fun _ => M) (fun _ => F) := by
  have h := sameInts_spec (ca := ca) (cb := cb) (M := M) ha hb hxl
  rwa [show decide (xs = xs) = true from by simp] at h
theorem lives_spec {M : List HP} {F : List Fact} : Ctr Tryd.prog 11 [] M F Unit (fun _ => .bool true) (fun _ => M) (fun _ => F) := by
  refine Ctr.body Tryd.func11 rfl rfl ?_
  refine TR.seq ?_
  refine TR.region ?_
  refine RL.assign rfl rfl rfl ?_
  refine RL.nil ?_
  refine NX.seq ?_
  refine TR.seq ?_
  refine TR.region ?_
  refine RL.call rfl rfl Tryd.call19 rfl (example_spec) (fun z => ?_)
  obtain ⟨⟨t0, a, len, cap⟩, hz⟩ := z
  have hz : t0 = exT := hz
  subst hz
  refine RL.allocA rfl (Tryd.zeroValue30) rfl (fun b1 => ?_)
  refine RL.storeA 0 rfl rfl rfl rfl tc_tz30 rfl rfl ?_
  refine RL.nil ?_
  refine NX.seq ?_
  refine TR.seq ?_
  refine TR.region ?_
  refine RL.loadA 0 rfl rfl rfl tc_ta30 rfl ?_
  refine RL.call rfl rfl Tryd.call20 rfl (path_spec (o := 2) exT_small (by omega) (.head _)) (fun z2 => ?_)
  rw [live_ok2, live_l2]
  refine RL.move rfl rfl rfl ?_
  refine RL.extract rfl rfl rfl rfl ?_
  refine RL.extract rfl rfl rfl rfl ?_
  refine RL.assign rfl rfl rfl ?_
  refine RL.assign rfl rfl rfl ?_
  refine RL.nil ?_
  refine NX.seq ?_
  refine TR.seq ?_
  refine TR.region ?_
  refine RL.loadA 0 rfl rfl rfl tc_ta30 rfl ?_
  refine RL.call rfl rfl Tryd.call20 rfl (path_spec (o := 4) exT_small (by omega) (.tail _ (.head _))) (fun z3 => ?_)
  rw [live_ok4]
  refine RL.move rfl rfl rfl ?_
  refine RL.extract rfl rfl rfl rfl ?_
  refine RL.extract rfl rfl rfl rfl ?_
  refine RL.assign rfl rfl rfl ?_
  refine RL.assign rfl rfl rfl ?_
  refine RL.nil ?_
  refine NX.seq ?_
  refine TR.seq ?_
  refine TR.region ?_
  refine RL.loadA 0 rfl rfl rfl tc_ta30 rfl ?_
  refine RL.buildSlice rfl rfl (tc_bs22_1_0 _) rfl (fun b2 => ?_)
  refine RL.weak (fun w hw => St.boxArr hw) ?_
  refine RL.call rfl rfl Tryd.call21 rfl (live_get_spec (.tail _ (.tail _ (.tail _ (.head _)))) (.head _)) (fun k => ?_)
  obtain ⟨k, hk⟩ := k
  refine RL.move rfl rfl rfl ?_
  refine RL.extract rfl rfl rfl rfl ?_
  refine RL.extract rfl rfl rfl rfl ?_
  refine RL.extract rfl rfl rfl rfl ?_
  refine RL.allocA rfl (Tryd.zeroValue30) rfl (fun b3 => ?_)
  refine RL.storeA 0 rfl rfl rfl rfl tc_tz30 rfl rfl ?_
  refine RL.assign rfl rfl rfl ?_
  refine RL.assign rfl rfl rfl ?_
  refine RL.nil ?_
  refine NX.seq ?_
  refine TR.seq ?_
  refine TR.region ?_
  refine RL.loadA 1 rfl rfl rfl tc_ta30 rfl ?_
  refine RL.call rfl rfl Tryd.call8 rfl (text_spec (t := exT) (.tail _ (.tail _ (.tail _ (.tail _ (.head _))))) (by have := exT_small.width6 (by omega); omega)) (fun _ => ?_)
  rw [live_text]
  refine RL.bin rfl rfl rfl (BinV.to (d := true) (BinV.eqlS (a := [97, 43, 32, 49]) (b := [97, 43, 32, 49])) (by decide)) rfl ?_
  refine RL.move rfl rfl rfl ?_
  refine RL.loadA 1 rfl rfl rfl tc_ta30 rfl ?_
  refine RL.call rfl rfl Tryd.call22 rfl (count_spec (t := exT) (.tail _ (.tail _ (.tail _ (.tail _ (.head _))))) (by have := exT_small.count6 (by omega); omega)) (fun _ => ?_)
  rw [live_count]
  refine RL.bin rfl rfl rfl (BinV.to (d := true) BinV.eql (by decide)) rfl ?_
  refine RL.pickT rfl rfl rfl rfl ?_
  refine RL.move rfl rfl rfl ?_
  refine RL.loadA 1 rfl rfl rfl tc_ta30 rfl ?_
  refine RL.call rfl rfl Tryd.call23 rfl (depth_spec exT_small (by omega) (.tail _ (.tail _ (.tail _ (.tail _ (.head _)))))) (fun _ => ?_)
  rw [live_depth]
  refine RL.bin rfl rfl rfl (BinV.to (d := true) BinV.eql (by decide)) rfl ?_
  refine RL.pickT rfl rfl rfl rfl ?_
  refine RL.move rfl rfl rfl ?_
  refine RL.move rfl rfl rfl ?_
  refine RL.pickT rfl rfl rfl rfl ?_
  refine RL.move rfl rfl rfl ?_
  refine RL.move rfl rfl rfl ?_
  refine RL.buildSlice rfl rfl (tc_bs22_2_0_1 _ _) rfl (fun b4 => ?_)
  refine RL.weak (fun w hw => St.boxArr hw) ?_
  refine RL.call rfl rfl Tryd.call24 rfl (sameInts_refl (xs := [2, 0]) (.tail _ (.tail _ (.tail _ (.tail _ (.head _))))) (.head _) (by decide)) (fun _ => ?_)
  refine RL.pickT rfl rfl rfl rfl ?_
  refine RL.move rfl rfl rfl ?_
  refine RL.move rfl rfl rfl ?_
  refine RL.not rfl rfl rfl ?_
  refine RL.pickT rfl rfl rfl rfl ?_
  refine RL.move rfl rfl rfl ?_
  refine RL.move rfl rfl rfl ?_
  refine RL.pickT rfl rfl rfl rfl ?_
  refine RL.move rfl rfl rfl ?_
  refine RL.move rfl rfl rfl ?_
  refine RL.bin rfl rfl rfl (BinV.to (d := true) BinV.eql (by decide)) rfl ?_
  refine RL.pickT rfl rfl rfl rfl ?_
  refine RL.move rfl rfl rfl ?_
  refine RL.fieldAddr rfl tc_tf30_1 rfl rfl ?_
  refine RL.load1 0 rfl tc_ts3 rfl rfl rfl rfl ?_
  refine RL.bin rfl rfl rfl (BinV.to (d := true) BinV.eql (by rw [show k.t = exB from hk]; decide)) rfl ?_
  refine RL.pickT rfl rfl rfl rfl ?_
  refine RL.assign rfl rfl rfl ?_
  refine RL.nil ?_
  refine NX.seq ?_
  refine TR.ret ?_
  exact NX.ret1 () rfl rfl rfl (fun w hw => ((hw.drop 0 rfl).drop 0 rfl).facts (fun φ h => .tail _ (.tail _ (.tail _ (.tail _ (.tail _ (.tail _ (h))))))))
end Go.Proofs.YtnolpmigiboanaaDoor

namespace Go.GL
abbrev U (n : Nat) : Value := .int .u64 (n : Int)
theorem wrap_u64 (n : Nat) : IntKind.u64.wrap (n : Int) = ((n % 18446744073709551616 : Nat) : Int) := by
  simp [IntKind.wrap, IntKind.bits, IntKind.signed]
theorem wrap_u8 (n : Nat) : IntKind.u8.wrap (n : Int) = ((n % 256 : Nat) : Int) := by
  simp [IntKind.wrap, IntKind.bits, IntKind.signed]
theorem wrap_u64_id {n : Nat} (h : n < 18446744073709551616) : IntKind.u64.wrap (n : Int) = (n : Int) := by rw [wrap_u64, Nat.mod_eq_of_lt h]
section
variable {P : Program} {t : TypeId} {a b : Nat}
theorem BinV.shr {k yk : IntKind} {x : Int} {s : Nat} (hs : s ≤ k.bits) : BinV P .shr t (.int k x) (.int yk (s : Int)) (.int k (x.fdiv (2 ^ s))) := ⟨fun w => by
  have h1 : ¬ ((s : Int) < 0) := by omega
  simp only [binOp, Op.shift, if_neg h1, Int.toNat_natCast, Nat.min_eq_left hs]; rfl, fun _ _ _ => eqGuard_int _ _ _⟩
theorem BinV.shrU {yk : IntKind} {s : Nat} (hs : s ≤ 64) : BinV P .shr t (U a) (.int yk (s : Int)) (U (a / 2 ^ s)) := by
  have h := BinV.shr (P := P) (t := t) (k := .u64) (yk := yk) (x := (a : Int)) (s := s) hs
  rw [show (a : Int).fdiv (2 ^ s) = ((a / 2 ^ s : Nat) : Int) from by
    rw [Int.fdiv_eq_ediv_of_nonneg _ (by exact_mod_cast Nat.zero_le _)]; push_cast; rfl] at h
  exact h
theorem BinV.remK {k : IntKind} (hb : b ≠ 0) : BinV P .rem t (.int k (a : Int)) (.int k (b : Int)) (.int k ((a % b : Nat) : Int)) := by
  have h1 := BinV.rem (P := P) (t := t) (k := k) (x := (a : Int)) (y := (b : Int)) (by omega)
  rw [show (a : Int).tmod (b : Int) = ((a % b : Nat) : Int) from by rw [Int.tmod_eq_emod_of_nonneg (by omega)]; rfl] at h1
  exact h1
end
def tyInt (P : Program) (t : TypeId) (k : IntKind) : Bool := match P.underlying t with | some (.int k') => k' == k | _ => false
theorem tyInt_is {P : Program} {t : TypeId} {k : IntKind} (h : tyInt P t k = true) : P.underlying t = some (.int k) := by
  unfold tyInt at h
  split at h
  · rename_i k' he; rw [he, eq_of_beq h]
  · cases h
def ConvV (P : Program) (s t : TypeId) (v v' : Value) : Prop := ∀ w, (convert s t v).run P w = .ok v' w
section
variable {P : Program} {s t : TypeId} {k j : IntKind} {n : Int}
theorem ConvV.int (hs : tyInt P s k = true) (ht : tyInt P t j = true) : ConvV P s t (.int k n) (.int j (j.wrap n)) := fun w => by
  simp [convert, run_underlying (tyInt_is hs), run_underlying (tyInt_is ht), Conv.intToInt]
theorem ConvV.to {v v' v'' : Value} (h : ConvV P s t v v') (e : v' = v'') : ConvV P s t v v'' := e ▸ h
theorem ConvV.iu {n : Nat} (hs : tyInt P s .i64 = true) (ht : tyInt P t .u64 = true) (h : n < 18446744073709551616) : ConvV P s t (I (n : Int)) (U n) := (ConvV.int hs ht).to (by rw [wrap_u64_id h])
theorem ConvV.uiS {n : Nat} (hs : tyInt P s .u64 = true) (ht : tyInt P t .i64 = true) (h : n < 9223372036854775808) : ConvV P s t (U n) (I (n : Int)) := (ConvV.int hs ht).to (by rw [wrap64_id (by omega) (by omega)])
end
section
variable {P : Program} {r : Option Nat} {N : Nat} {ops : Array Oper} {rest : List Oper} {Q : Exit → Act → World → Prop} {E : Env} {ds : List Deferred} {M : List HP} {F : List Fact}
variable {d : Nat} {ty : TypeId} {pos : String} {aft : Array Edge} {gd : Option (Nat × Bool)}
theorem PV.conv {s t : TypeId} {x : Operand} {v v' : Value} (hx : evalO E x = some v) (h : ConvV P s t v v') : PV P E M F ⟨some d, .convert s t x, ty, pos, aft, gd⟩ v' := ⟨rfl, fun ρ hρ w _ => by
  have h1 := h w
  simp [execOp, hρ _ _ hx, h1]⟩
theorem RL.conv {s t : TypeId} {x : Operand} {v v' : Value} (hg : wantedG ops E gd = some true) (hx : evalO E x = some v) (h : ConvV P s t v v') (hN : Nat.ble (d + 1) N = true) (k : RL P r N ops rest Q ((d, v') :: E) ds M F) : RL P r N ops (⟨some d, .convert s t x, ty, pos, aft, gd⟩ :: rest) Q E ds M F :=
  RL.val rfl hg hN (fun ρ hρ w _ => by
    have h1 := h w
    simp [execOp, hρ _ _ hx, h1]) k
def Rd (M : List HP) (F : List Fact) (oa : Option Addr) (xs : List Value) : Prop := ∀ w, St w M F → ArrAt w [] oa xs
theorem Rd.mono {M' : List HP} {F' : List Fact} {oa : Option Addr} {xs : List Value} (h : Rd M F oa xs) (hs : ∀ w, St w M' F' → St w M F) : Rd M' F' oa xs := fun w hw => h w (hs w hw)
end
end Go.GL

namespace Go.GL
set_option linter.unusedVariables false
def encU (n : Nat) : List UInt8 := if n < 128 then [UInt8.ofNat n] else UInt8.ofNat (128 + n % 128) :: encU (n / 128)
termination_by n
decreasing_by omega
def zz (n : Int) : Nat := if n < 0 then (2 * (-(n + 1)) + 1).toNat else (2 * n).toNat
def decU : Nat → Nat → List UInt8 → Nat × List UInt8 × Int
  | _, _, [] => (0, [], 3)
  | i, n, c :: b => if (i = 9 ∧ 1 < c.toNat) ∨ (0 < i ∧ c.toNat = 0) then (0, b, 2) else if c.toNat < 128 then (n + c.toNat % 128 * 2 ^ (7 * i), b, 0) else decU (i + 1) (n + c.toNat % 128 * 2 ^ (7 * i)) b
def rdU (l : List UInt8) (e : Int) : Nat × List UInt8 × Int := if e = 0 then decU 0 0 l else (0, l, e)
def rdRaw (l : List UInt8) (e : Int) : List UInt8 × List UInt8 × Int :=
  if (rdU l e).2.2 = 0 then (if (rdU l e).1 ≤ (rdU l e).2.1.length then ((rdU l e).2.1.take (rdU l e).1, (rdU l e).2.1.drop (rdU l e).1, 0) else ([], (rdU l e).2.1, 3)) else ([], (rdU l e).2.1, (rdU l e).2.2)
def encR (x : List UInt8) : List UInt8 := encU x.length ++ x
def mixN (s w : Nat) : Nat := ((s ^^^ w) * 11400714819323198485 % 18446744073709551616) ^^^ ((s ^^^ w) * 11400714819323198485 % 18446744073709551616 / 4294967296)
def wordN : List UInt8 → Nat
  | [] => 0
  | c :: b => c.toNat + 256 * wordN b
def wordsN (b : List UInt8) : List Nat := (List.range ((b.length + 7) / 8)).map fun k => wordN ((b.drop (8 * k)).take 8)
def i64of (n : Nat) : Int := IntKind.i64.wrap (n : Int)
def u64of (n : Int) : Nat := (n % 18446744073709551616).toNat
def sumN (label : List UInt8) (l : List Int) : Nat :=
  mixN (l.foldl (fun s n => mixN s (u64of n)) (mixN (mixN ((wordsN label).foldl mixN 0) label.length) l.length)) 0
def hashN (label b : List UInt8) : Nat := sumN label ((wordsN b).map i64of ++ [(b.length : Int)])
def jl : List UInt8 := [106, 111, 117, 114, 110, 97, 108]
def coreJ (i : Int) (x : List UInt8) : List UInt8 := encU (zz i) ++ encR x
def frameJ (i : Int) (x : List UInt8) : List UInt8 := encR (coreJ i x) ++ encU (hashN jl (coreJ i x))
def recOf (b : List UInt8) : List UInt8 :=
  let k := min b.length (10 + min (rdU (b.take 10) 0).1 b.length)
  let core := (rdRaw (b.take k) 0).1
  (rdRaw (rdU core 0).2.1 (rdU core 0).2.2).1
def VarB (T e size b n : Nat) (xs : List Value) : HP := Ex (ι := Option Addr × Nat) fun i => [Box b T [.slice i.1 n i.2], OwnSl e size i.1 n i.2 xs]
theorem St.varNew {w : World} {M : List HP} {F : List Fact} {T e size b : Nat} (h : St w (Box b T [.slice none 0 0] :: M) F) : St w (VarB T e size b 0 [] :: M) F :=
  St.exClose (none, 0) ((OwnSl.nil_new e size h).swap)
end Go.GL

namespace Go.GL
set_option linter.unusedVariables false
section
variable {P : Program} {r : Option Nat} {N : Nat} {ops : Array Oper} {rest : List Oper} {Q : Exit → Act → World → Prop} {E : Env} {ds : List Deferred} {M : List HP} {F : List Fact}
end
end Go.GL

namespace Go.GL
set_option linter.unusedVariables false
def okJ (i : Nat) (b : List UInt8) : Prop := frameJ (i : Int) (recOf b) <+: b
instance (i : Nat) (b : List UInt8) : Decidable (okJ i b) := by unfold okJ; infer_instance
section
variable {P : Program} {r : Option Nat} {N : Nat} {ops : Array Oper} {rest : List Oper} {Q : Exit → Act → World → Prop} {E : Env} {ds : List Deferred} {M : List HP} {F : List Fact}
variable {d : Nat} {ty : TypeId} {pos : String} {aft : Array Edge} {gd : Option (Nat × Bool)}
end
end Go.GL

namespace Go.GL
set_option linter.unusedVariables false
open Go.ChangeShapes Go.WideShapes Go.ChangeAt Go.RowKit
theorem ArrAt.pre {w : World} {K : List Nat} {oa : Option Addr} {xs ys : List Value} (h : ArrAt w K oa (xs ++ ys)) : ArrAt w K oa xs := by
  rcases h with h | ⟨b, off, e, h1, h2, h3⟩
  · exact .inl (List.append_eq_nil_iff.1 h).1
  · exact .inr ⟨b, off, e, h1, h2, fun j v hv => h3 j v (by rw [List.getElem?_append_left (List.getElem?_eq_some_iff.1 hv).1]; exact hv)⟩
section
variable {P : Program} {r : Option Nat} {N : Nat} {ops : Array Oper} {rest : List Oper} {Q : Exit → Act → World → Prop} {E : Env} {ds : List Deferred} {M : List HP} {F : List Fact}
variable {d : Nat} {ty : TypeId} {pos : String} {aft : Array Edge} {gd : Option (Nat × Bool)}
end
section
variable {H : Type} {enc : TypeId × Value → H} {P : Program} {w : World}
end
end Go.GL

namespace Go.GL
open Go.ChangeMaps (setBlock)
open Go.Maps (Keyed)
set_option linter.unusedVariables false
abbrev KV := List (Int × Value)
def tyMap (P : Program) (t k e : TypeId) : Bool := match P.underlying t, P.underlying k with | some (.map k' e'), some (.int .i64) => decide (k' = k ∧ e' = e) | _, _ => false
theorem tyMap_is {P : Program} {t k e : TypeId} (h : tyMap P t k e = true) : P.underlying t = some (.map k e) ∧ P.underlying k = some (.int .i64) := by
  unfold tyMap at h
  split at h
  · rename_i k' e' h1 h2
    have := of_decide_eq_true h
    obtain ⟨rfl, rfl⟩ := this
    exact ⟨h1, h2⟩
  · cases h
def I64 (n : Int) : Prop := -9223372036854775808 ≤ n ∧ n ≤ 9223372036854775807
def kvSet : KV → Int → Value → KV
  | [], k, v => [(k, v)]
  | p :: l, k, v => if p.1 = k then (k, v) :: l else p :: kvSet l k v
theorem kvSet_new : ∀ {l : KV} {k : Int} {v : Value}, (∀ p, p ∈ l → p.1 ≠ k) → kvSet l k v = l ++ [(k, v)]
  | [], _, _, _ => rfl
  | p :: l, k, v, h => by rw [kvSet, if_neg (h p (.head _)), kvSet_new fun q hq => h q (.tail _ hq)]; rfl
structure MpOk (es : Array MapEntry) (clock : Nat) (kvs : KV) : Prop where
  kv : es.toList.map (fun e => (e.key, e.val)) = kvs.map fun p => (Value.int .i64 p.1, p.2)
  keys : (kvs.map Prod.fst).Nodup
  fits : ∀ p, p ∈ kvs → I64 p.1
  born : (es.toList.map (·.born)).Nodup
  past : ∀ e, e ∈ es.toList → e.born < clock
def MpB (b : Nat) (kvs : KV) : HP := Ex (ι := {z : Array MapEntry × Nat // MpOk z.1 z.2 kvs}) fun z => [Pts b (.map z.1.1 z.1.2)]
theorem MpOk.len {es : Array MapEntry} {clock : Nat} {kvs : KV} (h : MpOk es clock kvs) : es.size = kvs.length := by
  have := congrArg List.length h.kv
  simpa using this
theorem MpOk.at {es : Array MapEntry} {clock : Nat} {kvs : KV} (h : MpOk es clock kvs) {j : Nat} {e : MapEntry} (he : es.toList[j]? = some e) : ∃ n, e.key = .int .i64 n ∧ kvs[j]? = some (n, e.val) := by
  have h1 := congrArg (fun l : List (Value × Value) => l[j]?) h.kv
  simp only [List.getElem?_map, he, Option.map_some] at h1
  cases hk : kvs[j]? with
  | none => rw [hk] at h1; cases h1
  | some p =>
    rw [hk] at h1
    simp only [Option.map_some, Option.some.injEq, Prod.mk.injEq] at h1
    exact ⟨p.1, h1.1, by rw [h1.2]⟩
theorem MpOk.back {es : Array MapEntry} {clock : Nat} {kvs : KV} (h : MpOk es clock kvs) {p : Int × Value} (hp : p ∈ kvs) : ∃ e, e ∈ es.toList ∧ e.key = .int .i64 p.1 ∧ e.val = p.2 := by
  have h1 : (Value.int .i64 p.1, p.2) ∈ es.toList.map (fun e => (e.key, e.val)) := by rw [h.kv]; exact List.mem_map_of_mem (f := fun p : Int × Value => (Value.int .i64 p.1, p.2)) hp
  obtain ⟨e, he, h2⟩ := List.mem_map.1 h1
  simp only [Prod.mk.injEq] at h2
  exact ⟨e, he, h2.1, h2.2⟩
theorem MpOk.nil : MpOk #[] 0 [] := ⟨rfl, List.nodup_nil, fun p hp => absurd hp (by simp), List.nodup_nil, fun e he => absurd he (by simp)⟩
theorem MpOk.push {es : Array MapEntry} {clock : Nat} {kvs : KV} (h : MpOk es clock kvs) {n : Int} {v : Value} (hn : I64 n) (hnew : ∀ p, p ∈ kvs → p.1 ≠ n) : MpOk (es.push ⟨.int .i64 n, v, clock⟩) (clock + 1) (kvSet kvs n v) := by
  rw [kvSet_new hnew]
  refine ⟨by rw [Array.toList_push, List.map_append, List.map_append, h.kv]; rfl, ?_, ?_, ?_, ?_⟩
  · rw [List.map_append, List.nodup_append]
    refine ⟨h.keys, by simp, fun a ha b hb => ?_⟩
    obtain ⟨p, hp, rfl⟩ := List.mem_map.1 ha
    simp at hb; subst hb
    exact hnew p hp
  · intro p hp
    rcases List.mem_append.1 hp with h1 | h1
    · exact h.fits p h1
    · simp at h1; subst h1; exact hn
  · rw [Array.toList_push, List.map_append, List.nodup_append]
    refine ⟨h.born, by simp, fun a ha b hb => ?_⟩
    obtain ⟨x, hx, rfl⟩ := List.mem_map.1 ha
    simp at hb; subst hb
    have := h.past x hx; omega
  · intro e he
    rw [Array.toList_push] at he
    rcases List.mem_append.1 he with h1 | h1
    · have := h.past e h1; omega
    · simp at h1; subst h1; show clock < clock + 1; omega
end Go.GL

namespace Go.GL
open Go.ChangeMaps (setBlock)
open Go.Maps (Keyed)
set_option linter.unusedVariables false
structure RgOk (es : Array MapEntry) (clock since : Nat) (seen : Array Nat) (c0 : Nat) (kvs : KV) (left : List Int) (cur : Option Int) : Prop where
  ok : MpOk es clock kvs
  old : ∀ e, e ∈ es.toList → e.born < since
  sc : since ≤ c0
  sk : since ≤ clock
  rest : (leftOf es seen).toList.map (·.key) = left.map (Value.int .i64 ·)
  now : ∀ k, cur = some k → ∃ (e : MapEntry) (seen0 : Array Nat), e ∈ es.toList ∧ e.key = .int .i64 k ∧ seen = seen0.push e.born ∧ c0 = clock
structure RgX where
  es : Array MapEntry
  clock : Nat
  since : Nat
  seen : Array Nat
  c0 : Nat
def RgB (b r : Nat) (kvs : KV) (left : List Int) (cur : Option Int) : HP := Ex (ι := {z : RgX // RgOk z.es z.clock z.since z.seen z.c0 kvs left cur}) fun z => [Pts b (.map z.1.es z.1.clock), Pts r (.mapIter (some b) z.1.since z.1.seen z.1.c0)]
theorem rg_at {w : World} {M : List HP} {F : List Fact} {b r i : Nat} {kvs : KV} {left : List Int} {cur : Option Int} (hw : St w M F) (hi : M[i]? = some (RgB b r kvs left cur)) :
    ∃ z : RgX, RgOk z.es z.clock z.since z.seen z.c0 kvs left cur ∧ w.heap[b]? = some (.map z.es z.clock) ∧ w.heap[r]? = some (.mapIter (some b) z.since z.seen z.c0) ∧ St w (Pts b (.map z.es z.clock) :: Pts r (.mapIter (some b) z.since z.seen z.c0) :: M.eraseIdx i) F := by
  obtain ⟨z, h⟩ := (hw.front hi).exOpen
  exact ⟨z.1, z.2, h.heap (i := 0) rfl, h.heap (i := 1) rfl, h⟩
theorem rg_close {w : World} {M : List HP} {F : List Fact} {b r i : Nat} {p : HP} {kvs : KV} {left : List Int} {cur : Option Int} {z : RgX} (hi : M[i]? = some p) (hz : RgOk z.es z.clock z.since z.seen z.c0 kvs left cur) (h : St w (Pts b (.map z.es z.clock) :: Pts r (.mapIter (some b) z.since z.seen z.c0) :: M.eraseIdx i) F) : St w (M.set i (RgB b r kvs left cur)) F :=
  St.back hi (St.exClose (⟨z, hz⟩ : {z : RgX // RgOk z.es z.clock z.since z.seen z.c0 kvs left cur}) h)
theorem born_key {es : Array MapEntry} {clock : Nat} {kvs : KV} (h : MpOk es clock kvs) {x y : MapEntry} (hx : x ∈ es.toList) (hy : y ∈ es.toList) : x.born = y.born ↔ x.key = y.key := by
  obtain ⟨i, hi⟩ := List.mem_iff_getElem?.1 hx
  obtain ⟨j, hj⟩ := List.mem_iff_getElem?.1 hy
  constructor
  · intro e
    have h1 : (es.toList.map (·.born))[i]? = some x.born := by rw [List.getElem?_map, hi]; rfl
    have h2 : (es.toList.map (·.born))[j]? = some y.born := by rw [List.getElem?_map, hj]; rfl
    have := (List.getElem?_inj (List.getElem?_eq_some_iff.1 h1).1 h.born).1 (h1.trans ((congrArg some e).trans h2.symm))
    subst this
    rw [hi] at hj; cases hj; rfl
  · intro e
    obtain ⟨n, a1, a2⟩ := h.at hi
    obtain ⟨m, b1, b2⟩ := h.at hj
    have : n = m := by rw [a1, b1] at e; cases e; rfl
    subst this
    have h1 : (kvs.map Prod.fst)[i]? = some n := by rw [List.getElem?_map, a2]; rfl
    have h2 : (kvs.map Prod.fst)[j]? = some n := by rw [List.getElem?_map, b2]; rfl
    have := (List.getElem?_inj (List.getElem?_eq_some_iff.1 h1).1 h.keys).1 (h1.trans h2.symm)
    subst this
    rw [hi] at hj; cases hj; rfl
theorem mem_leftOf {es : Array MapEntry} {seen : Array Nat} {e : MapEntry} : e ∈ (leftOf es seen).toList ↔ e ∈ es.toList ∧ seen.contains e.born = false := by
  unfold leftOf
  rw [Array.toList_filter, List.mem_filter]
  simp
def keyIs (n : Int) : Value → Bool
  | .int .i64 m => decide (m = n)
  | _ => false
theorem keyIs_iff {n : Int} {v : Value} : keyIs n v = true ↔ v = .int .i64 n := by
  unfold keyIs
  split
  · simp
  · rename_i h
    simp only [Bool.false_eq_true, false_iff]
    exact fun e => h n e
theorem left_push {es : Array MapEntry} {clock : Nat} {kvs : KV} (h : MpOk es clock kvs) {seen : Array Nat} {e : MapEntry} {left : List Int} {n : Int} (he : e ∈ (leftOf es seen).toList) (hn : e.key = .int .i64 n) (hl : (leftOf es seen).toList.map (·.key) = left.map (Value.int .i64 ·)) :
    (leftOf es (seen.push e.born)).toList.map (·.key) = (left.filter fun x => !decide (x = n)).map (Value.int .i64 ·) := by
  have e1 : (leftOf es (seen.push e.born)).toList = (leftOf es seen).toList.filter fun x => !keyIs n x.key := by
    unfold leftOf
    rw [Array.toList_filter, Array.toList_filter, List.filter_filter]
    refine List.filter_congr fun x hx => ?_
    have hk := born_key h hx (mem_leftOf.1 he).1
    rw [hn, ← keyIs_iff] at hk
    have hc : (seen.push e.born).contains x.born = (seen.contains x.born || (x.born == e.born)) := by
      rw [Bool.eq_iff_iff]
      simp [Array.mem_push]
    rw [hc]
    have hb : (x.born == e.born) = keyIs n x.key := by
      rw [Bool.eq_iff_iff, ← hk]; simp
    rw [hb]
    cases seen.contains x.born <;> cases keyIs n x.key <;> rfl
  rw [e1]
  have e2 : ((leftOf es seen).toList.filter fun x => !keyIs n x.key).map (·.key) = ((leftOf es seen).toList.map (·.key)).filter fun v => !keyIs n v := by
    rw [List.filter_map]; rfl
  rw [e2, hl, List.filter_map]
  rfl
end Go.GL

namespace Go.GL
open Go.ChangeMaps (setBlock)
set_option linter.unusedVariables false
theorem rg_next {P : Program} {w : World} {M : List HP} {F : List Fact} {b r i : Nat} {kvs : KV} {left : List Int} {cur : Option Int} (ty : TypeId) (hw : St w M F) (hi : M[i]? = some (RgB b r kvs left cur)) :
    ∃ (o : {o : Option (Int × Value) // match o with | none => left = [] | some p => p.1 ∈ left ∧ p ∈ kvs}) (w' : World), (Instr.next (.pointer (some ⟨r, 0, none⟩)) false ty).run P w = .ok (match o.1 with | none => .tuple #[.bool false] | some p => .tuple #[.bool true, .int .i64 p.1, p.2]) w' ∧
      St w' (M.set i (match o.1 with | none => MpB b kvs | some p => RgB b r kvs (left.filter fun x => !decide (x = p.1)) (some p.1))) F := by
  obtain ⟨z, hz, hb, hr, hst⟩ := rg_at hw hi
  rcases run_next_at (P := P) w ty r b z.since z.c0 z.seen z.es z.clock hr hb hz.old hz.sc with ⟨h0, hrun⟩ | ⟨e, he, w1, hal, hrun⟩
  · have hl : left = [] := by
      have h1 := congrArg List.length hz.rest
      rw [List.length_map, List.length_map, Array.length_toList, h0] at h1
      exact List.eq_nil_of_length_eq_zero h1.symm
    refine ⟨⟨none, hl⟩, w, hrun, ?_⟩
    exact St.back hi (St.exClose (⟨(z.es, z.clock), hz.ok⟩ : {z : Array MapEntry × Nat // MpOk z.1 z.2 kvs}) (hst.drop 1 rfl))
  · have hem := (mem_leftOf.1 he).1
    obtain ⟨j, hj⟩ := List.mem_iff_getElem?.1 hem
    obtain ⟨n, hk, hkv⟩ := hz.ok.at hj
    have hnl : n ∈ left := by
      have h1 : e.key ∈ (leftOf z.es z.seen).toList.map (·.key) := List.mem_map_of_mem (f := fun x : MapEntry => x.key) he
      rw [hz.rest, hk] at h1
      obtain ⟨m, hm, e1⟩ := List.mem_map.1 h1
      simp only [Value.int.injEq, true_and] at e1
      exact e1 ▸ hm
    refine ⟨⟨some (n, e.val), hnl, List.mem_of_getElem? hkv⟩, _, by rw [hk] at hrun; exact hrun, ?_⟩
    have hst1 : St w1 (Pts b (.map z.es z.clock) :: Pts r (.mapIter (some b) z.since z.seen z.c0) :: M.eraseIdx i) F := by
      rcases hal with rfl | rfl
      · exact hst
      · exact hst.drew
    have hr1 : w1.heap[r]? = some (.mapIter (some b) z.since z.seen z.c0) := hst1.heap (i := 1) rfl
    have hset := MapKept.heap_set (o' := .mapIter (some b) z.since (z.seen.push e.born) z.clock) hr1
    have h2 : St (setBlock w1 r (.mapIter (some b) z.since (z.seen.push e.born) z.clock)) (Pts b (.map z.es z.clock) :: Pts r (.mapIter (some b) z.since (z.seen.push e.born) z.clock) :: M.eraseIdx i) F :=
      St.putHeap (i := 1) (b := r) (o := .mapIter (some b) z.since z.seen z.c0) hst1 rfl rfl rfl rfl (by simp [setBlock]) hset.1 hset.2
    exact rg_close (z := ⟨z.es, z.clock, z.since, z.seen.push e.born, z.clock⟩) hi ⟨hz.ok, hz.old, hz.sk, hz.sk, left_push hz.ok he hk hz.rest, fun k hk2 => by cases hk2; exact ⟨e, z.seen, hem, hk, rfl, rfl⟩⟩ h2
section
variable {P : Program} {r : Option Nat} {N : Nat} {ops : Array Oper} {rest : List Oper} {Q : Exit → Act → World → Prop} {E : Env} {ds : List Deferred} {M : List HP} {F : List Fact}
variable {d : Nat} {ty : TypeId} {pos : String} {aft : Array Edge} {gd : Option (Nat × Bool)}
theorem GV.range {t k e : TypeId} {x : Operand} {b : Nat} {kvs : KV} (i : Nat) (ht : tyMap P t k e = true) (hx : evalO E x = some (.map (some b))) (hi : M[i]? = some (MpB b kvs)) :
    GV P E M F ⟨some d, .range t x, ty, pos, aft, gd⟩ Nat (fun q => .pointer (some ⟨q, 0, none⟩)) (fun q => M.set i (RgB b q kvs (kvs.map Prod.fst) none)) (fun _ => F) := ⟨rfl, fun ρ hρ w hw => by
  obtain ⟨z, h1⟩ := (hw.front hi).exOpen
  have hb : w.heap[b]? = some (.map z.1.1 z.1.2) := h1.heap (i := 0) rfl
  have hrun := run_range_map (P := P) w t k e b z.1.1 z.1.2 (tyMap_is ht).1 hb
  refine ⟨w.heap.size, w.alloc (.mapIter (some b) z.1.2 #[] z.1.2), by simp [execOp, hρ _ _ hx, hrun], ?_⟩
  have h2 := h1.alloc (.mapIter (some b) z.1.2 #[] z.1.2)
  have h3 : St _ (Pts b (.map z.1.1 z.1.2) :: Pts w.heap.size (.mapIter (some b) z.1.2 #[] z.1.2) :: M.eraseIdx i) F := h2.perm (.swap _ _ _)
  refine rg_close (z := ⟨z.1.1, z.1.2, z.1.2, #[], z.1.2⟩) hi ⟨z.2, z.2.past, Nat.le_refl _, Nat.le_refl _, ?_, fun k hk => by cases hk⟩ h3
  have e1 : (leftOf z.1.1 #[]).toList = z.1.1.toList := by unfold leftOf; simp
  have e2 := congrArg (List.map Prod.fst) z.2.kv
  rw [List.map_map, List.map_map] at e2
  rw [e1, List.map_map]
  exact e2⟩
theorem GV.next {x : Operand} {b q : Nat} {kvs : KV} {left : List Int} {cur : Option Int} (i : Nat) (hx : evalO E x = some (.pointer (some ⟨q, 0, none⟩))) (hi : M[i]? = some (RgB b q kvs left cur)) :
    GV P E M F ⟨some d, .next x false, ty, pos, aft, gd⟩ {o : Option (Int × Value) // match o with | none => left = [] | some p => p.1 ∈ left ∧ p ∈ kvs} (fun o => match o.1 with | none => .tuple #[.bool false] | some p => .tuple #[.bool true, .int .i64 p.1, p.2])
      (fun o => M.set i (match o.1 with | none => MpB b kvs | some p => RgB b q kvs (left.filter fun x => !decide (x = p.1)) (some p.1))) (fun _ => F) := ⟨rfl, fun ρ hρ w hw => by
  obtain ⟨o, w', hrun, hst⟩ := rg_next (P := P) ty hw hi
  exact ⟨o, w', by simp [execOp, hρ _ _ hx, hrun], hst⟩⟩
end
end Go.GL

namespace Go.GL
set_option linter.unusedVariables false
def cb (l : List UInt8) (i : Nat) : Nat := (l.getD i 0).toNat
def btw (l : List UInt8) (i lo hi : Nat) : Prop := i < l.length ∧ lo ≤ cb l i ∧ cb l i ≤ hi
instance (l : List UInt8) (i lo hi : Nat) : Decidable (btw l i lo hi) := by unfold btw; exact inferInstance
def secB (c : Nat) : Nat × Nat := if c = 224 then (160, 191) else if c = 237 then (128, 159) else if c = 240 then (144, 191) else if c = 244 then (128, 143) else (128, 191)
def charL (l : List UInt8) : Nat × Nat :=
  if 194 ≤ cb l 0 ∧ cb l 0 ≤ 223 ∧ btw l 1 128 191 then (2, 1)
  else if 224 ≤ cb l 0 ∧ cb l 0 ≤ 239 ∧ btw l 1 (secB (cb l 0)).1 (secB (cb l 0)).2 ∧ btw l 2 128 191 then (3, 1)
  else if 240 ≤ cb l 0 ∧ cb l 0 ≤ 244 ∧ btw l 1 (secB (cb l 0)).1 (secB (cb l 0)).2 ∧ btw l 2 128 191 ∧ btw l 3 128 191 then (4, 2)
  else (1, 1)
theorem charL_pos (l : List UInt8) : 1 ≤ (charL l).1 ∧ 1 ≤ (charL l).2 ∧ (charL l).2 ≤ (charL l).1 := by
  unfold charL; repeat' split
  all_goals simp
theorem charL_le {l : List UInt8} (h : 0 < l.length) : (charL l).1 ≤ l.length := by
  unfold charL; repeat' split
  · rename_i h1; have := h1.2.2.1; show 2 ≤ _; omega
  · rename_i h1; have := h1.2.2.2.1; show 3 ≤ _; omega
  · rename_i h1; have := h1.2.2.2.2.1; show 4 ≤ _; omega
  · show 1 ≤ _; omega
theorem cb_lt (l : List UInt8) (i : Nat) : cb l i < 256 := (l.getD i 0).toNat_lt
theorem get_cb (l : List UInt8) (pos k : Nat) : ((⟨l.toArray⟩ : ByteArray).get! (pos + k)).toNat = cb (l.drop pos) k := by
  unfold cb
  congr 1
  rw [List.getD_eq_getElem?_getD, List.getElem?_drop]
  show (l.toArray[pos + k]!) = _
  by_cases h : pos + k < l.length
  · rw [getElem!_pos _ _ (by simpa using h), List.getElem?_eq_getElem h]; simp
  · rw [getElem!_neg _ _ (by simpa using h), List.getElem?_eq_none (by omega)]; rfl
set_option maxRecDepth 20000 in
set_option maxHeartbeats 4000000 in
theorem dec_char (l : List UInt8) (pos : Nat) : (Utf8.decode ⟨l.toArray⟩ pos).2 = (charL (l.drop pos)).1 ∧ (if 65536 ≤ (Utf8.decode ⟨l.toArray⟩ pos).1 then 2 else 1) = (charL (l.drop pos)).2 ∧ ((Utf8.decode ⟨l.toArray⟩ pos).1 = 10 ↔ cb (l.drop pos) 0 = 10) ∧ (Utf8.decode ⟨l.toArray⟩ pos).1 ≤ 2147483647 := by
  refine ⟨?_, ?_, ?_, decode_le _ _⟩
  all_goals
    have e0 := get_cb l pos 0; have e1 := get_cb l pos 1; have e2 := get_cb l pos 2; have e3 := get_cb l pos 3
    have hs : (⟨l.toArray⟩ : ByteArray).size = l.length := by simp [ByteArray.size]
    have hd : (l.drop pos).length = l.length - pos := List.length_drop
    have b0 := cb_lt (l.drop pos) 0; have b1 := cb_lt (l.drop pos) 1; have b2 := cb_lt (l.drop pos) 2; have b3 := cb_lt (l.drop pos) 3
    unfold Utf8.decode
    try unfold charL btw
    dsimp only
    simp only [e0, e1, e2, e3, hs, hd]
    generalize cb (l.drop pos) 0 = c0 at *
    generalize cb (l.drop pos) 1 = c1 at *
    generalize cb (l.drop pos) 2 = c2 at *
    generalize cb (l.drop pos) 3 = c3 at *
    clear e0 e1 e2 e3 hs hd
    try unfold secB
    unfold Utf8.valid Utf8.runeError
    simp only [Bool.and_eq_true, decide_eq_true_eq, beq_iff_eq, Bool.or_eq_true]
    repeat' split
    all_goals omega
section
variable {P : Program} {r : Option Nat} {N : Nat} {ops : Array Oper} {rest : List Oper} {Q : Exit → Act → World → Prop} {E : Env} {ds : List Deferred} {M : List HP} {F : List Fact}
variable {d : Nat} {ty : TypeId} {pos : String} {aft : Array Edge} {gd : Option (Nat × Bool)}
theorem GV.rangeS {t : TypeId} {x : Operand} {l : List UInt8} (ht : tyStr P t = true) (hx : evalO E x = some (S l)) :
    GV P E M F ⟨some d, .range t x, ty, pos, aft, gd⟩ Nat (fun q => .pointer (some ⟨q, 0, none⟩)) (fun q => Pts q (.stringIter ⟨l.toArray⟩ 0) :: M) (fun _ => F) := ⟨rfl, fun ρ hρ w hw => by
  refine ⟨w.heap.size, w.iter ⟨l.toArray⟩ 0, ?_, hw.alloc _⟩
  have := run_range_string (P := P) w t ⟨l.toArray⟩ (tyStr_underlying ht)
  simp [execOp, hρ _ _ hx, this]⟩
theorem GV.nextOn {x : Operand} {q p : Nat} {l : List UInt8} (i : Nat) (hx : evalO E x = some (.pointer (some ⟨q, 0, none⟩))) (hi : M[i]? = some (Pts q (.stringIter ⟨l.toArray⟩ p))) (hp : p < l.length) :
    GV P E M F ⟨some d, .next x true, ty, pos, aft, gd⟩ Unit (fun _ => .tuple #[.bool true, I (p : Nat), .int .i32 ((Utf8.decode ⟨l.toArray⟩ p).1 : Nat)]) (fun _ => M.set i (Pts q (.stringIter ⟨l.toArray⟩ (p + (charL (l.drop p)).1)))) (fun _ => F) := ⟨rfl, fun ρ hρ w hw => by
  have hb := hw.heap hi
  have hs : (⟨l.toArray⟩ : ByteArray).size = l.length := by simp [ByteArray.size]
  have e := (dec_char l p).1
  refine ⟨(), w.putObj q (.stringIter ⟨l.toArray⟩ (p + (charL (l.drop p)).1)), ?_, hw.putObj hi⟩
  have hrun : (Instr.next (.pointer (some ⟨q, 0, none⟩)) true ty).run P w = .ok (.tuple #[.bool true, I (p : Nat), .int .i32 ((Utf8.decode ⟨l.toArray⟩ p).1 : Nat)]) (w.putObj q (.stringIter ⟨l.toArray⟩ (p + (charL (l.drop p)).1))) := by
    have hlt : q < w.heap.size := (Array.getElem?_eq_some_iff.1 hb).1
    simp only [Instr.next, getObj, setObj, Sem.run_bind, Sem.run, hb, Result.andThen, hs, hp, if_true, e]
    simp [goInt, World.putObj]
    try rfl
  simp [execOp, hρ _ _ hx, hrun]⟩
theorem GV.nextEnd {x : Operand} {q p : Nat} {l : List UInt8} (i : Nat) (hx : evalO E x = some (.pointer (some ⟨q, 0, none⟩))) (hi : M[i]? = some (Pts q (.stringIter ⟨l.toArray⟩ p))) (hp : ¬ p < l.length) :
    GV P E M F ⟨some d, .next x true, ty, pos, aft, gd⟩ Unit (fun _ => .tuple #[.bool false]) (fun _ => M) (fun _ => F) := ⟨rfl, fun ρ hρ w hw => by
  have hb := hw.heap hi
  have hs : (⟨l.toArray⟩ : ByteArray).size = l.length := by simp [ByteArray.size]
  refine ⟨(), w, ?_, hw⟩
  have hrun : (Instr.next (.pointer (some ⟨q, 0, none⟩)) true ty).run P w = .ok (.tuple #[.bool false]) w := by
    simp [Instr.next, getObj, Sem.run, hb, hs, hp]
  simp [execOp, hρ _ _ hx, hrun]⟩
end
end Go.GL

namespace Go.GL
set_option linter.unusedVariables false
theorem stepR_scope {P : Program} {b : Frame} {a : Act} {k : List Item} {cs : List Frame} {w : World} {c : Code} : step P (lone (b.atR a (.code (.scope c) :: k)) cs w) = .next (lone (b.atR a (.code c :: .inScope c :: k)) cs w) :=
  step_lone_go (by simp [stepG, stepG.exec, Frame.atR])
theorem stepR_inScope {P : Program} {b : Frame} {a : Act} {k : List Item} {cs : List Frame} {w : World} {c : Code} : step P (lone (b.atR a (.inScope c :: k)) cs w) = .next (lone (b.atR a k) cs w) :=
  step_lone_go (by simp [stepG, stepG.exec, Frame.atR])
theorem wpIn_scope {F : Fence} {n : Nat} {P : Program} {Q : Exit → Act → World → Prop} {a : Act} {w : World} {c : Code} (h : c.wpIn F n P (Exit.noGoto Q) a w) : (Code.scope c).wpIn F n P Q a w := by
  intro b k cs hro hb hr
  have h0 : (lone (b.atR a (.code (.scope c) :: k)) cs w).fenced P F := fenced_calm hb hr rfl
  obtain ⟨e, a₁, w₁, hq, harr⟩ := h b (.inScope c :: k) cs hro hb hr
  cases e with
  | normal => exact ⟨.normal, a₁, w₁, hq, .head h0 stepR_scope (StepsIn.trans harr (.one (fenced_calm hb hr rfl) stepR_inScope))⟩
  | exit id =>
    have hx : exitTo id (.inScope c :: k) = exitTo id k := by simp [exitTo]
    exact ⟨.exit id, a₁, w₁, hq, fun k' hk => .head h0 stepR_scope (harr.1 k' (by rw [hx]; exact hk)),
      fun hr' hk => let ⟨k₁, h1, h2⟩ := harr.2 hr' (by rw [hx]; exact hk); ⟨k₁, h1, .head h0 stepR_scope h2⟩⟩
  | goto l => exact hq.elim
  | ret => exact ⟨_, a₁, w₁, hq, .of_steps (.one h0 stepR_scope) harr⟩
  | panic ch => exact ⟨_, a₁, w₁, hq, .of_steps (.one h0 stepR_scope) harr⟩
  | outgrown => exact ⟨_, a₁, w₁, hq, .of_steps (.one h0 stepR_scope) harr⟩
section
variable {P : Program} {r : Option Nat} {N : Nat} {ops : Array Oper} {rest : List Oper} {Q : Exit → Act → World → Prop} {E : Env} {ds : List Deferred} {M : List HP} {F : List Fact}
variable {d : Nat} {ty : TypeId} {pos : String} {aft : Array Edge} {gd : Option (Nat × Bool)}
theorem TR.scope {c : Code} (h : TR P r N c (Exit.noGoto Q) E ds M F) : TR P r N (.scope c) Q E ds M F := fun a w ha hw => wpIn_scope (h a w ha hw)
theorem TR.label {l : Nat} (h : NX N .normal Q E ds M F) : TR P r N (.label l) Q E ds M F := fun a w ha hw => wpIn_label (h a w ha hw)
theorem NX.scopeR (h : NX N .ret Q E ds M F) : NX N .ret (Exit.noGoto Q) E ds M F := h
def tyArr (P : Program) (t e n : Nat) : Bool := match P.underlying t with | some (.array m e') => Nat.beq e' e && Nat.beq m n | _ => false
theorem tyArr_is {t e n : Nat} (h : tyArr P t e n = true) : P.underlying t = some (.array n e) := by
  unfold tyArr at h
  split at h
  · rename_i m e' he
    rw [Bool.and_eq_true] at h
    rw [he, Nat.eq_of_beq_eq_true h.1, Nat.eq_of_beq_eq_true h.2]
  · cases h
theorem BinV.lssS2 {t : TypeId} {a b : List UInt8} : BinV P .lss t (S a) (S b) (.bool (Op.bytesLess a b)) := ⟨fun w => by
  simp [binOp, Op.stringOp], fun _ _ _ => eqGuard_str _ _ _⟩
def encL (n : Int) : List UInt8 := (Utf8.encode n).data.toList
theorem encL_is (n : Int) : (.string (Utf8.encode n) : Value) = S (encL n) := by
  show _ = Value.string ⟨(Utf8.encode n).data.toList.toArray⟩
  rw [Array.toArray_toList]
theorem encL_high {n : Int} (h : 128 ≤ n) : 2 ≤ (encL n).length ∧ (encL n).length ≤ 4 ∧ ∃ b, (encL n)[(encL n).length - 1]? = some b ∧ 128 ≤ b.toNat := by
  have h1 : 2 ≤ (Utf8.encode n).size ∧ (Utf8.encode n).size ≤ 4 ∧ ∀ h : (Utf8.encode n).size - 1 < (Utf8.encode n).size, 128 ≤ ((Utf8.encode n)[(Utf8.encode n).size - 1]'h).toNat := by
    cases hv : Utf8.valid n with
    | true => exact encode_facts n hv h
    | false =>
      have e : Utf8.encode n = Utf8.encode 65533 := by
        unfold Utf8.encode
        rw [hv, show Utf8.valid 65533 = true from by decide]
        simp only [Bool.false_eq_true, if_false, if_true]
        rfl
      rw [e]
      exact encode_facts 65533 (by decide) (by decide)
  have hs : (encL n).length = (Utf8.encode n).size := by unfold encL; exact Array.length_toList
  refine ⟨by omega, by omega, (Utf8.encode n)[(Utf8.encode n).size - 1]'(by omega), ?_, h1.2.2 (by omega)⟩
  rw [hs]
  unfold encL
  rw [Array.getElem?_toList, Array.getElem?_eq_getElem (by show _ < (Utf8.encode n).size; omega)]
  rfl
theorem ConvV.runeS {P : Program} {s t : TypeId} {k : IntKind} {n : Int} (hs : tyInt P s k = true) (ht : tyStr P t = true) : ConvV P s t (.int k n) (S (encL n)) := fun w => by
  rw [← encL_is]
  exact run_convert_int_string w s t k n (by rw [tyInt_is hs]; rfl) (tyStr_underlying ht)
theorem RL.indexA {T e n i : Nat} {x y : Operand} {cs : List Value} {v : Value} (hg : wantedG ops E gd = some true) (ht : tyArr P T e n = true) (hz : tySize P e 1 = true) (hs : P.plainKey e = true) (hx : evalO E x = some (.agg cs.toArray)) (hy : evalO E y = some (I (i : Nat))) (hi : i < n) (hv : cs[i]? = some v) (hN : Nat.ble (d + 1) N = true) (k : RL P r N ops rest Q ((d, v) :: E) ds M F) : RL P r N ops (⟨some d, .index T x y, ty, pos, aft, gd⟩ :: rest) Q E ds M F :=
  RL.val rfl hg hN (fun ρ hρ w _ => by
    have h0 : (i : Int) < (n : Int) := by omega
    have hl := (List.getElem?_eq_some_iff.1 hv).1
    have hg := (List.getElem?_eq_some_iff.1 hv).2
    simp [execOp, hρ _ _ hx, hρ _ _ hy, Instr.index, asIntOf, run_underlying (tyArr_is ht), hi, run_sizeOf' hz]
    rw [run_part_plain w hs (show cs.toArray[i]? = some v by simpa using hv)]; rfl) k
theorem RL.sliceG {T e n size : Nat} {x : Operand} {a : Addr} (hg : wantedG ops E gd = some true) (ht : tyArr P T e n = true) (hz : tySize P e size = true) (hx : evalO E x = some (.pointer (some a))) (hN : Nat.ble (d + 1) N = true) (k : RL P r N ops rest Q ((d, .slice (some a) n n) :: E) ds M F) : RL P r N ops (⟨some d, .slice T x none none none, ty, pos, aft, gd⟩ :: rest) Q E ds M F :=
  RL.val rfl hg hN (fun ρ hρ w _ => by
    simp [execOp, hρ _ _ hx, Instr.sliceAt, Instr.sureAddr, Instr.slice, Instr.sliceBounds, run_underlying (tyArr_is ht), run_sizeOf' hz]
    intro _
    simp [Addr.add]) k
end
end Go.GL

namespace Go.GL
set_option linter.unusedVariables false
def inB (lo hi : Nat) (c : UInt8) : Bool := decide (lo ≤ c.toNat) && decide (c.toNat ≤ hi)
def spB (c : UInt8) : Bool := decide (c.toNat = 9) || (decide (c.toNat = 10) || (decide (c.toNat = 13) || decide (c.toNat = 32)))
def loB (c : UInt8) : Bool := inB 97 122 c
def upB (c : UInt8) : Bool := inB 65 90 c
def dgB (c : UInt8) : Bool := inB 48 57 c
def woB (c : UInt8) : Bool := loB c || (dgB c || decide (c.toNat = 95))
def naB (c : UInt8) : Bool := loB c || (upB c || dgB c)
def lnB (c : UInt8) : Bool := decide (c.toNat ≠ 10)
def rnN (cl : UInt8 → Bool) : List UInt8 → Nat
  | [] => 0
  | b :: l => if cl b = true then rnN cl l + 1 else 0
theorem rnN_le (cl : UInt8 → Bool) : ∀ l, rnN cl l ≤ l.length
  | [] => Nat.le_refl _
  | b :: l => by
    rw [rnN, List.length_cons]
    split
    · have := rnN_le cl l; omega
    · omega
theorem rnN_pos {cl : UInt8 → Bool} {b : UInt8} {l : List UInt8} (h : cl b = true) : 1 ≤ rnN cl (b :: l) := by rw [rnN, if_pos h]; omega
theorem rnN_step {cl : UInt8 → Bool} {l : List UInt8} {z : Nat} {b : UInt8} (hb : l[z]? = some b) : rnN cl (l.drop z) = if cl b = true then rnN cl (l.drop (z + 1)) + 1 else 0 := by
  have hz := (List.getElem?_eq_some_iff.1 hb).1
  rw [List.drop_eq_getElem_cons hz, (List.getElem?_eq_some_iff.1 hb).2, rnN]
def kwL : List (List UInt8) := [[97, 110, 100], [97, 115], [99, 104, 101, 99, 107], [100, 101, 108, 101, 116, 101], [101, 108, 115, 101], [102, 97, 108, 115, 101], [102, 117, 110], [105, 102], [105, 110], [105, 110, 115, 101, 114, 116], [107, 101, 121], [108, 101, 116], [109, 97, 116, 99, 104], [110, 111, 116], [111, 114], [112, 114, 111, 99], [114, 101, 102], [115, 101, 116], [116, 97, 98, 108, 101], [116, 104, 101, 110], [116, 111], [116, 114, 117, 101], [116, 121, 112, 101], [117, 112, 100, 97, 116, 101], [119, 104, 101, 114, 101], [119, 105, 116, 104]]
def syL : List (List UInt8) := [[61, 61], [33, 61], [60, 61], [60, 45], [45, 62], [43, 43], [60], [62], [61], [43], [45], [42], [40], [41], [123], [125], [91], [93], [44], [46], [58], [124], [59], [63]]
def stC (l : List (List UInt8)) : List Value := l.map S
theorem stC_get {l : List (List UInt8)} {i : Nat} {x : List UInt8} (h : l[i]? = some x) : (stC l)[i]? = some (S x) := by unfold stC; rw [List.getElem?_map, h]; rfl
def bsN (l : List (List UInt8)) (lt : List UInt8 → List UInt8 → Bool) (s : List UInt8) : Nat → Nat → Nat → Nat
  | 0, i, _ => i
  | f + 1, i, j => if i < j then (if lt (l.getD ((i + j) / 2) []) s = true then bsN l lt s f ((i + j) / 2 + 1) j else bsN l lt s f i ((i + j) / 2)) else i
def kwB (lt : List UInt8 → List UInt8 → Bool) (s : List UInt8) : Bool := decide (kwL[bsN kwL lt s 26 0 26]? = some s)
def pfB (s x : List UInt8) : Bool := decide (x.length ≤ s.length) && decide (s.take x.length = x)
def syN (s : List UInt8) : List (List UInt8) → Nat
  | [] => 0
  | x :: l => if pfB s x = true then x.length else syN s l
theorem syN_le (s : List UInt8) : ∀ l, syN s l ≤ s.length
  | [] => Nat.zero_le _
  | x :: l => by
    rw [syN]
    split
    · rename_i h
      unfold pfB at h
      rw [Bool.and_eq_true, decide_eq_true_eq] at h
      exact h.1
    · exact syN_le s l
def qtB (c : UInt8) : Bool := decide (c.toNat = 34) || decide (c.toNat = 10)
def qtI : List UInt8 → Option Nat
  | [] => none
  | b :: l => if qtB b = true then some 0 else (qtI l).map (· + 1)
theorem qtI_lt : ∀ {l : List UInt8} {i : Nat}, qtI l = some i → ∃ b, l[i]? = some b ∧ qtB b = true
  | b :: l, i, h => by
    rw [qtI] at h
    split at h
    · rename_i hb; cases h; exact ⟨b, rfl, hb⟩
    · obtain ⟨j, hj, rfl⟩ := Option.map_eq_some_iff.1 h
      obtain ⟨c, h1, h2⟩ := qtI_lt hj
      exact ⟨c, by simpa using h1, h2⟩
theorem qtI_hit : ∀ {l : List UInt8} {i : Nat} {b : UInt8}, (∀ (j : Nat) c, j < i → l[j]? = some c → qtB c = false) → l[i]? = some b → qtB b = true → qtI l = some i
  | a :: l, 0, b, _, h, hb => by simp at h; subst h; rw [qtI, if_pos hb]
  | a :: l, i + 1, b, hn, h, hb => by
    have h0 : qtB a = false := hn 0 a (by omega) rfl
    rw [qtI, if_neg (by rw [h0]; decide), qtI_hit (i := i) (fun j c hj hc => hn (j + 1) c (by omega) (by simpa using hc)) (by simpa using h) hb]; rfl
theorem qtI_none : ∀ {l : List UInt8}, (∀ (j : Nat) c, l[j]? = some c → qtB c = false) → qtI l = none
  | [], _ => rfl
  | a :: l, hn => by
    have h0 : qtB a = false := hn 0 a rfl
    rw [qtI, if_neg (by rw [h0]; decide), qtI_none fun j c hc => hn (j + 1) c (by simpa using hc)]; rfl
def qtZ : Option Nat → Int
  | some i => (i : Nat)
  | none => -1
theorem charL_high {m : List UInt8} {j : Nat} (h1 : 1 ≤ j) (h2 : j < (charL m).1) : 128 ≤ cb m j := by
  have hs : 128 ≤ (secB (cb m 0)).1 := by unfold secB; repeat' split
                                          all_goals decide
  unfold charL at h2
  split at h2
  · rename_i h
    have : j = 1 := by have : j < 2 := h2; omega
    subst this; exact h.2.2.2.1
  · split at h2
    · rename_i h
      have h3 : j < 3 := h2
      have h4 := h.2.2.1.2.1
      rcases (show j = 1 ∨ j = 2 by omega) with e | e
      · subst e; omega
      · subst e; exact h.2.2.2.2.1
    · split at h2
      · rename_i h
        have h3 : j < 4 := h2
        have h4 := h.2.2.1.2.1
        rcases (show j = 1 ∨ j = 2 ∨ j = 3 by omega) with e | e | e
        · subst e; omega
        · subst e; exact h.2.2.2.1.2.1
        · subst e; exact h.2.2.2.2.2.1
      · have h3 : j < 1 := h2
        omega
theorem dec_low {l : List UInt8} {z : Nat} {b : UInt8} (hb : l[z]? = some b) (h : b.toNat < 128) : (Utf8.decode ⟨l.toArray⟩ z).1 = b.toNat := by
  have hz := (List.getElem?_eq_some_iff.1 hb).1
  have hg : (⟨l.toArray⟩ : ByteArray)[z]'(by simpa [ByteArray.size] using hz) = b := by
    have := (List.getElem?_eq_some_iff.1 hb).2
    rw [← this]; rfl
  have := decode_ascii ⟨l.toArray⟩ z (by simpa [ByteArray.size] using hz) (by rw [hg]; exact h)
  rw [this, hg]
theorem dec_high {l : List UInt8} {z : Nat} {b : UInt8} (hb : l[z]? = some b) (h : 128 ≤ b.toNat) : 128 ≤ (Utf8.decode ⟨l.toArray⟩ z).1 := by
  have hz := (List.getElem?_eq_some_iff.1 hb).1
  have hg : (⟨l.toArray⟩ : ByteArray)[z]'(by simpa [ByteArray.size] using hz) = b := by
    have := (List.getElem?_eq_some_iff.1 hb).2
    rw [← this]; rfl
  exact (decode_high ⟨l.toArray⟩ z (by simpa [ByteArray.size] using hz) (by rw [hg]; exact h)).1
theorem qtB_is (b : UInt8) : qtB b = true ↔ b.toNat = 34 ∨ b.toNat = 10 := by unfold qtB; simp
theorem dec_qt {l : List UInt8} {z : Nat} {b : UInt8} (hb : l[z]? = some b) : ((Utf8.decode ⟨l.toArray⟩ z).1 = 34 ∨ (Utf8.decode ⟨l.toArray⟩ z).1 = 10) ↔ qtB b = true := by
  rw [qtB_is]
  by_cases h : b.toNat < 128
  · rw [dec_low hb h]
  · have := dec_high hb (by omega)
    omega
theorem dec_skip {l : List UInt8} {z : Nat} (hn : ∀ (j : Nat) c, j < z → l[j]? = some c → qtB c = false) {b : UInt8} (hb : l[z]? = some b) (hq : qtB b = false) : ∀ (j : Nat) c, j < z + (charL (l.drop z)).1 → l[j]? = some c → qtB c = false := by
  intro j c hj hc
  rcases Nat.lt_trichotomy j z with h | h | h
  · exact hn j c h hc
  · subst h; rw [hb] at hc; cases hc; exact hq
  · have h1 := charL_high (m := l.drop z) (j := j - z) (by omega) (by omega)
    have h2 : cb (l.drop z) (j - z) = c.toNat := by
      unfold cb
      rw [List.getD_eq_getElem?_getD, List.getElem?_drop, show z + (j - z) = j from by omega, hc]; rfl
    rw [h2] at h1
    cases hq2 : qtB c with
    | false => rfl
    | true => rw [qtB_is] at hq2; omega
def quN (s : List UInt8) : Nat := match qtI (s.drop 1) with
  | none => 0
  | some i => if s.getD (1 + i) 0 = 10 then 0 else i + 2
theorem quN_le (s : List UInt8) : quN s ≤ s.length := by
  unfold quN
  split
  · omega
  · rename_i i hi
    split
    · omega
    · obtain ⟨b, hb, _⟩ := qtI_lt hi
      have := (List.getElem?_eq_some_iff.1 hb).1
      rw [List.length_drop] at this; omega
def qrL0 : List UInt8 := [34, 10]
theorem indexAny_qt : ∀ l : List UInt8, Lib.indexAny l qrL0 = qtZ (qtI l)
  | [] => rfl
  | b :: l => by
    have ih := indexAny_qt l
    have hc : qrL0.contains b = qtB b := by
      rw [Bool.eq_iff_iff, qtB_is]
      show ((b == 34) || ((b == 10) || false)) = true ↔ _
      rw [Bool.or_false, Bool.or_eq_true, beq_iff_eq, beq_iff_eq]
      constructor
      · rintro (h | h) <;> subst h
        · exact .inl rfl
        · exact .inr rfl
      · rintro (h | h)
        · exact .inl (UInt8.toNat_inj.1 h)
        · exact .inr (UInt8.toNat_inj.1 h)
    rw [Lib.indexAny, qtI, hc, ih]
    cases hq : qtB b with
    | true => rfl
    | false =>
      cases hi : qtI l with
      | none => rfl
      | some i =>
        show (if ((i : Nat) : Int) == -1 then (-1 : Int) else ((i : Nat) : Int) + 1) = ((i + 1 : Nat) : Int)
        have : (((i : Nat) : Int) == -1) = false := by rw [beq_eq_false_iff_ne]; omega
        rw [this]; simp
section
variable (lt : List UInt8 → List UInt8 → Bool)
def gdN (s : List UInt8) : Nat × Nat := match s with
  | [] => (6, syN [] syL)
  | c :: _ => if spB c = true then (0, rnN spB s)
    else if c.toNat = 35 then (1, rnN lnB s)
    else if loB c = true then (if kwB lt (s.take (rnN woB s)) = true then 7 else 2, rnN woB s)
    else if upB c = true then (3, rnN naB s)
    else if dgB c = true then (4, rnN dgB s)
    else if c.toNat = 34 then (5, quN s)
    else (6, syN s syL)
theorem gdN_le (s : List UInt8) : (gdN lt s).2 ≤ s.length ∧ (gdN lt s).1 ≤ 8 := by
  unfold gdN
  split
  · exact ⟨syN_le _ _, by decide⟩
  · repeat' split
    all_goals refine ⟨?_, Nat.le_of_ble_eq_true rfl⟩
    all_goals first | exact rnN_le _ _ | exact quN_le _ | exact syN_le _ _
def bdN (s : List UInt8) : Nat → Nat → Nat
  | 0, n => n
  | f + 1, n => if n < s.length ∧ s.getD n 0 ≠ 34 then (if 0 < (gdN lt (s.drop n)).2 then n else bdN s f (n + 1)) else n
theorem bdN_le (s : List UInt8) : ∀ f n, n ≤ s.length → n ≤ bdN lt s f n ∧ bdN lt s f n ≤ s.length
  | 0, n, h => ⟨Nat.le_refl _, h⟩
  | f + 1, n, h => by
    rw [bdN]
    split
    · rename_i h1
      split
      · exact ⟨Nat.le_refl _, h⟩
      · have := bdN_le s f (n + 1) h1.1; omega
    · exact ⟨Nat.le_refl _, h⟩
def nxN (s : List UInt8) : Nat × Nat := if 0 < (gdN lt s).2 then gdN lt s else if s.getD 0 0 = 34 then (8, rnN lnB s) else (8, bdN lt s s.length 1)
theorem nxN_ok {s : List UInt8} (h : 0 < s.length) : 1 ≤ (nxN lt s).2 ∧ (nxN lt s).2 ≤ s.length ∧ (nxN lt s).1 ≤ 8 := by
  unfold nxN
  split
  · rename_i h1
    have := gdN_le lt s
    exact ⟨h1, this⟩
  · split
    · rename_i h2
      refine ⟨?_, rnN_le _ _, Nat.le_refl _⟩
      cases s with
      | nil => simp at h
      | cons b l =>
        have hb : b = 34 := by simpa using h2
        exact rnN_pos (by rw [hb]; decide)
    · have := bdN_le lt s s.length 1 h
      exact ⟨this.1, this.2, Nat.le_refl _⟩
structure Tk where
  k : Nat
  x : List UInt8
  at_ : Nat
def tkC : List Tk → List Value
  | [] => []
  | t :: l => I (t.k : Nat) :: S t.x :: I (t.at_ : Nat) :: tkC l
def tkF (s : List UInt8) : Nat → Nat → List Tk
  | 0, _ => []
  | f + 1, p => if p < s.length then ⟨(nxN lt (s.drop p)).1, (s.drop p).take (nxN lt (s.drop p)).2, p⟩ :: tkF s f (p + (nxN lt (s.drop p)).2) else []
def tks (s : List UInt8) : List Tk := tkF lt s s.length 0
theorem tkF_text (s : List UInt8) : ∀ f p, s.length - p ≤ f → (tkF lt s f p).flatMap Tk.x = s.drop p
  | 0, p, h => by rw [List.drop_of_length_le (by omega)]; rfl
  | f + 1, p, h => by
    rw [tkF]
    split
    · rename_i hp
      obtain ⟨h1, h2, _⟩ := nxN_ok lt (s := s.drop p) (by rw [List.length_drop]; omega)
      rw [List.flatMap_cons, tkF_text s f _ (by omega)]
      show (s.drop p).take _ ++ _ = _
      rw [← List.drop_drop, List.take_append_drop]
    · rw [List.drop_of_length_le (by omega)]; rfl
theorem tks_text (s : List UInt8) : (tks lt s).flatMap Tk.x = s := by unfold tks; rw [tkF_text lt s _ 0 (by omega)]; rfl
theorem tkF_len (s : List UInt8) : ∀ f p, (tkF lt s f p).length ≤ f
  | 0, p => Nat.le_refl _
  | f + 1, p => by
    rw [tkF]
    split
    · rw [List.length_cons]; have := tkF_len s f (p + (nxN lt (s.drop p)).2); omega
    · exact Nat.zero_le _
theorem tkF_ok (s : List UInt8) : ∀ f p t, t ∈ tkF lt s f p → t.k ≤ 8 ∧ t.x.length ≤ s.length
  | 0, p, t, h => by cases h
  | f + 1, p, t, h => by
    rw [tkF] at h
    split at h
    · rename_i hp
      rcases List.mem_cons.1 h with e | h
      · rw [e]
        have := nxN_ok lt (s := s.drop p) (by rw [List.length_drop]; omega)
        exact ⟨this.2.2, by show ((s.drop p).take _).length ≤ _; rw [List.length_take, List.length_drop]; omega⟩
      · exact tkF_ok s f _ t h
    · cases h
theorem tkF_at (s : List UInt8) : ∀ f p i t, s.length - p ≤ f → (tkF lt s f p)[i]? = some t → t.at_ = p + (((tkF lt s f p).take i).flatMap Tk.x).length
  | 0, p, i, t, _, h => by simp [tkF] at h
  | f + 1, p, i, t, hf, h => by
    rw [tkF] at h ⊢
    split at h
    · rename_i hp
      rw [if_pos hp]
      obtain ⟨h1, h2, _⟩ := nxN_ok lt (s := s.drop p) (by rw [List.length_drop]; omega)
      cases i with
      | zero => simp at h; subst h; simp
      | succ i =>
        have h3 := tkF_at s f (p + (nxN lt (s.drop p)).2) i t (by omega) (by simpa using h)
        rw [h3, List.take_succ_cons, List.flatMap_cons, List.length_append]
        show _ = p + (((s.drop p).take _).length + _)
        rw [List.length_take, Nat.min_eq_left h2]; exact Nat.add_assoc _ _ _
    · cases h
end
end Go.GL

namespace Go.GL
def HP.emp : HP := ⟨fun _ K => K = [], fun h _ => h, fun h b hb => by rw [h] at hb; cases hb⟩
def nthM : List HP → Nat → HP
  | [], _ => HP.emp
  | a :: _, 0 => a
  | _ :: l, n + 1 => nthM l n
def dropM : Nat → List HP → List HP
  | 0, l => l
  | _ + 1, [] => []
  | n + 1, _ :: l => dropM n l
def pikM (M : List HP) (k : Nat) : List Nat → List HP
  | [] => dropM k M
  | i :: is => nthM M i :: pikM M k is
def nthF : List Fact → Nat → Fact
  | [], _ => ⟨fun _ _ => True, fun h _ => h⟩
  | a :: _, 0 => a
  | _ :: l, n + 1 => nthF l n
def dropF : Nat → List Fact → List Fact
  | 0, l => l
  | _ + 1, [] => []
  | n + 1, _ :: l => dropF n l
def pikF (F : List Fact) (k : Nat) : List Nat → List Fact
  | [] => dropF k F
  | i :: is => nthF F i :: pikF F k is
theorem dropM_eq : ∀ (M : List HP) (k : Nat), dropM k M = M.drop k
  | _, 0 => by simp [dropM]
  | [], _ + 1 => by simp [dropM]
  | _ :: l, k + 1 => by simp [dropM, dropM_eq l k]
theorem nthM_get : ∀ {M : List HP} {i : Nat} (h : i < M.length), nthM M i = M[i]
  | [], _, h => absurd h (by simp)
  | _ :: _, 0, _ => rfl
  | _ :: l, n + 1, h => by simp only [List.length_cons] at h; show nthM l n = _; rw [nthM_get (by omega)]; rfl
theorem nthM_big : ∀ {M : List HP} {i : Nat}, M.length ≤ i → nthM M i = HP.emp
  | [], _, _ => rfl
  | _ :: _, 0, h => absurd h (by simp)
  | _ :: l, n + 1, h => nthM_big (M := l) (by simp only [List.length_cons] at h; omega)
theorem nthF_mem (F : List Fact) (i : Nat) : nthF F i ∈ F ∨ ∀ w K, (nthF F i).p w K := by
  induction F generalizing i with
  | nil => exact .inr fun _ _ => trivial
  | cons a l ih =>
    cases i with
    | zero => exact .inl (.head _)
    | succ n => rcases ih n with h | h; exact .inl (.tail _ h); exact .inr h
theorem dropF_mem {φ : Fact} : ∀ {F : List Fact} {k : Nat}, φ ∈ dropF k F → φ ∈ F
  | _, 0, h => h
  | [], _ + 1, h => h
  | _ :: _, _ + 1, h => .tail _ (dropF_mem h)
theorem St.toF {w : World} {M : List HP} {F : List Fact} (k : Nat) (fs : List Nat) (h : St w M F) : St w M (pikF F k fs) := by
  obtain ⟨K, ho, hn, hf⟩ := h
  refine ⟨K, ho, hn, ?_⟩
  induction fs with
  | nil => exact fun φ hφ => hf φ (dropF_mem hφ)
  | cons i is ih =>
    intro φ hφ
    rcases List.mem_cons.1 hφ with e | e
    · subst e
      rcases nthF_mem F i with h | h
      · exact hf _ h
      · exact h w K
    · exact ih φ e
theorem St.emp {w : World} {M : List HP} {F : List Fact} (h : St w M F) : St w (HP.emp :: M) F := by
  obtain ⟨K, ho, hn, hf⟩ := h
  exact ⟨K, ⟨[], K, rfl, rfl, ho⟩, hn, hf⟩
theorem St.dropped {w : World} {F : List Fact} : ∀ {A B : List HP}, St w (A ++ B) F → St w B F
  | [], _, h => h
  | _ :: A, B, h => St.dropped (A := A) (B := B) (by simpa using h.tail)
def okM (k : Nat) : List Nat → Bool
  | [] => true
  | i :: is => Nat.blt i k && !(is.any fun j => Nat.beq i j) && okM k is
theorem okM_is {k : Nat} : ∀ {is : List Nat}, okM k is = true → is.Nodup ∧ ∀ i, i ∈ is → i < k
  | [], _ => ⟨List.nodup_nil, fun _ h => absurd h (by simp)⟩
  | i :: is, h => by
    simp only [okM, Bool.and_eq_true] at h
    obtain ⟨h1, h2⟩ := okM_is h.2
    have h3 : i ∉ is := by
      intro hm
      have : is.any (fun j => Nat.beq i j) = true := List.any_eq_true.2 ⟨i, hm, Nat.beq_refl i⟩
      rw [this] at h
      exact absurd h.1.2 (by simp)
    refine ⟨List.nodup_cons.2 ⟨h3, h1⟩, fun j hj => ?_⟩
    rcases List.mem_cons.1 hj with e | e
    · subst e
      have := h.1.1
      simpa [Nat.blt_eq] using this
    · exact h2 j e
theorem range_map_get (M : List HP) (k : Nat) (hk : k ≤ M.length) : (List.range k).map (nthM M) = M.take k := by
  apply List.ext_getElem (by simp; omega)
  intro i h1 h2
  simp at h1
  simp [nthM_get (show i < M.length by omega)]
theorem pickM_eq (M : List HP) (k : Nat) : ∀ (is : List Nat), pikM M k is = is.map (nthM M) ++ M.drop k
  | [] => by simp [pikM, dropM_eq]
  | i :: is => by simp [pikM, pickM_eq M k is]
theorem nodup_subperm {is : List Nat} {k : Nat} (h1 : is.Nodup) (h2 : ∀ i, i ∈ is → i < k) : ∃ js, (is ++ js).Perm (List.range k) := by
  refine ⟨(List.range k).filter (fun j => decide (j ∉ is)), ?_⟩
  have hn : (is ++ (List.range k).filter (fun j => decide (j ∉ is))).Nodup := by
    refine List.nodup_append.2 ⟨h1, (List.nodup_range).sublist List.filter_sublist, ?_⟩
    intro a ha b hb e
    subst e
    have := (List.mem_filter.1 hb).2
    simp at this
    exact this ha
  refine (List.perm_ext_iff_of_nodup hn List.nodup_range).2 fun a => ?_
  constructor
  · intro h
    rcases List.mem_append.1 h with h | h
    · exact List.mem_range.2 (h2 a h)
    · exact (List.mem_filter.1 h).1
  · intro h
    by_cases ha : a ∈ is
    · exact List.mem_append.2 (.inl ha)
    · exact List.mem_append.2 (.inr (List.mem_filter.2 ⟨h, by simpa using ha⟩))
theorem St.pad {w : World} {M : List HP} {F : List Fact} (k : Nat) (h : St w M F) : St w ((List.range k).map (nthM M) ++ M.drop k) F := by
  by_cases hk : k ≤ M.length
  · rw [range_map_get M k hk, List.take_append_drop]; exact h
  · have e1 : (List.range k).map (nthM M) = M ++ List.replicate (k - M.length) HP.emp := by
      apply List.ext_getElem (by simp; omega)
      intro i h1 h2
      simp at h1
      by_cases hi : i < M.length
      · simp [List.getElem_append_left hi, nthM_get hi]
      · rw [List.getElem_append_right (by omega)]
        simp [nthM_big (M := M) (i := i) (by omega)]
    rw [e1, List.drop_eq_nil_of_le (by omega), List.append_nil]
    have : ∀ n, St w (List.replicate n HP.emp ++ M) F := by
      intro n
      induction n with
      | zero => simpa using h
      | succ n ih => simpa [List.replicate_succ] using ih.emp
    exact (this _).perm List.perm_append_comm
theorem St.toM {w : World} {M : List HP} {F : List Fact} (k : Nat) (is : List Nat) (ok : okM k is = true) (h : St w M F) : St w (pikM M k is) F := by
  obtain ⟨h1, h2⟩ := okM_is ok
  obtain ⟨js, hp⟩ := nodup_subperm h1 h2
  rw [pickM_eq]
  have h3 := h.pad k
  have h4 : ((List.range k).map (nthM M) ++ M.drop k).Perm (js.map (nthM M) ++ (is.map (nthM M) ++ M.drop k)) := by
    have := (hp.map (nthM M)).symm
    rw [List.map_append] at this
    refine (this.append_right _).trans ?_
    rw [← List.append_assoc]
    exact List.perm_append_comm.append_right _
  exact St.dropped (h3.perm h4)
theorem St.to {w : World} {M : List HP} {F : List Fact} (k : Nat) (is : List Nat) (kf : Nat) (fs : List Nat) (ok : okM k is = true) (h : St w M F) : St w (pikM M k is) (pikF F kf fs) := (h.toM k is ok).toF kf fs
theorem Ctr.pick {P : Program} {f : FuncId} {args : List Value} {M : List HP} {F : List Fact} {ι : Type} {val : ι → Value} {M' : ι → List HP} {F' : ι → List Fact} (k : Nat) (is : List Nat) (ok : okM k is = true)
    (h : Ctr P f args (pikM M k is) F ι val M' F') : Ctr P f args M F ι val M' F' := fun w hw => h w (hw.toM k is ok)
section
variable {P : Program} {r : Option Nat} {N : Nat} {ops : Array Oper} {rest : List Oper} {Q : Exit → Act → World → Prop} {E : Env} {ds : List Deferred} {M : List HP} {F : List Fact}
theorem RL.pick (k : Nat) (is : List Nat) (ok : okM k is = true) (h : RL P r N ops rest Q E ds (pikM M k is) F) : RL P r N ops rest Q E ds M F := RL.weak (fun _ hw => hw.toM k is ok) h
theorem TR.pick {c : Code} (k : Nat) (is : List Nat) (ok : okM k is = true) (h : TR P r N c Q E ds (pikM M k is) F) : TR P r N c Q E ds M F := TR.weak (fun _ hw => hw.toM k is ok) h
theorem RL.to (k : Nat) (is : List Nat) (kf : Nat) (fs : List Nat) (ok : okM k is = true) (h : RL P r N ops rest Q E ds (pikM M k is) (pikF F kf fs)) : RL P r N ops rest Q E ds M F := RL.weak (fun _ hw => hw.to k is kf fs ok) h
theorem TR.to {c : Code} (k : Nat) (is : List Nat) (kf : Nat) (fs : List Nat) (ok : okM k is = true) (h : TR P r N c Q E ds (pikM M k is) (pikF F kf fs)) : TR P r N c Q E ds M F := TR.weak (fun _ hw => hw.to k is kf fs ok) h
end
end Go.GL

namespace Go.Proofs.YtnolpmigiboanaaDoor
open Go.GL
set_option linter.unusedVariables false
theorem in_spec {c : UInt8} {lo hi : Nat} {M : List HP} {F : List Fact} : Ctr Tryd.prog 49 [.int .u8 (c.toNat : Nat), .int .u8 (lo : Nat), .int .u8 (hi : Nat)] M F Unit (fun _ => .bool (inB lo hi c)) (fun _ => M) (fun _ => F) := by
  refine Ctr.body Tryd.func49 rfl rfl ?_
  refine TR.seq ?_
  refine TR.region ?_
  refine RL.assign rfl rfl rfl ?_
  refine RL.nil ?_
  refine NX.seq ?_
  refine TR.seq ?_
  refine TR.region ?_
  refine RL.move rfl rfl rfl ?_
  refine RL.move rfl rfl rfl ?_
  refine RL.bin rfl rfl rfl BinV.geq rfl ?_
  refine RL.move rfl rfl rfl ?_
  refine RL.part (fun h1 => ?_) (fun h1 => ?_)
  · skip
    have h1_3 := of_decide_eq_true h1
    refine RL.move rfl rfl rfl ?_
    refine RL.move rfl rfl rfl ?_
    refine RL.bin rfl rfl rfl BinV.leq rfl ?_
    refine RL.pickT rfl rfl rfl rfl ?_
    refine RL.assign rfl rfl rfl ?_
    refine RL.nil ?_
    refine NX.seq ?_
    refine TR.ret ?_
    exact NX.ret1 () rfl rfl (congrArg Value.bool (by unfold inB; rw [decide_eq_true (show lo ≤ c.toNat by omega), Bool.true_and]; exact decide_eq_decide.2 (by omega))) (fun w hw => hw)
  · skip
    have h1_3 := of_decide_eq_false h1
    refine RL.skip rfl rfl rfl ?_
    refine RL.skip rfl rfl rfl ?_
    refine RL.skip rfl rfl rfl ?_
    refine RL.pickF rfl rfl rfl rfl ?_
    refine RL.assign rfl rfl rfl ?_
    refine RL.nil ?_
    refine NX.seq ?_
    refine TR.ret ?_
    exact NX.ret1 () rfl rfl (congrArg Value.bool (by unfold inB; rw [decide_eq_false (show ¬ lo ≤ c.toNat by omega), Bool.false_and])) (fun w hw => hw)
theorem lower_spec {c : UInt8} {M : List HP} {F : List Fact} : Ctr Tryd.prog 41 [.int .u8 (c.toNat : Nat)] M F Unit (fun _ => .bool (loB c)) (fun _ => M) (fun _ => F) := by
  refine Ctr.body Tryd.func41 rfl rfl ?_
  refine TR.seq ?_
  refine TR.region ?_
  refine RL.assign rfl rfl rfl ?_
  refine RL.nil ?_
  refine NX.seq ?_
  refine TR.seq ?_
  refine TR.region ?_
  refine RL.move rfl rfl rfl ?_
  refine RL.call rfl rfl Tryd.call49 rfl (in_spec (lo := 97) (hi := 122)) (fun _ => ?_)
  refine RL.assign rfl rfl rfl ?_
  refine RL.nil ?_
  refine NX.seq ?_
  refine TR.ret ?_
  exact NX.ret1 () rfl rfl rfl (fun w hw => hw)
theorem upper_spec {c : UInt8} {M : List HP} {F : List Fact} : Ctr Tryd.prog 44 [.int .u8 (c.toNat : Nat)] M F Unit (fun _ => .bool (upB c)) (fun _ => M) (fun _ => F) := by
  refine Ctr.body Tryd.func44 rfl rfl ?_
  refine TR.seq ?_
  refine TR.region ?_
  refine RL.assign rfl rfl rfl ?_
  refine RL.nil ?_
  refine NX.seq ?_
  refine TR.seq ?_
  refine TR.region ?_
  refine RL.move rfl rfl rfl ?_
  refine RL.call rfl rfl Tryd.call49 rfl (in_spec (lo := 65) (hi := 90)) (fun _ => ?_)
  refine RL.assign rfl rfl rfl ?_
  refine RL.nil ?_
  refine NX.seq ?_
  refine TR.ret ?_
  exact NX.ret1 () rfl rfl rfl (fun w hw => hw)
theorem digit_spec {c : UInt8} {M : List HP} {F : List Fact} : Ctr Tryd.prog 46 [.int .u8 (c.toNat : Nat)] M F Unit (fun _ => .bool (dgB c)) (fun _ => M) (fun _ => F) := by
  refine Ctr.body Tryd.func46 rfl rfl ?_
  refine TR.seq ?_
  refine TR.region ?_
  refine RL.assign rfl rfl rfl ?_
  refine RL.nil ?_
  refine NX.seq ?_
  refine TR.seq ?_
  refine TR.region ?_
  refine RL.move rfl rfl rfl ?_
  refine RL.call rfl rfl Tryd.call49 rfl (in_spec (lo := 48) (hi := 57)) (fun _ => ?_)
  refine RL.assign rfl rfl rfl ?_
  refine RL.nil ?_
  refine NX.seq ?_
  refine TR.ret ?_
  exact NX.ret1 () rfl rfl rfl (fun w hw => hw)
theorem line_spec {c : UInt8} {M : List HP} {F : List Fact} : Ctr Tryd.prog 37 [.int .u8 (c.toNat : Nat)] M F Unit (fun _ => .bool (lnB c)) (fun _ => M) (fun _ => F) := by
  refine Ctr.body Tryd.func37 rfl rfl ?_
  refine TR.seq ?_
  refine TR.region ?_
  refine RL.assign rfl rfl rfl ?_
  refine RL.nil ?_
  refine NX.seq ?_
  refine TR.seq ?_
  refine TR.region ?_
  refine RL.move rfl rfl rfl ?_
  refine RL.bin rfl rfl rfl BinV.neq rfl ?_
  refine RL.assign rfl rfl rfl ?_
  refine RL.nil ?_
  refine NX.seq ?_
  refine TR.ret ?_
  exact NX.ret1 () rfl rfl (congrArg Value.bool (decide_eq_decide.2 (by omega))) (fun w hw => hw)
theorem word_spec {c : UInt8} {M : List HP} {F : List Fact} : Ctr Tryd.prog 42 [.int .u8 (c.toNat : Nat)] M F Unit (fun _ => .bool (woB c)) (fun _ => M) (fun _ => F) := by
  refine Ctr.body Tryd.func42 rfl rfl ?_
  refine TR.seq ?_
  refine TR.region ?_
  refine RL.assign rfl rfl rfl ?_
  refine RL.nil ?_
  refine NX.seq ?_
  refine TR.seq ?_
  refine TR.region ?_
  refine RL.move rfl rfl rfl ?_
  refine RL.call rfl rfl Tryd.call41 rfl (lower_spec) (fun _ => ?_)
  refine RL.move rfl rfl rfl ?_
  refine RL.part (fun h1 => ?_) (fun h1 => ?_)
  · skip
    have h1_2 := h1
    refine RL.skip rfl rfl rfl ?_
    refine RL.skip rfl rfl rfl ?_
    refine RL.pickT rfl rfl rfl rfl ?_
    refine RL.move rfl rfl rfl ?_
    refine RL.skip rfl rfl rfl ?_
    refine RL.skip rfl rfl rfl ?_
    refine RL.pickT rfl rfl rfl rfl ?_
    refine RL.assign rfl rfl rfl ?_
    refine RL.nil ?_
    refine NX.seq ?_
    refine TR.ret ?_
    exact NX.ret1 () rfl rfl (congrArg Value.bool (by unfold woB; rw [h1_2]; rfl)) (fun w hw => hw)
  · skip
    have h1_2 := h1
    refine RL.move rfl rfl rfl ?_
    refine RL.call rfl rfl Tryd.call46 rfl (digit_spec) (fun _ => ?_)
    refine RL.pickF rfl rfl rfl rfl ?_
    refine RL.move rfl rfl rfl ?_
    refine RL.part (fun h2 => ?_) (fun h2 => ?_)
    · skip
      have h1_6 := h2
      refine RL.skip rfl rfl rfl ?_
      refine RL.skip rfl rfl rfl ?_
      refine RL.pickT rfl rfl rfl rfl ?_
      refine RL.assign rfl rfl rfl ?_
      refine RL.nil ?_
      refine NX.seq ?_
      refine TR.ret ?_
      exact NX.ret1 () rfl rfl (congrArg Value.bool (by unfold woB; rw [h1_2, h1_6]; rfl)) (fun w hw => hw)
    · skip
      have h1_6 := h2
      refine RL.move rfl rfl rfl ?_
      refine RL.bin rfl rfl rfl BinV.eql rfl ?_
      refine RL.pickF rfl rfl rfl rfl ?_
      refine RL.assign rfl rfl rfl ?_
      refine RL.nil ?_
      refine NX.seq ?_
      refine TR.ret ?_
      exact NX.ret1 () rfl rfl (congrArg Value.bool (by unfold woB; rw [h1_2, h1_6, Bool.false_or, Bool.false_or] <;> exact decide_eq_decide.2 (by omega))) (fun w hw => hw)
theorem name_spec {c : UInt8} {M : List HP} {F : List Fact} : Ctr Tryd.prog 45 [.int .u8 (c.toNat : Nat)] M F Unit (fun _ => .bool (naB c)) (fun _ => M) (fun _ => F) := by
  refine Ctr.body Tryd.func45 rfl rfl ?_
  refine TR.seq ?_
  refine TR.region ?_
  refine RL.assign rfl rfl rfl ?_
  refine RL.nil ?_
  refine NX.seq ?_
  refine TR.seq ?_
  refine TR.region ?_
  refine RL.move rfl rfl rfl ?_
  refine RL.call rfl rfl Tryd.call41 rfl (lower_spec) (fun _ => ?_)
  refine RL.move rfl rfl rfl ?_
  refine RL.part (fun h1 => ?_) (fun h1 => ?_)
  · skip
    have h1_2 := h1
    refine RL.skip rfl rfl rfl ?_
    refine RL.skip rfl rfl rfl ?_
    refine RL.pickT rfl rfl rfl rfl ?_
    refine RL.move rfl rfl rfl ?_
    refine RL.skip rfl rfl rfl ?_
    refine RL.skip rfl rfl rfl ?_
    refine RL.pickT rfl rfl rfl rfl ?_
    refine RL.assign rfl rfl rfl ?_
    refine RL.nil ?_
    refine NX.seq ?_
    refine TR.ret ?_
    exact NX.ret1 () rfl rfl (congrArg Value.bool (by unfold naB; rw [h1_2]; rfl)) (fun w hw => hw)
  · skip
    have h1_2 := h1
    refine RL.move rfl rfl rfl ?_
    refine RL.call rfl rfl Tryd.call44 rfl (upper_spec) (fun _ => ?_)
    refine RL.pickF rfl rfl rfl rfl ?_
    refine RL.move rfl rfl rfl ?_
    refine RL.part (fun h2 => ?_) (fun h2 => ?_)
    · skip
      have h1_6 := h2
      refine RL.skip rfl rfl rfl ?_
      refine RL.skip rfl rfl rfl ?_
      refine RL.pickT rfl rfl rfl rfl ?_
      refine RL.assign rfl rfl rfl ?_
      refine RL.nil ?_
      refine NX.seq ?_
      refine TR.ret ?_
      exact NX.ret1 () rfl rfl (congrArg Value.bool (by unfold naB; rw [h1_2, h1_6]; rfl)) (fun w hw => hw)
    · skip
      have h1_6 := h2
      refine RL.move rfl rfl rfl ?_
      refine RL.call rfl rfl Tryd.call46 rfl (digit_spec) (fun _ => ?_)
      refine RL.pickF rfl rfl rfl rfl ?_
      refine RL.assign rfl rfl rfl ?_
      refine RL.nil ?_
      refine NX.seq ?_
      refine TR.ret ?_
      exact NX.ret1 () rfl rfl (congrArg Value.bool (by unfold naB; rw [h1_2, h1_6, Bool.false_or, Bool.false_or] <;> skip)) (fun w hw => hw)
theorem space_spec {c : UInt8} {M : List HP} {F : List Fact} : Ctr Tryd.prog 40 [.int .u8 (c.toNat : Nat)] M F Unit (fun _ => .bool (spB c)) (fun _ => M) (fun _ => F) := by
  refine Ctr.body Tryd.func40 rfl rfl ?_
  refine TR.seq ?_
  refine TR.region ?_
  refine RL.assign rfl rfl rfl ?_
  refine RL.nil ?_
  refine NX.seq ?_
  refine TR.seq ?_
  refine TR.region ?_
  refine RL.move rfl rfl rfl ?_
  refine RL.bin rfl rfl rfl BinV.eql rfl ?_
  refine RL.move rfl rfl rfl ?_
  refine RL.part (fun h1 => ?_) (fun h1 => ?_)
  · skip
    have h1_2 := of_decide_eq_true h1
    refine RL.skip rfl rfl rfl ?_
    refine RL.skip rfl rfl rfl ?_
    refine RL.pickT rfl rfl rfl rfl ?_
    refine RL.move rfl rfl rfl ?_
    refine RL.skip rfl rfl rfl ?_
    refine RL.skip rfl rfl rfl ?_
    refine RL.pickT rfl rfl rfl rfl ?_
    refine RL.move rfl rfl rfl ?_
    refine RL.skip rfl rfl rfl ?_
    refine RL.skip rfl rfl rfl ?_
    refine RL.pickT rfl rfl rfl rfl ?_
    refine RL.assign rfl rfl rfl ?_
    refine RL.nil ?_
    refine NX.seq ?_
    refine TR.ret ?_
    exact NX.ret1 () rfl rfl (congrArg Value.bool (by unfold spB; rw [decide_eq_true (show c.toNat = 9 by omega), Bool.true_or])) (fun w hw => hw)
  · skip
    have h1_2 := of_decide_eq_false h1
    refine RL.move rfl rfl rfl ?_
    refine RL.bin rfl rfl rfl BinV.eql rfl ?_
    refine RL.pickF rfl rfl rfl rfl ?_
    refine RL.move rfl rfl rfl ?_
    refine RL.part (fun h2 => ?_) (fun h2 => ?_)
    · skip
      have h1_6 := of_decide_eq_true h2
      refine RL.skip rfl rfl rfl ?_
      refine RL.skip rfl rfl rfl ?_
      refine RL.pickT rfl rfl rfl rfl ?_
      refine RL.move rfl rfl rfl ?_
      refine RL.skip rfl rfl rfl ?_
      refine RL.skip rfl rfl rfl ?_
      refine RL.pickT rfl rfl rfl rfl ?_
      refine RL.assign rfl rfl rfl ?_
      refine RL.nil ?_
      refine NX.seq ?_
      refine TR.ret ?_
      exact NX.ret1 () rfl rfl (congrArg Value.bool (by unfold spB; rw [decide_eq_false (show ¬ c.toNat = 9 by omega), Bool.false_or]; rw [decide_eq_true (show c.toNat = 10 by omega), Bool.true_or])) (fun w hw => hw)
    · skip
      have h1_6 := of_decide_eq_false h2
      refine RL.move rfl rfl rfl ?_
      refine RL.bin rfl rfl rfl BinV.eql rfl ?_
      refine RL.pickF rfl rfl rfl rfl ?_
      refine RL.move rfl rfl rfl ?_
      refine RL.part (fun h3 => ?_) (fun h3 => ?_)
      · skip
        have h1_10 := of_decide_eq_true h3
        refine RL.skip rfl rfl rfl ?_
        refine RL.skip rfl rfl rfl ?_
        refine RL.pickT rfl rfl rfl rfl ?_
        refine RL.assign rfl rfl rfl ?_
        refine RL.nil ?_
        refine NX.seq ?_
        refine TR.ret ?_
        exact NX.ret1 () rfl rfl (congrArg Value.bool (by unfold spB; rw [decide_eq_false (show ¬ c.toNat = 9 by omega), Bool.false_or]; rw [decide_eq_false (show ¬ c.toNat = 10 by omega), Bool.false_or]; rw [decide_eq_true (show c.toNat = 13 by omega), Bool.true_or])) (fun w hw => hw)
      · skip
        have h1_10 := of_decide_eq_false h3
        refine RL.move rfl rfl rfl ?_
        refine RL.bin rfl rfl rfl BinV.eql rfl ?_
        refine RL.pickF rfl rfl rfl rfl ?_
        refine RL.assign rfl rfl rfl ?_
        refine RL.nil ?_
        refine NX.seq ?_
        refine TR.ret ?_
        exact NX.ret1 () rfl rfl (congrArg Value.bool (by unfold spB; rw [decide_eq_false (show ¬ c.toNat = 9 by omega), Bool.false_or]; rw [decide_eq_false (show ¬ c.toNat = 10 by omega), Bool.false_or]; rw [decide_eq_false (show ¬ c.toNat = 13 by omega), Bool.false_or]; exact decide_eq_decide.2 (by omega))) (fun w hw => hw)
def ClsC (P : Program) (cf : FuncId) (cl : UInt8 → Bool) : Prop := (∀ args w, (callFunc cf args).run P w = .ok (.enter cf args) w) ∧ ∀ (c : UInt8) (M : List HP) (F : List Fact), Ctr P cf [.int .u8 (c.toNat : Nat)] M F Unit (fun _ => .bool (cl c)) (fun _ => M) (fun _ => F)
theorem cls_space : ClsC Tryd.prog 40 spB := ⟨Tryd.call40, fun c M F => space_spec⟩
theorem cls_line : ClsC Tryd.prog 37 lnB := ⟨Tryd.call37, fun c M F => line_spec⟩
theorem cls_word : ClsC Tryd.prog 42 woB := ⟨Tryd.call42, fun c M F => word_spec⟩
theorem cls_name : ClsC Tryd.prog 45 naB := ⟨Tryd.call45, fun c M F => name_spec⟩
theorem cls_digit : ClsC Tryd.prog 46 dgB := ⟨Tryd.call46, fun c M F => digit_spec⟩
end Go.Proofs.YtnolpmigiboanaaDoor

namespace Go.Proofs.YtnolpmigiboanaaDoor
open Go.GL
set_option linter.unusedVariables false
theorem nb_ta83 : tyAgg Tryd.prog 83 24 = true := by kernel_rfl
theorem nb_tar83 : tyArr Tryd.prog 83 9 24 = true := by kernel_rfl
theorem nb_tpk9 : Tryd.prog.plainKey 9 = true := by kernel_rfl
theorem nb_tstr9 : tyStr Tryd.prog 9 = true := by kernel_rfl
theorem nb_tz9 : tySize Tryd.prog 9 1 = true := by kernel_rfl
theorem run_spec {l : List UInt8} {cf : FuncId} {cl : UInt8 → Bool} {M : List HP} {F : List Fact} (hc : ClsC Tryd.prog cf cl) (hl : l.length ≤ 1099511627776) : Ctr Tryd.prog 36 [S l, .func (.func cf) #[] #[]] M F Unit (fun _ => I (rnN cl l : Nat)) (fun _ => M) (fun _ => F) := by
  refine Ctr.body Tryd.func36 rfl rfl ?_
  refine TR.seq ?_
  refine TR.region ?_
  refine RL.assign rfl rfl rfl ?_
  refine RL.nil ?_
  refine NX.seq ?_
  refine TR.seq ?_
  refine TR.region ?_
  refine RL.assign rfl rfl rfl ?_
  refine RL.nil ?_
  refine NX.seq ?_
  refine TR.seq ?_
  refine TR.block ?_
  refine TR.loopP (ι := Nat) (fun z => z ≤ l.length ∧ rnN cl l = z + rnN cl (l.drop z)) (fun z => [(0, S l), (1, .func (.func cf) #[] #[]), (5, I (z : Nat))]) (fun z => M) (fun z => F) (fun z => (l.length - z)) 0 ⟨Nat.zero_le _, by simp⟩ ⟨rfl, rfl, rfl, trivial⟩ (fun w hw => (hw.to 0 [] 0 [] rfl)) (fun z hz => ?_)
  refine TR.seq ?_
  refine TR.seq ?_
  refine TR.region ?_
  refine RL.move rfl rfl rfl ?_
  refine RL.move rfl rfl rfl ?_
  refine RL.lenStr rfl nb_tstr9 rfl rfl ?_
  refine RL.bin rfl rfl rfl BinV.lss rfl ?_
  refine RL.move rfl rfl rfl ?_
  refine RL.part (fun h1 => ?_) (fun h1 => ?_)
  · skip
    have hi : z < l.length := by have := of_decide_eq_true h1; omega
    obtain ⟨b, hb⟩ : ∃ b, l[z]? = some b := ⟨_, List.getElem?_eq_getElem hi⟩
    have hst := rnN_step (cl := cl) hb
    refine RL.move rfl rfl rfl ?_
    refine RL.move rfl rfl rfl ?_
    refine RL.move rfl rfl rfl ?_
    refine RL.indexS (u := b) rfl nb_tstr9 rfl rfl (by omega) (by rw [Int.toNat_natCast]; exact hb) rfl ?_
    refine RL.callV (fst := []) (cap := []) rfl rfl rfl hc.1 rfl (hc.2 b _ _) (fun _ => ?_)
    refine RL.pickT rfl rfl rfl rfl ?_
    refine RL.nil ?_
    refine NX.seq ?_
    refine TR.cond rfl (fun h2 => ?_) (fun h2 => ?_)
    · skip
      have hcb : cl b = true := h2
      rw [if_pos hcb] at hst
      refine TR.skip ?_
      refine NX.seq ?_
      refine TR.block ?_
      refine TR.region ?_
      refine RL.move rfl rfl rfl ?_
      refine RL.bin rfl rfl rfl (BinV.add ((z + 1 : Nat) : Int) (by omega) (by omega) (by omega)) rfl ?_
      refine RL.assign rfl rfl rfl ?_
      refine RL.nil ?_
      refine NX.off ?_
      refine NX.roundP (z + 1) ⟨by omega, by have := hz.2; omega⟩ (by omega) ⟨rfl, rfl, rfl, trivial⟩ (fun w hw => (hw.to 0 [] 0 [] rfl))
    · skip
      have hcb : cl b = false := h2
      rw [if_neg (by rw [hcb]; decide)] at hst
      refine TR.exit ?_
      refine NX.exitThen ?_
      refine NX.exitThen ?_
      refine NX.exitHere ?_
      refine NX.seq ?_
      refine TR.seq ?_
      refine TR.region ?_
      refine RL.move rfl rfl rfl ?_
      refine RL.assign rfl rfl rfl ?_
      refine RL.nil ?_
      refine NX.seq ?_
      refine TR.ret ?_
      exact NX.ret1 () rfl rfl (congrArg (fun n : Nat => I (n : Nat)) (by have h9 := hz.2; omega)) (fun w hw => hw)
  · skip
    have hi : l.length ≤ z := by have := of_decide_eq_false h1; omega
    refine RL.skip rfl rfl rfl ?_
    refine RL.skip rfl rfl rfl ?_
    refine RL.skip rfl rfl rfl ?_
    refine RL.skip rfl rfl rfl ?_
    refine RL.skip rfl rfl rfl ?_
    refine RL.pickF rfl rfl rfl rfl ?_
    refine RL.nil ?_
    refine NX.seq ?_
    refine TR.condF rfl ?_
    refine TR.exit ?_
    refine NX.exitThen ?_
    refine NX.exitThen ?_
    refine NX.exitHere ?_
    refine NX.seq ?_
    refine TR.seq ?_
    refine TR.region ?_
    refine RL.move rfl rfl rfl ?_
    refine RL.assign rfl rfl rfl ?_
    refine RL.nil ?_
    refine NX.seq ?_
    refine TR.ret ?_
    exact NX.ret1 () rfl rfl (congrArg (fun n : Nat => I (n : Nat)) (by have h9 := hz.2; rw [List.drop_of_length_le hi] at h9; exact h9.symm)) (fun w hw => hw)
theorem lpfx_spec {l x : List UInt8} {M : List HP} {F : List Fact} : Ctr Tryd.prog 59 [S l, S x] M F Unit (fun _ => .bool (pfB l x)) (fun _ => M) (fun _ => F) := by
  refine Ctr.body Tryd.func59 rfl rfl ?_
  refine TR.seq ?_
  refine TR.region ?_
  refine RL.assign rfl rfl rfl ?_
  refine RL.nil ?_
  refine NX.seq ?_
  refine TR.seq ?_
  refine TR.region ?_
  refine RL.move rfl rfl rfl ?_
  refine RL.lenStr rfl nb_tstr9 rfl rfl ?_
  refine RL.move rfl rfl rfl ?_
  refine RL.lenStr rfl nb_tstr9 rfl rfl ?_
  refine RL.bin rfl rfl rfl BinV.geq rfl ?_
  refine RL.move rfl rfl rfl ?_
  refine RL.part (fun h1 => ?_) (fun h1 => ?_)
  · skip
    have h1 := of_decide_eq_true h1
    refine RL.move rfl rfl rfl ?_
    refine RL.move rfl rfl rfl ?_
    refine RL.lenStr rfl nb_tstr9 rfl rfl ?_
    refine RL.sliceSto rfl nb_tstr9 rfl rfl (by omega) (by omega) rfl ?_
    refine RL.move rfl rfl rfl ?_
    refine RL.bin rfl rfl rfl BinV.eqlS rfl ?_
    refine RL.pickT rfl rfl rfl rfl ?_
    refine RL.assign rfl rfl rfl ?_
    refine RL.nil ?_
    refine NX.seq ?_
    refine TR.ret ?_
    exact NX.ret1 () rfl rfl (congrArg Value.bool (by unfold pfB; rw [decide_eq_true (show x.length ≤ l.length by omega), Bool.true_and, Int.toNat_natCast])) (fun w hw => hw)
  · skip
    have h1 := of_decide_eq_false h1
    refine RL.skip rfl rfl rfl ?_
    refine RL.skip rfl rfl rfl ?_
    refine RL.skip rfl rfl rfl ?_
    refine RL.skip rfl rfl rfl ?_
    refine RL.skip rfl rfl rfl ?_
    refine RL.skip rfl rfl rfl ?_
    refine RL.pickF rfl rfl rfl rfl ?_
    refine RL.assign rfl rfl rfl ?_
    refine RL.nil ?_
    refine NX.seq ?_
    refine TR.ret ?_
    exact NX.ret1 () rfl rfl (congrArg Value.bool (by unfold pfB; rw [decide_eq_false (show ¬ x.length ≤ l.length by omega), Bool.false_and])) (fun w hw => hw)
theorem pfx_spec {l x : List UInt8} {M : List HP} {F : List Fact} : Ctr Tryd.prog 52 [S l, S x] M F Unit (fun _ => .bool (pfB l x)) (fun _ => M) (fun _ => F) := by
  refine Ctr.body Tryd.func52 rfl rfl ?_
  refine TR.seq ?_
  refine TR.region ?_
  refine RL.assign rfl rfl rfl ?_
  refine RL.nil ?_
  refine NX.seq ?_
  refine TR.seq ?_
  refine TR.region ?_
  refine RL.move rfl rfl rfl ?_
  refine RL.move rfl rfl rfl ?_
  refine RL.call rfl rfl Tryd.call59 rfl (lpfx_spec) (fun _ => ?_)
  refine RL.assign rfl rfl rfl ?_
  refine RL.nil ?_
  refine NX.seq ?_
  refine TR.ret ?_
  exact NX.ret1 () rfl rfl rfl (fun w hw => hw)
theorem syN_step {s : List UInt8} {i : Nat} {x : List UInt8} (h : syL[i]? = some x) : syN s (syL.drop i) = if pfB s x = true then x.length else syN s (syL.drop (i + 1)) := by
  have hi := (List.getElem?_eq_some_iff.1 h).1
  rw [List.drop_eq_getElem_cons hi, (List.getElem?_eq_some_iff.1 h).2, syN]
theorem symbol_spec {l : List UInt8} {M : List HP} {F : List Fact} (hsy : CellsF 1 0 (stC syL) ∈ F) : Ctr Tryd.prog 48 [S l] M F Unit (fun _ => I (syN l syL : Nat)) (fun _ => M) (fun _ => F) := by
  refine Ctr.body Tryd.func48 rfl rfl ?_
  refine TR.seq ?_
  refine TR.region ?_
  refine RL.assign rfl rfl rfl ?_
  refine RL.nil ?_
  refine NX.seq ?_
  refine TR.seq ?_
  refine TR.seq ?_
  refine TR.region ?_
  refine RL.loadF rfl rfl (fun w K hF => run_loadCellsAt (hF (CellsF 1 0 (stC syL)) hsy) nb_ta83) rfl ?_
  refine RL.move rfl rfl rfl ?_
  refine RL.nil ?_
  refine NX.seq ?_
  refine TR.block ?_
  refine TR.loopP (ι := Nat) (fun z => z ≤ 24 ∧ syN l (syL.drop z) = syN l syL) (fun z => [(0, S l), (5, .agg (stC syL).toArray), (6, I (z : Nat))]) (fun z => M) (fun z => F) (fun z => (24 - z)) 0 ⟨Nat.zero_le _, rfl⟩ ⟨rfl, rfl, rfl, trivial⟩ (fun w hw => (hw.to 0 [] 0 [] rfl)) (fun z hz => ?_)
  refine TR.seq ?_
  refine TR.region ?_
  refine RL.bin rfl rfl rfl BinV.lss rfl ?_
  refine RL.nil ?_
  refine NX.seq ?_
  refine TR.seq ?_
  refine TR.cond rfl (fun h1 => ?_) (fun h1 => ?_)
  · skip
    have hi : z < 24 := by have := of_decide_eq_true h1; omega
    obtain ⟨x, hx⟩ : ∃ x, syL[z]? = some x := ⟨_, List.getElem?_eq_getElem (by show z < 24; exact hi)⟩
    have hst := syN_step (s := l) hx
    refine TR.skip ?_
    refine NX.seq ?_
    refine TR.seq ?_
    refine TR.block ?_
    refine TR.seq ?_
    refine TR.region ?_
    refine RL.indexA (i := z) rfl nb_tar83 nb_tz9 nb_tpk9 rfl rfl (by omega) (stC_get hx) rfl ?_
    refine RL.assign rfl rfl rfl ?_
    refine RL.nil ?_
    refine NX.seq ?_
    refine TR.seq ?_
    refine TR.region ?_
    refine RL.move rfl rfl rfl ?_
    refine RL.move rfl rfl rfl ?_
    refine RL.call rfl rfl Tryd.call52 rfl (pfx_spec (l := l) (x := x)) (fun _ => ?_)
    refine RL.nil ?_
    refine NX.seq ?_
    refine TR.cond rfl (fun h2 => ?_) (fun h2 => ?_)
    · skip
      have hp : pfB l x = true := h2
      rw [if_pos hp] at hst
      refine TR.seq ?_
      refine TR.region ?_
      refine RL.move rfl rfl rfl ?_
      refine RL.lenStr rfl nb_tstr9 rfl rfl ?_
      refine RL.assign rfl rfl rfl ?_
      refine RL.nil ?_
      refine NX.seq ?_
      refine TR.ret ?_
      refine NX.retBlock ?_
      refine NX.retThen ?_
      refine NX.retThen ?_
      refine NX.retBlock ?_
      refine NX.retThen ?_
      exact NX.ret1 () rfl rfl (congrArg (fun n : Nat => I (n : Nat)) (by rw [← hz.2, hst])) (fun w hw => hw)
    · skip
      have hp : pfB l x = false := h2
      rw [if_neg (by rw [hp]; decide)] at hst
      refine TR.skip ?_
      refine NX.off ?_
      refine NX.seq ?_
      refine TR.region ?_
      refine RL.bin rfl rfl rfl (BinV.add ((z + 1 : Nat) : Int) (by omega) (by omega) (by omega)) rfl ?_
      refine RL.move rfl rfl rfl ?_
      refine RL.nil ?_
      refine NX.roundP (z + 1) ⟨by omega, by rw [← hst]; exact hz.2⟩ (by omega) ⟨rfl, rfl, rfl, trivial⟩ (fun w hw => (hw.to 0 [] 0 [] rfl))
  · skip
    have hi : z = 24 := by have := of_decide_eq_false h1; omega
    refine TR.exit ?_
    refine NX.exitThen ?_
    refine NX.exitThen ?_
    refine NX.exitHere ?_
    refine NX.seq ?_
    refine TR.seq ?_
    refine TR.region ?_
    refine RL.assign rfl rfl rfl ?_
    refine RL.nil ?_
    refine NX.seq ?_
    refine TR.ret ?_
    exact NX.ret1 () rfl rfl (congrArg (fun n : Nat => I (n : Nat)) (by rw [← hz.2, hi]; rfl)) (fun w hw => hw)
end Go.Proofs.YtnolpmigiboanaaDoor

namespace Go.Proofs.YtnolpmigiboanaaDoor
open Go.GL
set_option linter.unusedVariables false
theorem nc_tar81 : tyArr Tryd.prog 81 9 26 = true := by kernel_rfl
theorem nc_ti3 : tyInt Tryd.prog 3 .i64 = true := by kernel_rfl
theorem nc_ti85 : tyInt Tryd.prog 85 .u64 = true := by kernel_rfl
theorem nc_tl25 : tySlice Tryd.prog 25 9 = true := by kernel_rfl
theorem nc_ts9 : tyScalar Tryd.prog 9 = true := by kernel_rfl
theorem nc_tz9 : tySize Tryd.prog 9 1 = true := by kernel_rfl
theorem nanc_spec {l : List UInt8} {M : List HP} {F : List Fact} : Ctr Tryd.prog 60 [S l] M F Unit (fun _ => .bool false) (fun _ => M) (fun _ => F) := by
  refine Ctr.body Tryd.func60 rfl rfl ?_
  refine TR.seq ?_
  refine TR.region ?_
  refine RL.assign rfl rfl rfl ?_
  refine RL.nil ?_
  refine NX.seq ?_
  refine TR.seq ?_
  refine TR.region ?_
  refine RL.move rfl rfl rfl ?_
  refine RL.move rfl rfl rfl ?_
  refine RL.bin rfl rfl rfl (BinV.to (d := false) BinV.neqS (decide_eq_false (by simp))) rfl ?_
  refine RL.assign rfl rfl rfl ?_
  refine RL.nil ?_
  refine NX.seq ?_
  refine TR.ret ?_
  exact NX.ret1 () rfl rfl rfl (fun w hw => hw)
theorem nans_spec {l : List UInt8} {M : List HP} {F : List Fact} : Ctr Tryd.prog 54 [S l] M F Unit (fun _ => .bool false) (fun _ => M) (fun _ => F) := by
  refine Ctr.body Tryd.func54 rfl rfl ?_
  refine TR.seq ?_
  refine TR.region ?_
  refine RL.assign rfl rfl rfl ?_
  refine RL.nil ?_
  refine NX.seq ?_
  refine TR.seq ?_
  refine TR.region ?_
  refine RL.move rfl rfl rfl ?_
  refine RL.move rfl rfl rfl ?_
  refine RL.bin rfl rfl rfl (BinV.to (d := false) BinV.neqS (decide_eq_false (by simp))) rfl ?_
  refine RL.assign rfl rfl rfl ?_
  refine RL.nil ?_
  refine NX.seq ?_
  refine TR.ret ?_
  exact NX.ret1 () rfl rfl rfl (fun w hw => hw)
theorem lessS_spec {a b : List UInt8} {M : List HP} {F : List Fact} : Ctr Tryd.prog 53 [S a, S b] M F Unit (fun _ => .bool (Op.bytesLess a b)) (fun _ => M) (fun _ => F) := by
  refine Ctr.body Tryd.func53 rfl rfl ?_
  refine TR.seq ?_
  refine TR.region ?_
  refine RL.assign rfl rfl rfl ?_
  refine RL.nil ?_
  refine NX.seq ?_
  refine TR.seq ?_
  refine TR.region ?_
  refine RL.move rfl rfl rfl ?_
  refine RL.call rfl rfl Tryd.call60 rfl (nanc_spec) (fun _ => ?_)
  refine RL.move rfl rfl rfl ?_
  refine RL.skip rfl rfl rfl ?_
  refine RL.skip rfl rfl rfl ?_
  refine RL.skip rfl rfl rfl ?_
  refine RL.pickF rfl rfl rfl rfl ?_
  refine RL.move rfl rfl rfl ?_
  refine RL.move rfl rfl rfl ?_
  refine RL.move rfl rfl rfl ?_
  refine RL.bin rfl rfl rfl BinV.lssS2 rfl ?_
  refine RL.pickF rfl rfl rfl rfl ?_
  refine RL.assign rfl rfl rfl ?_
  refine RL.nil ?_
  refine NX.seq ?_
  refine TR.ret ?_
  exact NX.ret1 () rfl rfl rfl (fun w hw => hw)
theorem bsN_go {l : List (List UInt8)} {lt : List UInt8 → List UInt8 → Bool} {s : List UInt8} {f i j : Nat} (h : i < j) : bsN l lt s (f + 1) i j = if lt (l.getD ((i + j) / 2) []) s = true then bsN l lt s f ((i + j) / 2 + 1) j else bsN l lt s f i ((i + j) / 2) := by rw [bsN, if_pos h]
theorem bsN_end {l : List (List UInt8)} {lt : List UInt8 → List UInt8 → Bool} {s : List UInt8} {f i j : Nat} (h : ¬ i < j) : bsN l lt s f i j = i := by
  cases f with
  | zero => rfl
  | succ f => rw [bsN, if_neg h]
theorem bsearch_spec {s : List UInt8} {M : List HP} {F : List Fact} (hkw : CellsF 0 0 (stC kwL) ∈ F) : Ctr Tryd.prog 50 [.slice (some ⟨0, 0, none⟩) 26 26, S s] M F Unit (fun _ => .tuple #[I (bsN kwL Op.bytesLess s 26 0 26 : Nat), .bool (decide (kwL[bsN kwL Op.bytesLess s 26 0 26]? = some s))]) (fun _ => M) (fun _ => F) := by
  refine Ctr.body Tryd.func50 rfl rfl ?_
  refine TR.seq ?_
  refine TR.region ?_
  refine RL.assign rfl rfl rfl ?_
  refine RL.assign rfl rfl rfl ?_
  refine RL.nil ?_
  refine NX.seq ?_
  refine TR.seq ?_
  refine TR.region ?_
  refine RL.move rfl rfl rfl ?_
  refine RL.lenSlice rfl nc_tl25 rfl rfl ?_
  refine RL.assign rfl rfl rfl ?_
  refine RL.nil ?_
  refine NX.seq ?_
  refine TR.seq ?_
  refine TR.region ?_
  refine RL.move rfl rfl rfl ?_
  refine RL.assign rfl rfl rfl ?_
  refine RL.assign rfl rfl rfl ?_
  refine RL.nil ?_
  refine NX.seq ?_
  refine TR.seq ?_
  refine TR.block ?_
  refine TR.loopP (ι := (Nat × Nat × Nat)) (fun z => z.2.2 ≤ 26 ∧ z.2.1 ≤ z.2.2 ∧ z.2.2 - z.2.1 ≤ z.1 ∧ bsN kwL Op.bytesLess s z.1 z.2.1 z.2.2 = bsN kwL Op.bytesLess s 26 0 26) (fun z => [(0, .slice (some ⟨0, 0, none⟩) 26 26), (1, S s), (6, I (26 : Nat)), (7, I (z.2.1 : Nat)), (8, I (z.2.2 : Nat))]) (fun z => M) (fun z => F) (fun z => z.1) (26, 0, 26) ⟨Nat.le_refl _, Nat.zero_le _, Nat.le_refl _, rfl⟩ ⟨rfl, rfl, rfl, rfl, rfl, trivial⟩ (fun w hw => (hw.to 0 [] 0 [] rfl)) (fun z hz => ?_)
  refine TR.seq ?_
  refine TR.seq ?_
  refine TR.region ?_
  refine RL.move rfl rfl rfl ?_
  refine RL.move rfl rfl rfl ?_
  refine RL.bin rfl rfl rfl BinV.lss rfl ?_
  refine RL.nil ?_
  refine NX.seq ?_
  refine TR.cond rfl (fun h1 => ?_) (fun h1 => ?_)
  · skip
    have hij : z.2.1 < z.2.2 := by have := of_decide_eq_true h1; omega
    obtain ⟨m, hm⟩ : ∃ m, kwL[((z.2.1 + z.2.2) / 2)]? = some m := ⟨_, List.getElem?_eq_getElem (by show ((z.2.1 + z.2.2) / 2) < 26; omega)⟩
    have hgd : kwL.getD ((z.2.1 + z.2.2) / 2) [] = m := by rw [List.getD_eq_getElem?_getD, hm]; rfl
    refine TR.skip ?_
    refine NX.seq ?_
    refine TR.block ?_
    refine TR.seq ?_
    refine TR.region ?_
    refine RL.move rfl rfl rfl ?_
    refine RL.move rfl rfl rfl ?_
    refine RL.bin rfl rfl rfl (BinV.add ((z.2.1 + z.2.2 : Nat) : Int) (by omega) (by omega) (by omega)) rfl ?_
    refine RL.conv rfl rfl (ConvV.iu (n := z.2.1 + z.2.2) nc_ti3 nc_ti85 (by omega)) rfl ?_
    refine RL.bin rfl rfl rfl (BinV.shrU (a := z.2.1 + z.2.2) (s := 1) (by decide)) rfl ?_
    refine RL.conv rfl rfl (ConvV.uiS (n := (z.2.1 + z.2.2) / 2) nc_ti85 nc_ti3 (by omega)) rfl ?_
    refine RL.assign rfl rfl rfl ?_
    refine RL.nil ?_
    refine NX.seq ?_
    refine TR.seq ?_
    refine TR.region ?_
    refine RL.move rfl rfl rfl ?_
    refine RL.move rfl rfl rfl ?_
    refine RL.indexAddr rfl nc_tl25 nc_tz9 (congrArg (fun a => some (Value.slice a _ _)) rfl) rfl (by omega) (by omega) rfl ?_
    refine RL.loadF rfl rfl (fun w K hF => run_loadCell1 (j := ((((z.2.1 + z.2.2) / 2) : Nat) : Int).toNat * 1) (hF (CellsF 0 0 (stC kwL)) hkw) nc_ts9 (by rw [Int.toNat_natCast, Nat.mul_one]; exact stC_get hm)) rfl ?_
    refine RL.move rfl rfl rfl ?_
    refine RL.call rfl rfl Tryd.call53 rfl (lessS_spec (a := m) (b := s)) (fun _ => ?_)
    refine RL.nil ?_
    refine NX.seq ?_
    refine TR.cond rfl (fun h2 => ?_) (fun h2 => ?_)
    · skip
      have hlt : Op.bytesLess m s = true := h2
      refine TR.region ?_
      refine RL.move rfl rfl rfl ?_
      refine RL.bin rfl rfl rfl (BinV.add ((((z.2.1 + z.2.2) / 2) + 1 : Nat) : Int) (by omega) (by omega) (by omega)) rfl ?_
      refine RL.assign rfl rfl rfl ?_
      refine RL.nil ?_
      refine NX.off ?_
      have hg := bsN_go (l := kwL) (lt := Op.bytesLess) (s := s) (f := z.1 - 1) hij
      rw [show z.1 - 1 + 1 = z.1 from by omega, if_pos (by rw [hgd]; exact hlt)] at hg
      refine NX.roundP (z.1 - 1, (z.2.1 + z.2.2) / 2 + 1, z.2.2) ⟨by show z.2.2 ≤ 26; omega, by show (z.2.1 + z.2.2) / 2 + 1 ≤ z.2.2; omega, by show z.2.2 - ((z.2.1 + z.2.2) / 2 + 1) ≤ z.1 - 1; omega, hg.symm.trans hz.2.2.2⟩ (by show z.1 - 1 < z.1; omega) ⟨rfl, rfl, rfl, rfl, rfl, trivial⟩ (fun w hw => (hw.to 0 [] 0 [] rfl))
    · skip
      have hlt : Op.bytesLess m s = false := h2
      refine TR.region ?_
      refine RL.move rfl rfl rfl ?_
      refine RL.assign rfl rfl rfl ?_
      refine RL.nil ?_
      refine NX.off ?_
      have hg := bsN_go (l := kwL) (lt := Op.bytesLess) (s := s) (f := z.1 - 1) hij
      rw [show z.1 - 1 + 1 = z.1 from by omega, if_neg (by rw [hgd]; rw [hlt]; decide)] at hg
      refine NX.roundP (z.1 - 1, z.2.1, (z.2.1 + z.2.2) / 2) ⟨by show (z.2.1 + z.2.2) / 2 ≤ 26; omega, by show z.2.1 ≤ (z.2.1 + z.2.2) / 2; omega, by show (z.2.1 + z.2.2) / 2 - z.2.1 ≤ z.1 - 1; omega, hg.symm.trans hz.2.2.2⟩ (by show z.1 - 1 < z.1; omega) ⟨rfl, rfl, rfl, rfl, rfl, trivial⟩ (fun w hw => (hw.to 0 [] 0 [] rfl))
  · skip
    have hij : ¬ z.2.1 < z.2.2 := by have := of_decide_eq_false h1; omega
    refine TR.exit ?_
    refine NX.exitThen ?_
    refine NX.exitThen ?_
    refine NX.exitHere ?_
    refine NX.seq ?_
    refine TR.seq ?_
    refine TR.region ?_
    refine RL.move rfl rfl rfl ?_
    refine RL.move rfl rfl rfl ?_
    refine RL.move rfl rfl rfl ?_
    refine RL.bin rfl rfl rfl BinV.lss rfl ?_
    refine RL.move rfl rfl rfl ?_
    refine RL.part (fun h3 => ?_) (fun h3 => ?_)
    · skip
      have hi8 : z.2.1 < 26 := by have := of_decide_eq_true h3; omega
      obtain ⟨x, hx⟩ : ∃ x, kwL[z.2.1]? = some x := ⟨_, List.getElem?_eq_getElem (by show z.2.1 < 26; exact hi8)⟩
      refine RL.move rfl rfl rfl ?_
      refine RL.move rfl rfl rfl ?_
      refine RL.indexAddr rfl nc_tl25 nc_tz9 (congrArg (fun a => some (Value.slice a _ _)) rfl) rfl (by omega) (by omega) rfl ?_
      refine RL.loadF rfl rfl (fun w K hF => run_loadCell1 (j := ((z.2.1 : Nat) : Int).toNat * 1) (hF (CellsF 0 0 (stC kwL)) hkw) nc_ts9 (by rw [Int.toNat_natCast, Nat.mul_one]; exact stC_get hx)) rfl ?_
      refine RL.move rfl rfl rfl ?_
      refine RL.bin rfl rfl rfl BinV.eqlS rfl ?_
      refine RL.move rfl rfl rfl ?_
      refine RL.part (fun h4 => ?_) (fun h4 => ?_)
      · skip
        have h8 := of_decide_eq_true h4
        refine RL.skip rfl rfl rfl ?_
        refine RL.skip rfl rfl rfl ?_
        refine RL.skip rfl rfl rfl ?_
        refine RL.skip rfl rfl rfl ?_
        refine RL.skip rfl rfl rfl ?_
        refine RL.skip rfl rfl rfl ?_
        refine RL.skip rfl rfl rfl ?_
        refine RL.skip rfl rfl rfl ?_
        refine RL.skip rfl rfl rfl ?_
        refine RL.pickT rfl rfl rfl rfl ?_
        refine RL.pickT rfl rfl rfl rfl ?_
        refine RL.assign rfl rfl rfl ?_
        refine RL.assign rfl rfl rfl ?_
        refine RL.nil ?_
        refine NX.seq ?_
        refine TR.ret ?_
        have hr : bsN kwL Op.bytesLess s 26 0 26 = z.2.1 := by rw [← hz.2.2.2, bsN_end hij]
        exact NX.ret2 () rfl rfl rfl (by rw [hr]; show Value.tuple #[_, _] = Value.tuple #[_, .bool (decide (kwL[z.2.1]? = some s))]; rw [hx]; exact congrArg (fun b => Value.tuple #[I (z.2.1 : Nat), .bool b]) (by rw [decide_eq_true (congrArg some h8)])) (fun w hw => hw)
      · skip
        have h8 := of_decide_eq_false h4
        refine RL.move rfl rfl rfl ?_
        refine RL.move rfl rfl rfl ?_
        refine RL.indexAddr rfl nc_tl25 nc_tz9 (congrArg (fun a => some (Value.slice a _ _)) rfl) rfl (by omega) (by omega) rfl ?_
        refine RL.loadF rfl rfl (fun w K hF => run_loadCell1 (j := ((z.2.1 : Nat) : Int).toNat * 1) (hF (CellsF 0 0 (stC kwL)) hkw) nc_ts9 (by rw [Int.toNat_natCast, Nat.mul_one]; exact stC_get hx)) rfl ?_
        refine RL.call rfl rfl Tryd.call54 rfl (nans_spec) (fun _ => ?_)
        refine RL.move rfl rfl rfl ?_
        refine RL.skip rfl rfl rfl ?_
        refine RL.skip rfl rfl rfl ?_
        refine RL.pickF rfl rfl rfl rfl ?_
        refine RL.pickF rfl rfl rfl rfl ?_
        refine RL.pickT rfl rfl rfl rfl ?_
        refine RL.assign rfl rfl rfl ?_
        refine RL.assign rfl rfl rfl ?_
        refine RL.nil ?_
        refine NX.seq ?_
        refine TR.ret ?_
        have hr : bsN kwL Op.bytesLess s 26 0 26 = z.2.1 := by rw [← hz.2.2.2, bsN_end hij]
        exact NX.ret2 () rfl rfl rfl (by rw [hr]; show Value.tuple #[_, _] = Value.tuple #[_, .bool (decide (kwL[z.2.1]? = some s))]; rw [hx]; exact congrArg (fun b => Value.tuple #[I (z.2.1 : Nat), .bool b]) (by rw [decide_eq_false (fun e => h8 (Option.some.inj e))])) (fun w hw => hw)
    · skip
      have hi8 := of_decide_eq_false h3
      refine RL.skip rfl rfl rfl ?_
      refine RL.skip rfl rfl rfl ?_
      refine RL.skip rfl rfl rfl ?_
      refine RL.skip rfl rfl rfl ?_
      refine RL.skip rfl rfl rfl ?_
      refine RL.skip rfl rfl rfl ?_
      refine RL.skip rfl rfl rfl ?_
      refine RL.skip rfl rfl rfl ?_
      refine RL.skip rfl rfl rfl ?_
      refine RL.skip rfl rfl rfl ?_
      refine RL.skip rfl rfl rfl ?_
      refine RL.skip rfl rfl rfl ?_
      refine RL.skip rfl rfl rfl ?_
      refine RL.skip rfl rfl rfl ?_
      refine RL.skip rfl rfl rfl ?_
      refine RL.skip rfl rfl rfl ?_
      refine RL.skip rfl rfl rfl ?_
      refine RL.pickF rfl rfl rfl rfl ?_
      refine RL.assign rfl rfl rfl ?_
      refine RL.assign rfl rfl rfl ?_
      refine RL.nil ?_
      refine NX.seq ?_
      refine TR.ret ?_
      have hr : bsN kwL Op.bytesLess s 26 0 26 = z.2.1 := by rw [← hz.2.2.2, bsN_end hij]
      exact NX.ret2 () rfl rfl rfl (by rw [hr]; show Value.tuple #[_, _] = Value.tuple #[_, .bool (decide (kwL[z.2.1]? = some s))]; rw [List.getElem?_eq_none (by show 26 ≤ z.2.1; omega)]; rfl) (fun w hw => hw)
theorem isKw_spec {s : List UInt8} {M : List HP} {F : List Fact} (hkw : CellsF 0 0 (stC kwL) ∈ F) : Ctr Tryd.prog 43 [S s] M F Unit (fun _ => .bool (kwB Op.bytesLess s)) (fun _ => M) (fun _ => F) := by
  refine Ctr.body Tryd.func43 rfl rfl ?_
  refine TR.seq ?_
  refine TR.region ?_
  refine RL.assign rfl rfl rfl ?_
  refine RL.nil ?_
  refine NX.seq ?_
  refine TR.seq ?_
  refine TR.region ?_
  refine RL.sliceG rfl nc_tar81 nc_tz9 rfl rfl ?_
  refine RL.move rfl rfl rfl ?_
  refine RL.call rfl rfl Tryd.call50 rfl (bsearch_spec (s := s) hkw) (fun _ => ?_)
  refine RL.move rfl rfl rfl ?_
  refine RL.extract rfl rfl rfl rfl ?_
  refine RL.extract rfl rfl rfl rfl ?_
  refine RL.assign rfl rfl rfl ?_
  refine RL.assign rfl rfl rfl ?_
  refine RL.nil ?_
  refine NX.seq ?_
  refine TR.seq ?_
  refine TR.region ?_
  refine RL.move rfl rfl rfl ?_
  refine RL.assign rfl rfl rfl ?_
  refine RL.nil ?_
  refine NX.seq ?_
  refine TR.ret ?_
  exact NX.ret1 () rfl rfl rfl (fun w hw => hw)
end Go.Proofs.YtnolpmigiboanaaDoor

namespace Go.Proofs.YtnolpmigiboanaaDoor
open Go.GL
set_option linter.unusedVariables false
theorem nd_ti21 : tyInt Tryd.prog 21 .i32 = true := by kernel_rfl
theorem nd_ti5 : tyInt Tryd.prog 5 .u8 = true := by kernel_rfl
theorem nd_tstr9 : tyStr Tryd.prog 9 = true := by kernel_rfl
theorem extIB (l : List UInt8) (c : UInt8) (w : World) : (callFunc 66 #[S l, .int .u8 (c.toNat : Nat)]).run Tryd.prog w = .ok (.value (I (Lib.indexByte l c))) w := by
  rw [run_callFunc_extern (fn := Tryd.f66) (e := Extern.BytealgIndexByte.indexByte) Tryd.func66 (by kernel_rfl) (by kernel_rfl) (by kernel_rfl) (by kernel_rfl), Lib.run_indexByteString]
  show Result.ok (Next.value (I (Lib.indexByte l (((c.toNat : Nat) : Int).toNat.toUInt8)))) w = _
  rw [Int.toNat_natCast, show c.toNat.toUInt8 = c from by simp]
def qrZ (r : Int) : Int := if r = 34 then 0 else if r = 10 then 1 else -1
def qrL : List UInt8 := [34, 10]
theorem qr_small : ∀ n, n < 128 → Lib.indexByte qrL n.toUInt8 = qrZ (n : Nat) := by decide
theorem qr_dec : ∀ z, z < 2 → ((Utf8.decode ⟨qrL.toArray⟩ z).1 : Int) ≠ 65533 ∧ (charL (qrL.drop z)).1 = 1 := by decide
theorem qr_ge (r : Int) : (0 ≤ qrZ r) = (r = 34 ∨ r = 10) := by
  unfold qrZ
  apply propext
  split
  · exact ⟨fun _ => .inl (by assumption), fun _ => by decide⟩
  · split
    · exact ⟨fun _ => .inr (by assumption), fun _ => by decide⟩
    · constructor
      · intro h; exact absurd h (by decide)
      · rintro (h | h) <;> contradiction
theorem ixb0_spec {l : List UInt8} {c : UInt8} {M : List HP} {F : List Fact} : Ctr Tryd.prog 65 [S l, .int .u8 (c.toNat : Nat)] M F Unit (fun _ => I (Lib.indexByte l c)) (fun _ => M) (fun _ => F) := by
  refine Ctr.body Tryd.func65 rfl rfl ?_
  refine TR.seq ?_
  refine TR.region ?_
  refine RL.assign rfl rfl rfl ?_
  refine RL.nil ?_
  refine NX.seq ?_
  refine TR.seq ?_
  refine TR.region ?_
  refine RL.move rfl rfl rfl ?_
  refine RL.move rfl rfl rfl ?_
  refine RL.callX rfl rfl (extIB _ _) rfl ?_
  refine RL.assign rfl rfl rfl ?_
  refine RL.nil ?_
  refine NX.seq ?_
  refine TR.ret ?_
  exact NX.ret1 () rfl rfl rfl (fun w hw => hw)
theorem ixb_spec {l : List UInt8} {c : UInt8} {M : List HP} {F : List Fact} : Ctr Tryd.prog 61 [S l, .int .u8 (c.toNat : Nat)] M F Unit (fun _ => I (Lib.indexByte l c)) (fun _ => M) (fun _ => F) := by
  refine Ctr.body Tryd.func61 rfl rfl ?_
  refine TR.seq ?_
  refine TR.region ?_
  refine RL.assign rfl rfl rfl ?_
  refine RL.nil ?_
  refine NX.seq ?_
  refine TR.seq ?_
  refine TR.region ?_
  refine RL.move rfl rfl rfl ?_
  refine RL.move rfl rfl rfl ?_
  refine RL.call rfl rfl Tryd.call65 rfl (ixb0_spec) (fun _ => ?_)
  refine RL.assign rfl rfl rfl ?_
  refine RL.nil ?_
  refine NX.seq ?_
  refine TR.ret ?_
  exact NX.ret1 () rfl rfl rfl (fun w hw => hw)
theorem validRune_spec {r : Int} {M : List HP} {F : List Fact} : Ctr Tryd.prog 62 [.int .i32 r] M F Bool (fun b => .bool b) (fun _ => M) (fun _ => F) := by
  refine Ctr.body Tryd.func62 rfl rfl ?_
  refine TR.seq ?_
  refine TR.region ?_
  refine RL.assign rfl rfl rfl ?_
  refine RL.nil ?_
  refine NX.seq ?_
  refine TR.seq ?_
  refine TR.block ?_
  refine TR.seq ?_
  refine TR.region ?_
  refine RL.move rfl rfl rfl ?_
  refine RL.bin rfl rfl rfl BinV.leq rfl ?_
  refine RL.move rfl rfl rfl ?_
  refine RL.part (fun h1 => ?_) (fun h1 => ?_)
  · skip
    refine RL.move rfl rfl rfl ?_
    refine RL.bin rfl rfl rfl BinV.lss rfl ?_
    refine RL.pickT rfl rfl rfl rfl ?_
    refine RL.assign rfl rfl rfl ?_
    refine RL.nil ?_
    refine NX.seq ?_
    refine TR.cond rfl (fun h2 => ?_) (fun h2 => ?_)
    · skip
      refine TR.seq ?_
      refine TR.region ?_
      refine RL.assign rfl rfl rfl ?_
      refine RL.nil ?_
      refine NX.seq ?_
      refine TR.ret ?_
      refine NX.retBlock ?_
      refine NX.retThen ?_
      exact NX.ret1 _ rfl rfl rfl (fun w hw => hw)
    · skip
      refine TR.seq ?_
      refine TR.region ?_
      refine RL.move rfl rfl rfl ?_
      refine RL.bin rfl rfl rfl BinV.lss rfl ?_
      refine RL.move rfl rfl rfl ?_
      refine RL.part (fun h3 => ?_) (fun h3 => ?_)
      · skip
        refine RL.move rfl rfl rfl ?_
        refine RL.bin rfl rfl rfl BinV.leq rfl ?_
        refine RL.pickT rfl rfl rfl rfl ?_
        refine RL.assign rfl rfl rfl ?_
        refine RL.nil ?_
        refine NX.seq ?_
        refine TR.cond rfl (fun h4 => ?_) (fun h4 => ?_)
        · skip
          refine TR.seq ?_
          refine TR.region ?_
          refine RL.assign rfl rfl rfl ?_
          refine RL.nil ?_
          refine NX.seq ?_
          refine TR.ret ?_
          refine NX.retBlock ?_
          refine NX.retThen ?_
          exact NX.ret1 _ rfl rfl rfl (fun w hw => hw)
        · skip
          refine TR.skip ?_
          refine NX.off ?_
          refine NX.seq ?_
          refine TR.seq ?_
          refine TR.region ?_
          refine RL.assign rfl rfl rfl ?_
          refine RL.nil ?_
          refine NX.seq ?_
          refine TR.ret ?_
          exact NX.ret1 _ rfl rfl rfl (fun w hw => hw)
      · skip
        refine RL.skip rfl rfl rfl ?_
        refine RL.skip rfl rfl rfl ?_
        refine RL.pickF rfl rfl rfl rfl ?_
        refine RL.assign rfl rfl rfl ?_
        refine RL.nil ?_
        refine NX.seq ?_
        refine TR.condF rfl ?_
        refine TR.skip ?_
        refine NX.off ?_
        refine NX.seq ?_
        refine TR.seq ?_
        refine TR.region ?_
        refine RL.assign rfl rfl rfl ?_
        refine RL.nil ?_
        refine NX.seq ?_
        refine TR.ret ?_
        exact NX.ret1 _ rfl rfl rfl (fun w hw => hw)
  · skip
    refine RL.skip rfl rfl rfl ?_
    refine RL.skip rfl rfl rfl ?_
    refine RL.pickF rfl rfl rfl rfl ?_
    refine RL.assign rfl rfl rfl ?_
    refine RL.nil ?_
    refine NX.seq ?_
    refine TR.condF rfl ?_
    refine TR.seq ?_
    refine TR.region ?_
    refine RL.move rfl rfl rfl ?_
    refine RL.bin rfl rfl rfl BinV.lss rfl ?_
    refine RL.move rfl rfl rfl ?_
    refine RL.part (fun h5 => ?_) (fun h5 => ?_)
    · skip
      refine RL.move rfl rfl rfl ?_
      refine RL.bin rfl rfl rfl BinV.leq rfl ?_
      refine RL.pickT rfl rfl rfl rfl ?_
      refine RL.assign rfl rfl rfl ?_
      refine RL.nil ?_
      refine NX.seq ?_
      refine TR.cond rfl (fun h6 => ?_) (fun h6 => ?_)
      · skip
        refine TR.seq ?_
        refine TR.region ?_
        refine RL.assign rfl rfl rfl ?_
        refine RL.nil ?_
        refine NX.seq ?_
        refine TR.ret ?_
        refine NX.retBlock ?_
        refine NX.retThen ?_
        exact NX.ret1 _ rfl rfl rfl (fun w hw => hw)
      · skip
        refine TR.skip ?_
        refine NX.off ?_
        refine NX.seq ?_
        refine TR.seq ?_
        refine TR.region ?_
        refine RL.assign rfl rfl rfl ?_
        refine RL.nil ?_
        refine NX.seq ?_
        refine TR.ret ?_
        exact NX.ret1 _ rfl rfl rfl (fun w hw => hw)
    · skip
      refine RL.skip rfl rfl rfl ?_
      refine RL.skip rfl rfl rfl ?_
      refine RL.pickF rfl rfl rfl rfl ?_
      refine RL.assign rfl rfl rfl ?_
      refine RL.nil ?_
      refine NX.seq ?_
      refine TR.condF rfl ?_
      refine TR.skip ?_
      refine NX.off ?_
      refine NX.seq ?_
      refine TR.seq ?_
      refine TR.region ?_
      refine RL.assign rfl rfl rfl ?_
      refine RL.nil ?_
      refine NX.seq ?_
      refine TR.ret ?_
      exact NX.ret1 _ rfl rfl rfl (fun w hw => hw)
set_option maxHeartbeats 1000000 in
theorem indexRune_spec {r : Int} {M : List HP} {F : List Fact} (h0 : 0 ≤ r) (h1 : r ≤ 2147483647) : Ctr Tryd.prog 55 [S qrL, .int .i32 r] M F Unit (fun _ => I (qrZ r)) (fun _ => M) (fun _ => F) := by
  refine Ctr.body Tryd.func55 rfl rfl ?_
  refine TR.seq ?_
  refine TR.region ?_
  refine RL.assign rfl rfl rfl ?_
  refine RL.nil ?_
  refine NX.seq ?_
  refine TR.block ?_
  refine TR.seq ?_
  refine TR.region ?_
  refine RL.move rfl rfl rfl ?_
  refine RL.bin rfl rfl rfl (BinV.to (d := true) BinV.leq (decide_eq_true h0)) rfl ?_
  refine RL.move rfl rfl rfl ?_
  refine RL.move rfl rfl rfl ?_
  refine RL.bin rfl rfl rfl BinV.lss rfl ?_
  refine RL.pickT rfl rfl rfl rfl ?_
  refine RL.assign rfl rfl rfl ?_
  refine RL.nil ?_
  refine NX.seq ?_
  refine TR.cond rfl (fun h1 => ?_) (fun h1 => ?_)
  · skip
    have h128 := of_decide_eq_true h1
    obtain ⟨n, rfl⟩ := Int.eq_ofNat_of_zero_le h0
    have hn : n < 128 := by omega
    have hcv : (.int .u8 (IntKind.u8.wrap (n : Nat)) : Value) = .int .u8 ((n.toUInt8).toNat : Nat) := by rw [wrap_u8, show (n.toUInt8).toNat = n % 256 from by simp]
    refine TR.seq ?_
    refine TR.region ?_
    refine RL.move rfl rfl rfl ?_
    refine RL.move rfl rfl rfl ?_
    refine RL.conv rfl rfl ((ConvV.int nd_ti21 nd_ti5).to (v'' := .int .u8 ((n.toUInt8).toNat : Nat)) hcv) rfl ?_
    refine RL.call rfl rfl Tryd.call61 rfl (ixb_spec (l := qrL) (c := n.toUInt8)) (fun _ => ?_)
    refine RL.assign rfl rfl rfl ?_
    refine RL.nil ?_
    refine NX.seq ?_
    refine TR.ret ?_
    refine NX.retBlock ?_
    exact NX.ret1 () rfl rfl (congrArg I (qr_small n hn)) (fun w hw => hw)
  · skip
    have h128 := of_decide_eq_false h1
    have hE := encL_high (n := r) (by omega)
    refine TR.seq ?_
    refine TR.region ?_
    refine RL.move rfl rfl rfl ?_
    refine RL.bin rfl rfl rfl BinV.eql rfl ?_
    refine RL.assign rfl rfl rfl ?_
    refine RL.nil ?_
    refine NX.seq ?_
    refine TR.cond rfl (fun h2 => ?_) (fun h2 => ?_)
    · skip
      refine TR.seq ?_
      refine TR.seq ?_
      refine TR.region ?_
      refine RL.move rfl rfl rfl ?_
      refine RL.ofGV rfl rfl (GV.rangeS nd_tstr9 rfl) (fun it => ?_)
      refine RL.nil ?_
      refine NX.seq ?_
      refine TR.block ?_
      refine TR.loopP (ι := Nat) (fun z => z ≤ 2) (fun z => [(1, .int .i32 r), (175, .pointer (some ⟨it, 0, none⟩))]) (fun z => Pts it (.stringIter ⟨qrL.toArray⟩ z) :: M) (fun z => F) (fun z => (2 - z)) 0 (Nat.zero_le _) ⟨rfl, rfl, trivial⟩ (fun w hw => (hw.to 1 [0] 0 [] rfl)) (fun z hz => ?_)
      refine TR.seq ?_
      refine TR.region ?_
      rcases Nat.lt_or_ge z 2 with hk | hk
      · skip
        refine RL.ofGV rfl rfl (GV.nextOn 0 rfl rfl hk) (fun _ => ?_)
        refine RL.extract rfl rfl rfl rfl ?_
        refine RL.nil ?_
        refine NX.seq ?_
        refine TR.seq ?_
        refine TR.condT rfl ?_
        refine TR.skip ?_
        refine NX.seq ?_
        refine TR.block ?_
        refine TR.seq ?_
        refine TR.region ?_
        refine RL.extract rfl rfl rfl rfl ?_
        refine RL.extract rfl rfl rfl rfl ?_
        refine RL.assign rfl rfl rfl ?_
        refine RL.assign rfl rfl rfl ?_
        refine RL.nil ?_
        refine NX.seq ?_
        refine TR.seq ?_
        refine TR.region ?_
        refine RL.move rfl rfl rfl ?_
        refine RL.bin rfl rfl rfl (BinV.to (d := false) BinV.eql (decide_eq_false (qr_dec z hk).1)) rfl ?_
        refine RL.nil ?_
        refine NX.seq ?_
        refine TR.condF rfl ?_
        refine TR.skip ?_
        refine NX.off ?_
        refine NX.roundP (z + 1) (by omega) (by omega) ⟨rfl, rfl, trivial⟩ (fun w hw => (by have h9 := (hw.to 1 [0] 0 [] rfl); rw [(qr_dec z hk).2] at h9; exact h9))
      · skip
        refine RL.ofGV rfl rfl (GV.nextEnd 0 rfl rfl (by show ¬ z < 2; omega)) (fun _ => ?_)
        refine RL.extract rfl rfl rfl rfl ?_
        refine RL.nil ?_
        refine NX.seq ?_
        refine TR.seq ?_
        refine TR.condF rfl ?_
        refine TR.exit ?_
        refine NX.exitThen ?_
        refine NX.exitThen ?_
        refine NX.exitHere ?_
        refine NX.seq ?_
        refine TR.seq ?_
        refine TR.region ?_
        refine RL.assign rfl rfl rfl ?_
        refine RL.nil ?_
        refine NX.seq ?_
        refine TR.ret ?_
        refine NX.retBlock ?_
        exact NX.ret1 () rfl rfl (congrArg I (show (-1 : Int) = qrZ r from by unfold qrZ; rw [if_neg (by omega), if_neg (by omega)])) (fun w hw => (hw.to 1 [] 0 [] rfl))
    · skip
      refine TR.seq ?_
      refine TR.region ?_
      refine RL.move rfl rfl rfl ?_
      refine RL.call rfl rfl Tryd.call62 rfl (validRune_spec) (fun vb => ?_)
      refine RL.not rfl rfl rfl ?_
      refine RL.assign rfl rfl rfl ?_
      refine RL.nil ?_
      refine NX.seq ?_
      refine TR.cond rfl (fun h3 => ?_) (fun h3 => ?_)
      · skip
        refine TR.seq ?_
        refine TR.region ?_
        refine RL.assign rfl rfl rfl ?_
        refine RL.nil ?_
        refine NX.seq ?_
        refine TR.ret ?_
        refine NX.retBlock ?_
        exact NX.ret1 () rfl rfl (congrArg I (show (-1 : Int) = qrZ r from by unfold qrZ; rw [if_neg (by omega), if_neg (by omega)])) (fun w hw => (hw.to 0 [] 0 [] rfl))
      · skip
        refine TR.scope ?_
        refine TR.seq ?_
        refine TR.region ?_
        refine RL.move rfl rfl rfl ?_
        refine RL.conv rfl rfl (ConvV.runeS (k := .i32) nd_ti21 nd_tstr9) rfl ?_
        refine RL.assign rfl rfl rfl ?_
        refine RL.nil ?_
        refine NX.seq ?_
        refine TR.seq ?_
        refine TR.region ?_
        refine RL.move rfl rfl rfl ?_
        refine RL.lenStr rfl nd_tstr9 rfl rfl ?_
        refine RL.bin rfl rfl rfl (BinV.sub (((encL r).length - 1 : Nat) : Int) (by omega) (by omega) (by omega)) rfl ?_
        refine RL.assign rfl rfl rfl ?_
        refine RL.nil ?_
        refine NX.seq ?_
        refine TR.seq ?_
        refine TR.region ?_
        refine RL.move rfl rfl rfl ?_
        refine RL.assign rfl rfl rfl ?_
        refine RL.nil ?_
        refine NX.seq ?_
        refine TR.seq ?_
        refine TR.region ?_
        refine RL.assign rfl rfl rfl ?_
        refine RL.nil ?_
        refine NX.seq ?_
        refine TR.seq ?_
        refine TR.block ?_
        refine TR.loopP (ι := Unit) (fun u => True) (fun u => [(0, S qrL), (1, .int .i32 r), (7, S (encL r)), (8, I ((encL r).length - 1 : Nat)), (9, I ((encL r).length - 1 : Nat)), (10, I 0)]) (fun u => M) (fun u => F) (fun u => 0) () trivial ⟨rfl, rfl, rfl, rfl, rfl, rfl, trivial⟩ (fun w hw => (hw.to 0 [] 0 [] rfl)) (fun u hu => ?_)
        refine TR.seq ?_
        refine TR.seq ?_
        refine TR.region ?_
        refine RL.move rfl rfl rfl ?_
        refine RL.move rfl rfl rfl ?_
        refine RL.lenStr rfl nd_tstr9 rfl rfl ?_
        refine RL.bin rfl rfl rfl BinV.lss rfl ?_
        refine RL.nil ?_
        refine NX.seq ?_
        refine TR.cond rfl (fun h4 => ?_) (fun h4 => ?_)
        · skip
          have hq2 : qrL.length = 2 := rfl
          have hl2 : (encL r).length = 2 := by have := of_decide_eq_true h4; omega
          obtain ⟨hE1, hE2, b, hE3, hE4⟩ := hE
          have hu1 : qrL[((((encL r).length - 1 : Nat) : Int)).toNat]? = some 10 := by rw [hl2]; rfl
          have hu2 : (encL r)[((((encL r).length - 1 : Nat) : Int)).toNat]? = some b := by rw [Int.toNat_natCast]; exact hE3
          have hdr : qrL.drop ((((encL r).length - 1 + 1 : Nat) : Int)).toNat = [] := by rw [hl2]; rfl
          refine TR.skip ?_
          refine NX.seq ?_
          refine TR.block ?_
          refine TR.scope ?_
          refine TR.seq ?_
          refine TR.seq ?_
          refine TR.sub (E' := [(0, _), (1, _), (7, _), (8, _), (9, _), (10, _), (23, _), (24, _), (25, _), (26, _)]) ⟨rfl, rfl, rfl, rfl, rfl, rfl, rfl, rfl, rfl, rfl, trivial⟩ ?_
          refine TR.draw mixed ?_
          apply AR.more [(0, _), (1, _), (2, _), (3, _), (4, _), (5, _), (6, .bool true)]
          refine AR.last [0, 1, 2, 3, 4, 5, 6] [0, 1, 2, 3, 4, 5, 6] ⟨QOne.yes rfl rfl rfl (PV.move rfl), QOne.yes rfl rfl rfl (PV.move rfl), QOne.yes rfl rfl rfl (PV.indexS (u := 10) nd_tstr9 rfl rfl (by omega) hu1), QOne.yes rfl rfl rfl (PV.move rfl), QOne.yes rfl rfl rfl (PV.move rfl), QOne.yes rfl rfl rfl (PV.indexS (u := b) nd_tstr9 rfl rfl (by omega) hu2), QOne.yes rfl rfl rfl (PV.bin rfl rfl (BinV.to (d := true) BinV.neq (decide_eq_true (by have h9 : (UInt8.toNat 10 : Nat) = 10 := rfl; omega)))), trivial⟩ rfl rfl rfl ?_
          refine NX.sub (E' := [(0, _), (1, _), (7, _), (8, _), (9, _), (10, _), (23, _), (24, _), (25, _), (26, _), (27, _), (28, _), (29, _), (30, _), (31, _), (32, _), (33, _)]) ⟨rfl, rfl, rfl, rfl, rfl, rfl, rfl, rfl, rfl, rfl, rfl, rfl, rfl, rfl, rfl, rfl, rfl, trivial⟩ ?_
          refine NX.seq ?_
          refine TR.condT rfl ?_
          refine TR.seq ?_
          refine TR.sub (E' := [(0, _), (1, _), (7, _), (8, _), (9, _), (10, _), (23, _), (24, _), (25, _), (26, _), (27, _), (28, _), (29, _), (30, _), (31, _), (32, _), (33, _)]) ⟨rfl, rfl, rfl, rfl, rfl, rfl, rfl, rfl, rfl, rfl, rfl, rfl, rfl, rfl, rfl, rfl, rfl, trivial⟩ ?_
          refine TR.draw mixed ?_
          apply AR.more [(0, _), (1, _), (2, _), (3, _), (4, _), (5, _), (6, _)]
          refine AR.eff [0, 1, 2, 3, 4, 5, 6] 7 [0, 1, 2, 3, 4, 5, 6, 7, 8] ⟨QOne.yes rfl rfl rfl (PV.move rfl), QOne.yes rfl rfl rfl (PV.move rfl), QOne.yes rfl rfl rfl (PV.bin rfl rfl (BinV.add (((encL r).length - 1 + 1 : Nat) : Int) (by omega) (by omega) (by omega))), QOne.yes rfl rfl rfl (PV.sliceSfrom nd_tstr9 rfl rfl (by omega) (by show (((encL r).length - 1 + 1 : Nat) : Int) ≤ ((2 : Nat) : Int); omega)), QOne.yes rfl rfl rfl (PV.move rfl), QOne.yes rfl rfl rfl (PV.move rfl), QOne.yes rfl rfl rfl (PV.indexS (u := b) nd_tstr9 rfl rfl (by omega) hu2), trivial⟩ rfl rfl rfl rfl rfl rfl rfl (EV.call rfl Tryd.call61 (ixb_spec (l := qrL.drop ((((encL r).length - 1 + 1 : Nat) : Int)).toNat) (c := b))) (fun _ => ?_)
          refine AR.done [3, 6, 4, 5, 0, 2, 1] rfl ?_
          apply AR.more [(8, _)]
          refine AR.last [8] [0, 1, 2, 3, 4, 5, 6, 7, 8] ⟨QOne.yes rfl rfl rfl (PV.assign rfl), trivial⟩ rfl rfl rfl ?_
          refine NX.sub (E' := [(0, _), (1, _), (7, _), (8, _), (9, _), (10, _), (11, _), (23, _), (24, _), (25, _), (26, _), (27, _), (28, _), (29, _), (30, _), (31, _), (32, _), (33, _), (34, _), (35, _), (36, _), (37, _), (38, _), (39, _), (40, _), (41, _)]) ⟨rfl, rfl, rfl, rfl, rfl, rfl, rfl, rfl, rfl, rfl, rfl, rfl, rfl, rfl, rfl, rfl, rfl, rfl, rfl, rfl, rfl, rfl, rfl, rfl, rfl, rfl, trivial⟩ ?_
          refine NX.seq ?_
          refine TR.seq ?_
          refine TR.seq ?_
          refine TR.region ?_
          refine RL.move rfl rfl rfl ?_
          refine RL.bin rfl rfl rfl (BinV.to (d := true) BinV.lss (decide_eq_true (by rw [hdr]; show (-1 : Int) < 0; decide))) rfl ?_
          refine RL.nil ?_
          refine NX.seq ?_
          refine TR.condT rfl ?_
          refine TR.seq ?_
          refine TR.region ?_
          refine RL.assign rfl rfl rfl ?_
          refine RL.nil ?_
          refine NX.seq ?_
          refine TR.ret ?_
          refine NX.retThen ?_
          refine NX.retThen ?_
          refine NX.scopeR ?_
          refine NX.retBlock ?_
          refine NX.retThen ?_
          refine NX.retBlock ?_
          refine NX.retThen ?_
          refine NX.scopeR ?_
          refine NX.retBlock ?_
          exact NX.ret1 () rfl rfl (congrArg I (show (-1 : Int) = qrZ r from by unfold qrZ; rw [if_neg (by omega), if_neg (by omega)])) (fun w hw => (hw.to 0 [] 0 [] rfl))
        · skip
          refine TR.exit ?_
          refine NX.exitThen ?_
          refine NX.exitThen ?_
          refine NX.exitHere ?_
          refine NX.seq ?_
          refine TR.seq ?_
          refine TR.seq ?_
          refine TR.region ?_
          refine RL.assign rfl rfl rfl ?_
          refine RL.nil ?_
          refine NX.seq ?_
          refine TR.ret ?_
          refine NX.retThen ?_
          refine NX.scopeR ?_
          refine NX.retBlock ?_
          exact NX.ret1 () rfl rfl (congrArg I (show (-1 : Int) = qrZ r from by unfold qrZ; rw [if_neg (by omega), if_neg (by omega)])) (fun w hw => (hw.to 0 [] 0 [] rfl))
end Go.Proofs.YtnolpmigiboanaaDoor

namespace Go.GL
open Tree
set_option linter.unusedVariables false
def lfT (t : Tk) : Tree := .node 0 (t.k : Nat) t.x []
theorem lfT_leaf {t : Tk} (h : t.k ≤ 8) : (lfT t).isLeaf = true := by
  unfold lfT Tree.isLeaf Tree.kind
  simp only [Bool.and_eq_true, decide_eq_true_eq]
  omega
theorem lfT_lv {t : Tk} (h : t.k ≤ 8) : (lfT t).lv = [lfT t] := by rw [lv_eq, if_pos (lfT_leaf h)]; rfl
theorem lfT_pre (t : Tk) : (lfT t).pre = [lfT t] := by rw [Tree.pre_eq]; rfl
theorem inn_lv {k : Int} {ks : List Tree} (h : 8 < k) : (Tree.node 0 k [] ks).lv = ks.flatMap lv := by
  rw [lv_inner]; rfl
  unfold Tree.isLeaf Tree.kind
  simp only [Bool.and_eq_false_iff, decide_eq_false_iff_not]
  right; omega
theorem inn_pre {k : Int} {ks : List Tree} : (Tree.node 0 k [] ks).pre.length = (preAll ks).length + 1 := by rw [Tree.pre_eq]; rfl
theorem preAll_snoc (ks : List Tree) (t : Tree) : (preAll (ks ++ [t])).length = (preAll ks).length + t.pre.length := by
  rw [Tree.preAll_append, List.length_append]
  simp [preAll]
theorem lv_snoc (ks : List Tree) (t : Tree) : (ks ++ [t]).flatMap lv = ks.flatMap lv ++ t.lv := by rw [List.flatMap_append]; simp
theorem take_lf {T : List Tk} {i k : Nat} {t : Tk} (h : T[i + k]? = some t) : ((T.drop i).take (k + 1)).map lfT = ((T.drop i).take k).map lfT ++ [lfT t] := by
  rw [List.take_add_one, List.getElem?_drop, h, List.map_append]; rfl
theorem take_grp (T : List Tk) (i k : Nat) : (T.take (i + k)).map lfT = (T.take i).map lfT ++ ((T.drop i).take k).map lfT := by
  rw [← List.map_append, List.take_add]
theorem tkC_at : ∀ {l : List Tk} {i : Nat} {t : Tk}, l[i]? = some t → (tkC l)[i * 3]? = some (I (t.k : Nat)) ∧ (tkC l)[i * 3 + 1]? = some (S t.x) ∧ (tkC l)[i * 3 + 2]? = some (I (t.at_ : Nat))
  | a :: l, 0, t, h => by simp at h; subst h; exact ⟨rfl, rfl, rfl⟩
  | a :: l, i + 1, t, h => by
    obtain ⟨h1, h2, h3⟩ := tkC_at (l := l) (i := i) (t := t) (by simpa using h)
    rw [show (i + 1) * 3 = i * 3 + 3 from by omega, show i * 3 + 3 + 1 = (i * 3 + 1) + 3 from by omega, show i * 3 + 3 + 2 = (i * 3 + 2) + 3 from by omega]
    exact ⟨by simpa [tkC] using h1, by simpa [tkC] using h2, by simpa [tkC] using h3⟩
theorem tkC_ne {l : List Tk} {i : Nat} {t : Tk} (h : l[i]? = some t) : tkC l ≠ [] := by
  cases l with
  | nil => simp at h
  | cons a l => simp [tkC]
theorem toks_tk : ∀ (T : List Tk) (q : Nat), (∀ (i : Nat) t, T[i]? = some t → t.at_ = q + ((T.take i).flatMap Tk.x).length) → toks q (T.map lfT) = tkC T
  | [], q, _ => rfl
  | a :: T, q, h => by
    have h0 := h 0 a rfl
    have e0 : a.at_ = q := by simpa using h0
    rw [List.map_cons, toks, tkC, show (lfT a).txt.length = a.x.length from rfl, toks_tk T (q + a.x.length) fun i t ht => by
      have := h (i + 1) t (by simpa using ht)
      rw [List.take_succ_cons, List.flatMap_cons, List.length_append] at this
      omega]
    rw [e0]; rfl
theorem lf_text (T : List Tk) : (T.map lfT).flatMap Tree.txt = T.flatMap Tk.x := by
  induction T with
  | nil => rfl
  | cons a T ih => rw [List.map_cons, List.flatMap_cons, List.flatMap_cons, ih]; rfl
end Go.GL

namespace Go.Proofs.YtnolpmigiboanaaDoor
open Go.GL Go.GL.Tree
set_option linter.unusedVariables false
theorem td_bs26_1_0 (x00 : Int) (x01 : List UInt8) (x02 : Int) : BuildSV Tryd.prog 26 42 1 [(0, .agg #[.int .i64 x00, S x01, .int .i64 x02])] [.int .i64 x00, S x01, .int .i64 x02] := fun w => by kernel_rfl
theorem td_bv42_0_1_2 (x0 : Int) (x1 : List UInt8) (x2 : Int) : BuildV Tryd.prog 42 [(0, .int .i64 x0), (1, S x1), (2, .int .i64 x2)] (.agg #[.int .i64 x0, S x1, .int .i64 x2]) := fun w => by kernel_rfl
theorem td_ni26 : noInt Tryd.prog 26 = true := by kernel_rfl
theorem td_ta30 : tyAgg Tryd.prog 30 4 = true := by kernel_rfl
theorem td_te42 : tyElem Tryd.prog 42 3 32 = true := by kernel_rfl
theorem td_tf30_1 : fieldOff Tryd.prog 30 1 1 = true := by kernel_rfl
theorem td_tf30_2 : fieldOff Tryd.prog 30 2 2 = true := by kernel_rfl
theorem td_tl26 : tySlice Tryd.prog 26 42 = true := by kernel_rfl
theorem td_ts26 : tyScalar Tryd.prog 26 = true := by kernel_rfl
theorem td_ts3 : tyScalar Tryd.prog 3 = true := by kernel_rfl
theorem td_ts9 : tyScalar Tryd.prog 9 = true := by kernel_rfl
theorem td_tstr9 : tyStr Tryd.prog 9 = true := by kernel_rfl
theorem td_tz30 : tySize Tryd.prog 30 4 = true := by kernel_rfl
theorem pre_bounds2 {t : Tree} (hwb : t.width ≤ 524288) (hcb : t.pre.length ≤ 65536) {pre suf : List Tree} {x : Tree} (hx : t.pre = pre ++ x :: suf) (hl : (decide (0 ≤ x.kind) && decide (x.kind ≤ 8)) = true) :
    ((pre.filter isLeaf).flatMap Tree.txt).length + x.txt.length ≤ 524288 ∧ (pre.filter isLeaf).length + 1 ≤ 65536 := by
  have h3 : (textOf t.pre).length ≤ 524288 := hwb
  rw [textOf_parts hx, leafText_T hl, textOf_filter] at h3
  rw [hx, List.length_append, List.length_cons] at hcb
  have h4 := List.length_filter_le isLeaf pre
  omega
theorem leavesB_spec {t : Tree} {a : Option Addr} {len cap : Nat} {M : List HP} {F : List Fact} (hwb : t.width ≤ 524288) (hcb : t.pre.length ≤ 65536) (ht : TreeF t (nodeV t a len cap) ∈ F) : Ctr Tryd.prog 10 [nodeV t a len cap] M F (Option Addr × Nat) (fun i => .slice i.1 t.lv.length i.2) (fun _ => M) (fun i => ArrF i.1 (toks 0 t.lv) :: F) := by
  refine Ctr.bodyM Tryd.func10 rfl rfl ?_
  refine TR.seq ?_
  refine TR.region ?_
  refine RL.boxA rfl rfl rfl (fun b1 => ?_)
  refine RL.assign rfl rfl rfl ?_
  refine RL.nil ?_
  refine NX.seq ?_
  refine TR.seq ?_
  refine TR.region ?_
  refine RL.alloc1 rfl (Tryd.zeroValue26) rfl rfl (fun b2 => ?_)
  refine RL.weak (fun w hw => St.lfNew (e := 42) hw) ?_
  refine RL.nil ?_
  refine NX.seq ?_
  refine TR.seq ?_
  refine TR.region ?_
  refine RL.alloc1 rfl (Tryd.zeroValue3) rfl rfl (fun b3 => ?_)
  refine RL.store1 0 rfl td_ts3 rfl rfl rfl rfl rfl ?_
  refine RL.nil ?_
  refine NX.seq ?_
  refine TR.seq ?_
  refine TR.seq ?_
  refine TR.region ?_
  refine RL.loadA 2 rfl rfl rfl td_ta30 rfl ?_
  refine RL.call rfl rfl Tryd.call15 rfl (all_spec (nodeC t a len cap) _ _) (fun bc => ?_)
  refine RL.nil ?_
  refine NX.seq ?_
  refine TR.block ?_
  refine TR.rangeFunc (κ := Nat × Option Addr × Nat) (xs := t.pre) rfl Tryd.call30 (by simp) nodeEnc_len (all_iter (.tail _ ht) (.head _)) (fun pre => [Lf 26 42 b2 (pre.filter isLeaf), Box b3 3 [I ((pre.filter isLeaf).flatMap Tree.txt).length]]) (Box b1 30 (nodeC t a len cap) :: M) (fun w hw => hw.swap) (fun pre x args b => [(3, .pointer (some ⟨b2, 0, none⟩)), (4, .pointer (some ⟨b3, 0, none⟩)), (5, .pointer (some ⟨b.1, 0, none⟩))]) (fun pre x args b => [Box b.1 30 (argCells args), Box b2 26 [.slice b.2.1 (pre.filter isLeaf).length b.2.2], OwnSl 42 3 b.2.1 (pre.filter isLeaf).length b.2.2 (toks 0 (pre.filter isLeaf)), Box b3 3 [I ((pre.filter isLeaf).flatMap Tree.txt).length]]) ?as0 ?bd0 ?ki0
  case as0 =>
    intro l pre x suf args hx he Mi G hG
    obtain ⟨a2, len2, cap2, rfl⟩ := he
    refine TR.region ?_
    refine RL.open (fun w hw => St.exOpen hw) (fun i0 => ?_)
    refine RL.allocA rfl (Tryd.zeroValue30) rfl (fun b4 => ?_)
    refine RL.storeA 0 rfl rfl rfl rfl td_tz30 rfl rfl ?_
    refine RL.nil ?_
    exact NX.meet (b4, i0.1, i0.2) ⟨rfl, rfl, rfl, trivial⟩ (fun w hw => hw)
  case bd0 =>
    intro l pre x suf args i hx he Mi G hG
    obtain ⟨a2, len2, cap2, rfl⟩ := he
    have hpre := pre_bounds2 hwb hcb hx
    refine TR.block ?_
    refine TR.seq ?_
    refine TR.region ?_
    refine RL.loadA 0 rfl rfl rfl td_ta30 rfl ?_
    refine RL.call rfl rfl Tryd.call16 rfl (leaf_spec x.id x.kind x.txt a2 len2 cap2 _ _) (fun _ => ?_)
    refine RL.nil ?_
    refine NX.seq ?_
    refine TR.cond rfl (fun h5 => ?_) (fun h5 => ?_)
    · skip
      have hlf := h5
      have hpre2 := hpre hlf
      refine TR.seq ?_
      refine TR.region ?_
      refine RL.load1 1 rfl td_ts26 rfl rfl rfl rfl ?_
      refine RL.fieldAddr rfl td_tf30_1 rfl rfl ?_
      refine RL.load1 0 rfl td_ts3 rfl rfl rfl rfl ?_
      refine RL.fieldAddr rfl td_tf30_2 rfl rfl ?_
      refine RL.load1 0 rfl td_ts9 rfl rfl rfl rfl ?_
      refine RL.load1 3 rfl td_ts3 rfl rfl rfl rfl ?_
      refine RL.build rfl rfl (td_bv42_0_1_2 _ _ _) rfl ?_
      refine RL.buildSlice rfl rfl (td_bs26_1_0 _ _ _) rfl (fun b6 => ?_)
      refine RL.ofGV rfl rfl (GV.append (j := 3) td_tl26 td_ni26 td_te42 rfl rfl rfl (src_box (i := 0) rfl rfl rfl) (by omega) (by omega)) (fun y => ?_)
      refine RL.store1 2 rfl td_ts26 rfl rfl rfl rfl rfl ?_
      refine RL.nil ?_
      refine NX.seq ?_
      refine TR.region ?_
      refine RL.load1 4 rfl td_ts3 rfl rfl rfl rfl ?_
      refine RL.fieldAddr rfl td_tf30_2 rfl rfl ?_
      refine RL.load1 1 rfl td_ts9 rfl rfl rfl rfl ?_
      refine RL.lenStr rfl td_tstr9 rfl rfl ?_
      refine RL.bin rfl rfl rfl (BinV.add _ rfl (by omega) (by omega)) rfl ?_
      refine RL.store1 4 rfl td_ts3 rfl rfl rfl rfl rfl ?_
      refine RL.nil ?_
      refine NX.off ?_
      exact fun aa w _ hw => by
        have h9 := (hw.drop 0 rfl).drop 0 rfl
        have h8 : St w (Lf 26 42 b2 ((pre ++ [x]).filter isLeaf) :: Box b3 3 [I ((pre ++ [x]).filter isLeaf |>.flatMap Tree.txt).length] :: Mi) G := St.exClose (y.1, y.2) (by rw [filter_T hlf, List.length_append, toks_snoc, List.flatMap_append, List.length_append, flat1]; exact h9)
        exact h8
    · skip
      have hlf := h5
      refine TR.skip ?_
      refine NX.off ?_
      exact fun aa w _ hw => by
        have h9 := hw.drop 0 rfl
        have h8 : St w (Lf 26 42 b2 ((pre ++ [x]).filter isLeaf) :: Box b3 3 [I ((pre ++ [x]).filter isLeaf |>.flatMap Tree.txt).length] :: Mi) G := St.exClose (i.2.1, i.2.2) (by rw [filter_F hlf]; exact h9)
        exact h8
  case ki0 =>
    intro D
    refine NX.off ?_
    refine NX.seq ?_
    refine TR.seq ?_
    refine TR.region ?_
    refine RL.open (fun w hw => St.exOpen hw.swap) (fun i0 => ?_)
    refine RL.load1 0 rfl td_ts26 rfl rfl rfl rfl ?_
    refine RL.assign rfl rfl rfl ?_
    refine RL.nil ?_
    refine NX.seq ?_
    refine TR.ret ?_
    refine NX.retM 2 (i0.1, i0.2) rfl rfl rfl rfl (fun w hw => ?_)
    exact (((hw.drop 0 rfl).keepSl.drop 0 rfl).drop 0 rfl).facts (fun φ h => by
      rcases List.mem_cons.1 h with e | h
      · subst e; exact .head _
      · exact .tail _ (.tail _ h))
end Go.Proofs.YtnolpmigiboanaaDoor
