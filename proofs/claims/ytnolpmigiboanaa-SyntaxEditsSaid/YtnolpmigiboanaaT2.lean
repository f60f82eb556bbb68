/- Walks of the functions of package syntax and of its reference model: trees and paths. Printed by s07_b.py. -/
import Derived.Test.YtnolpmigiboanaaSml
import Derived.Test.YtnolpmigiboanaaT1
namespace Go.Proofs.Ytnolpmigiboanaa
open Go.GL Go.GL.Tree
theorem b_bs22_1_0 (x0 : Int) : BuildSV Try.prog 22 3 1 [(0, .int .i64 x0)] [.int .i64 x0] := fun w => by kernel_rfl
theorem b_bs38_1_0 (x00 : Int) (x01 : List UInt8) (x02 : Int) : BuildSV Try.prog 38 41 1 [(0, .agg #[.int .i64 x00, S x01, .int .i64 x02])] [.int .i64 x00, S x01, .int .i64 x02] := fun w => by kernel_rfl
theorem b_bv41_0_1_2 (x0 : Int) (x1 : List UInt8) (x2 : Int) : BuildV Try.prog 41 [(0, .int .i64 x0), (1, S x1), (2, .int .i64 x2)] (.agg #[.int .i64 x0, S x1, .int .i64 x2]) := fun w => by kernel_rfl
theorem b_ni22 : noInt Try.prog 22 = true := by kernel_rfl
theorem b_ni38 : noInt Try.prog 38 = true := by kernel_rfl
theorem b_ta25 : tyAgg Try.prog 25 4 = true := by kernel_rfl
theorem b_te3 : tyElem Try.prog 3 1 8 = true := by kernel_rfl
theorem b_te41 : tyElem Try.prog 41 3 32 = true := by kernel_rfl
theorem b_tf25_1 : fieldOff Try.prog 25 1 1 = true := by kernel_rfl
theorem b_tf25_2 : fieldOff Try.prog 25 2 2 = true := by kernel_rfl
theorem b_tf25_3 : fieldOff Try.prog 25 3 3 = true := by kernel_rfl
theorem b_tf41_1 : fieldOff Try.prog 41 1 1 = true := by kernel_rfl
theorem b_tl22 : tySlice Try.prog 22 3 = true := by kernel_rfl
theorem b_tl23 : tySlice Try.prog 23 25 = true := by kernel_rfl
theorem b_tl38 : tySlice Try.prog 38 41 = true := by kernel_rfl
theorem b_ts23 : tyScalar Try.prog 23 = true := by kernel_rfl
theorem b_ts3 : tyScalar Try.prog 3 = true := by kernel_rfl
theorem b_ts9 : tyScalar Try.prog 9 = true := by kernel_rfl
theorem b_tstr9 : tyStr Try.prog 9 = true := by kernel_rfl
theorem b_tz25 : tySize Try.prog 25 4 = true := by kernel_rfl
theorem b_tz3 : tySize Try.prog 3 1 = true := by kernel_rfl
theorem b_tz41 : tySize Try.prog 41 3 = true := by kernel_rfl
theorem mixed : Try.prog.follows .mixedOrders = true := Try.checked.mixed

theorem sameInts_spec {xs ys : List Int} {oa ob : Option Addr} {ca cb : Nat} {M : List HP} {F : List Fact} (ha : ArrF oa (ints xs) ∈ F) (hb : ArrF ob (ints ys) ∈ F) (hxl : xs.length ≤ 4611686018427387904) : Ctr Try.prog 33 [.slice oa xs.length ca, .slice ob ys.length cb] M F Unit (fun _ => .bool (decide (xs = ys))) (fun _ => M) (fun _ => F) := by
  refine Ctr.body Try.func33 rfl rfl ?_
  refine TR.seq ?_
  refine TR.region ?_
  refine RL.assign rfl rfl rfl ?_
  refine RL.nil ?_
  refine NX.seq ?_
  refine TR.seq ?_
  refine TR.seq ?_
  refine TR.region ?_
  refine RL.move rfl rfl rfl ?_
  refine RL.lenSlice rfl b_tl22 rfl rfl ?_
  refine RL.move rfl rfl rfl ?_
  refine RL.lenSlice rfl b_tl22 rfl rfl ?_
  refine RL.bin rfl rfl rfl BinV.neq rfl ?_
  refine RL.nil ?_
  refine NX.seq ?_
  refine TR.cond rfl (fun h1 => ?_) (fun h1 => ?_)
  · skip
    have hlen : ¬ xs.length = ys.length := by have := of_decide_eq_true h1; omega
    refine TR.seq ?_
    refine TR.region ?_
    refine RL.assign rfl rfl rfl ?_
    refine RL.nil ?_
    refine NX.seq ?_
    refine TR.ret ?_
    refine NX.retThen ?_
    refine NX.ret1 () rfl rfl (congrArg Value.bool (Eq.symm (decide_eq_false (fun e => hlen (congrArg _ e))))) (fun w hw => hw)
  · skip
    have hlen : xs.length = ys.length := by have := of_decide_eq_false h1; omega
    refine TR.skip ?_
    refine NX.seq ?_
    refine TR.seq ?_
    refine TR.seq ?_
    refine TR.region ?_
    refine RL.assign rfl rfl rfl ?_
    refine RL.nil ?_
    refine NX.seq ?_
    refine TR.block ?_
    refine TR.loopP (ι := Nat) (fun k => k ≤ xs.length ∧ xs.take k = ys.take k) (fun k => [(0, .slice oa xs.length ca), (1, .slice ob ys.length cb), (5, I k)]) (fun _ => M) (fun _ => F) (fun k => xs.length - k) 0 ⟨Nat.zero_le _, rfl⟩ ⟨rfl, rfl, rfl, trivial⟩ (fun w hw => hw) (fun k hk => ?_)
    refine TR.seq ?_
    refine TR.seq ?_
    refine TR.region ?_
    refine RL.move rfl rfl rfl ?_
    refine RL.move rfl rfl rfl ?_
    refine RL.lenSlice rfl b_tl22 rfl rfl ?_
    refine RL.bin rfl rfl rfl BinV.lss rfl ?_
    refine RL.nil ?_
    refine NX.seq ?_
    refine TR.cond rfl (fun h2 => ?_) (fun h2 => ?_)
    · skip
      have hk1 : k < xs.length := by simpa using h2
      have hk2 : k < ys.length := by omega
      refine TR.openP (open_arr ha (ints_ne (by omega))) (fun x hx => ?_)
      refine TR.openP (open_arr (.tail _ hb) (ints_ne (by omega))) (fun y hy => ?_)
      subst hx hy
      refine TR.skip ?_
      refine NX.seq ?_
      refine TR.seq ?_
      refine TR.block ?_
      refine TR.seq ?_
      refine TR.sub (E' := [(0, _), (1, _), (5, _), (11, _), (12, _), (13, _), (14, _)]) ⟨rfl, rfl, rfl, rfl, rfl, rfl, rfl, trivial⟩ ?_
      refine TR.draw mixed ?_
      apply AR.more [(0, _), (1, _), (2, _), (3, _), (4, _), (5, _), (6, _), (7, _), (8, _)]
      refine AR.last [0, 1, 2, 3, 4, 5, 6, 7, 8] [0, 1, 2, 3, 4, 5, 6, 7, 8] ⟨QOne.yes rfl rfl rfl (PV.move rfl), QOne.yes rfl rfl rfl (PV.move rfl), QOne.yes rfl rfl rfl (PV.indexAddr b_tl22 b_tz3 rfl rfl (by omega) (by omega)), QOne.yes rfl rfl rfl (PV.loadF rfl (fun w K hF => run_loadCell1 (j := (k : Int).toNat * 1) (v := I xs[k]) (hF _ (.tail _ (.head _))) b_ts3 (by simp [hk1]))), QOne.yes rfl rfl rfl (PV.move rfl), QOne.yes rfl rfl rfl (PV.move rfl), QOne.yes rfl rfl rfl (PV.indexAddr b_tl22 b_tz3 rfl rfl (by omega) (by omega)), QOne.yes rfl rfl rfl (PV.loadF rfl (fun w K hF => run_loadCell1 (j := (k : Int).toNat * 1) (v := I ys[k]) (hF _ (.head _)) b_ts3 (by simp [hk2]))), QOne.yes rfl rfl rfl (PV.bin rfl rfl BinV.neq), trivial⟩ rfl rfl rfl ?_
      refine NX.sub (E' := [(0, _), (1, _), (5, _), (11, _), (12, _), (13, _), (14, _), (17, _), (18, _), (19, _), (20, _), (21, _), (22, _), (23, _), (24, _), (25, _)]) ⟨rfl, rfl, rfl, rfl, rfl, rfl, rfl, rfl, rfl, rfl, rfl, rfl, rfl, rfl, rfl, rfl, trivial⟩ ?_
      refine NX.seq ?_
      refine TR.cond rfl (fun h3 => ?_) (fun h3 => ?_)
      · skip
        refine TR.seq ?_
        refine TR.region ?_
        refine RL.assign rfl rfl rfl ?_
        refine RL.nil ?_
        refine NX.seq ?_
        refine TR.ret ?_
        refine NX.retBlock ?_
        refine NX.retThen ?_
        refine NX.retThen ?_
        refine NX.retBlock ?_
        refine NX.retThen ?_
        refine NX.ret1 () rfl rfl (congrArg Value.bool (Eq.symm (decide_eq_false (take_succ_ne hk1 hk2 (by simpa using h3))))) (fun w hw => ?_)
        exact hw.facts (fun φ h => .tail _ (.tail _ (h)))
      · skip
        refine TR.skip ?_
        refine NX.off ?_
        refine NX.seq ?_
        refine TR.region ?_
        refine RL.move rfl rfl rfl ?_
        refine RL.bin rfl rfl rfl (BinV.add _ rfl (by omega) (by omega)) rfl ?_
        refine RL.assign rfl rfl rfl ?_
        refine RL.nil ?_
        refine NX.roundP (k + 1) ⟨by omega, take_step hk.2 hk1 hk2 (by simpa using h3)⟩ (by omega) ⟨rfl, rfl, rfl, trivial⟩ (fun w hw => ?_)
        exact hw.facts (fun φ h => .tail _ (.tail _ (h)))
    · skip
      refine TR.exit ?_
      refine NX.exitThen ?_
      refine NX.exitThen ?_
      refine NX.exitHere ?_
      refine NX.seq ?_
      refine TR.seq ?_
      refine TR.region ?_
      refine RL.assign rfl rfl rfl ?_
      refine RL.nil ?_
      refine NX.seq ?_
      refine TR.ret ?_
      refine NX.ret1 () rfl rfl (congrArg Value.bool (Eq.symm (decide_eq_true (take_all_eq hk.2 (by simpa using h2) hlen)))) (fun w hw => hw)

theorem leaf41_spec (t : Tree) (a : Option Addr) (len cap : Nat) (M : List HP) (F : List Fact) : Ctr Try.prog 41 [nodeV t a len cap] M F Unit (fun _ => .bool t.isLeaf) (fun _ => M) (fun _ => F) := by
  refine Ctr.body Try.func41 rfl rfl ?_
  refine TR.seq ?_
  refine TR.region ?_
  refine RL.boxA rfl rfl rfl (fun b1 => ?_)
  refine RL.assign rfl rfl rfl ?_
  refine RL.nil ?_
  refine NX.seq ?_
  refine TR.seq ?_
  refine TR.region ?_
  refine RL.fieldAddr rfl b_tf25_1 rfl rfl ?_
  refine RL.load1 0 rfl b_ts3 rfl rfl rfl rfl ?_
  refine RL.bin rfl rfl rfl BinV.geq rfl ?_
  refine RL.move rfl rfl rfl ?_
  refine RL.part (fun h2 => ?_) (fun h2 => ?_)
  · skip
    refine RL.fieldAddr rfl b_tf25_1 rfl rfl ?_
    refine RL.load1 0 rfl b_ts3 rfl rfl rfl rfl ?_
    refine RL.bin rfl rfl rfl BinV.leq rfl ?_
    refine RL.pickT rfl rfl rfl rfl ?_
    refine RL.assign rfl rfl rfl ?_
    refine RL.nil ?_
    refine NX.seq ?_
    refine TR.ret ?_
    refine NX.ret1 () rfl rfl ?_ (fun w hw => hw.tail)
    simp [Tree.isLeaf, *]
  · skip
    refine RL.skip rfl rfl rfl ?_
    refine RL.skip rfl rfl rfl ?_
    refine RL.skip rfl rfl rfl ?_
    refine RL.pickF rfl rfl rfl rfl ?_
    refine RL.assign rfl rfl rfl ?_
    refine RL.nil ?_
    refine NX.seq ?_
    refine TR.ret ?_
    refine NX.ret1 () rfl rfl ?_ (fun w hw => hw.tail)
    simp [Tree.isLeaf, *]

structure LvX where
  k : Nat
  oa : Option Addr
  cap : Nat

theorem leaves_spec {d : Nat} : ∀ {t : Tree} {a : Option Addr} {len cap : Nat} {M : List HP} {F : List Fact} {q : Nat} (hs : Small d t) (hd : d ≤ 8) (ht : TreeF t (nodeV t a len cap) ∈ F) (hq : q + t.width ≤ 1152921504606846976), Ctr Try.prog 62 [nodeV t a len cap, I q] M F (Option Addr × Nat) (fun i => .tuple #[.slice i.1 t.lv.length i.2, I (q + t.width : Nat)]) (fun _ => M) (fun i => ArrF i.1 (toks q t.lv) :: F) := by
  induction d with
  | zero => intro t a len cap M F q hs hd ht hq; exact hs.elim
  | succ d leaves_spec =>
  intro t a len cap M F q hs hd ht hq
  refine Ctr.body Try.func62 rfl rfl ?_
  refine TR.seq ?_
  refine TR.region ?_
  refine RL.boxA rfl rfl rfl (fun b1 => ?_)
  refine RL.assign rfl rfl rfl ?_
  refine RL.assign rfl rfl rfl ?_
  refine RL.nil ?_
  refine NX.seq ?_
  refine TR.seq ?_
  refine TR.seq ?_
  refine TR.region ?_
  refine RL.loadA 0 rfl rfl rfl b_ta25 rfl ?_
  refine RL.call rfl rfl Try.call41 rfl (leaf41_spec t a len cap _ _) (fun _ => ?_)
  refine RL.nil ?_
  refine NX.seq ?_
  refine TR.cond rfl (fun h2 => ?_) (fun h2 => ?_)
  · skip
    have hl : t.isLeaf = true := h2
    have h88 := hs.1
    refine TR.seq ?_
    refine TR.sub (E' := [(0, _), (1, _), (2, _), (10, _), (11, _)]) ⟨rfl, rfl, rfl, rfl, rfl, trivial⟩ ?_
    refine TR.draw mixed ?_
    apply AR.more [(0, _), (1, _), (2, _), (3, _), (4, _), (5, _), (7, _), (8, _), (9, _), (10, _), (11, _)]
    refine AR.eff [0, 1, 2, 3, 4, 5, 7, 8, 9, 10, 11] 6 [0, 1, 2, 3, 4, 5, 6, 7, 8, 9, 10, 11, 12, 13] ⟨QOne.yes rfl rfl rfl (PV.fieldAddr b_tf25_1 rfl), QOne.yes rfl rfl rfl (PV.load1 0 b_ts3 rfl rfl rfl), QOne.yes rfl rfl rfl (PV.fieldAddr b_tf25_2 rfl), QOne.yes rfl rfl rfl (PV.load1 0 b_ts9 rfl rfl rfl), QOne.yes rfl rfl rfl (PV.move rfl), QOne.yes rfl rfl rfl (PV.build rfl (b_bv41_0_1_2 _ _ _)), QOne.yes rfl rfl rfl (PV.move rfl), QOne.yes rfl rfl rfl (PV.fieldAddr b_tf25_2 rfl), QOne.yes rfl rfl rfl (PV.load1 0 b_ts9 rfl rfl rfl), QOne.yes rfl rfl rfl (PV.lenStr b_tstr9 rfl), QOne.yes rfl rfl rfl (PV.bin rfl rfl (BinV.add _ rfl (by omega) (by omega))), trivial⟩ rfl rfl rfl rfl rfl rfl rfl (EV.buildSlice rfl (b_bs38_1_0 _ _ _)) (fun b3 => ?_)
    refine AR.done [5, 1, 3, 4, 2, 0] rfl ?_
    apply AR.more [(12, _), (13, _)]
    refine AR.last [7, 8, 9, 10, 11, 12, 13] [0, 1, 2, 3, 4, 5, 6, 7, 8, 9, 10, 11, 12, 13] ⟨QOne.yes rfl rfl rfl (PV.move rfl), QOne.yes rfl rfl rfl (PV.fieldAddr b_tf25_2 rfl), QOne.yes rfl rfl rfl (PV.load1 1 b_ts9 rfl rfl rfl), QOne.yes rfl rfl rfl (PV.lenStr b_tstr9 rfl), QOne.yes rfl rfl rfl (PV.bin rfl rfl (BinV.add _ rfl (by omega) (by omega))), QOne.yes rfl rfl rfl (PV.assign rfl), QOne.yes rfl rfl rfl (PV.assign rfl), trivial⟩ rfl rfl rfl ?_
    refine NX.sub (E' := [(0, _), (1, _), (2, _), (4, _), (5, _), (10, _), (11, _), (12, _), (13, _), (14, _), (15, _), (16, _), (17, _), (18, _), (19, _), (20, _), (21, _), (22, _), (23, _)]) ⟨rfl, rfl, rfl, rfl, rfl, rfl, rfl, rfl, rfl, rfl, rfl, rfl, rfl, rfl, rfl, rfl, rfl, rfl, rfl, trivial⟩ ?_
    refine NX.seq ?_
    refine TR.ret ?_
    refine NX.retThen ?_
    refine NX.ret2x rfl rfl rfl (fun w hw => ⟨(some ⟨b3, 0, none⟩, 1), ?_, ?_⟩)
    · rw [hs.lv_leaf hl, Tree.width, (hs.leaf hl).2]; rfl
    · rw [hs.lv_leaf hl]
      exact (St.boxSl (n := 1) (size := 3) rfl (by decide) hw).keepSl.tail
  · skip
    have hl : t.isLeaf = false := h2
    refine TR.open1 (open_node ht) (fun hlen => ?_)
    refine TR.skip ?_
    refine NX.seq ?_
    refine TR.seq ?_
    refine TR.region ?_
    refine RL.assign rfl rfl rfl ?_
    refine RL.nil ?_
    refine NX.seq ?_
    refine TR.seq ?_
    refine TR.seq ?_
    refine TR.region ?_
    refine RL.assign rfl rfl rfl ?_
    refine RL.nil ?_
    refine NX.seq ?_
    refine TR.block ?_
    refine TR.loopP (ι := LvX) (fun x => x.k ≤ t.kids.length) (fun x => [(1, I (q + ((t.kids.take x.k).flatMap text).length : Nat)), (2, .pointer (some ⟨b1, 0, none⟩)), (4, .slice none 0 0), (5, I 0), (6, .slice x.oa ((t.kids.take x.k).flatMap lv).length x.cap), (7, I x.k)]) (fun x => OwnSl 41 3 x.oa ((t.kids.take x.k).flatMap lv).length x.cap (toks q ((t.kids.take x.k).flatMap lv)) :: Box b1 25 (nodeC t a len cap) :: M) (fun _ => KidsOF a t.kids :: F) (fun x => t.kids.length - x.k) ⟨0, none, 0⟩ (Nat.zero_le _) ⟨rfl, rfl, rfl, rfl, rfl, rfl, trivial⟩ (fun w hw => OwnSl.nil_new 41 3 hw) (fun x hx => ?_)
    refine TR.seq ?_
    refine TR.seq ?_
    refine TR.region ?_
    refine RL.move rfl rfl rfl ?_
    refine RL.fieldAddr rfl b_tf25_3 rfl rfl ?_
    refine RL.load1 1 rfl b_ts23 rfl rfl rfl rfl ?_
    refine RL.lenSlice rfl b_tl23 rfl rfl ?_
    refine RL.bin rfl rfl rfl BinV.lss rfl ?_
    refine RL.nil ?_
    refine NX.seq ?_
    refine TR.cond rfl (fun h4 => ?_) (fun h4 => ?_)
    · skip
      have hk : x.k < t.kids.length := by have := of_decide_eq_true h4; omega
      have hb := kid_bounds hs (by omega) hl hk
      refine TR.openP (open_kid (.head _) (List.getElem?_eq_getElem hk)) (fun w0 hw0 => ?_)
      subst hw0
      refine TR.skip ?_
      refine NX.seq ?_
      refine TR.seq ?_
      refine TR.block ?_
      refine TR.seq ?_
      refine TR.region ?_
      refine RL.fieldAddr rfl b_tf25_3 rfl rfl ?_
      refine RL.load1 1 rfl b_ts23 rfl rfl rfl rfl ?_
      refine RL.move rfl rfl rfl ?_
      refine RL.indexAddr rfl b_tl23 b_tz25 rfl rfl (by omega) (by omega) rfl ?_
      refine RL.loadF rfl rfl (fun w K hF => run_loadCellsAt (hF _ (.head _)) b_ta25) rfl ?_
      refine RL.move rfl rfl rfl ?_
      refine RL.call rfl rfl Try.call62 rfl (leaves_spec (q := q + ((t.kids.take x.k).flatMap text).length) (hs.kid (List.getElem_mem hk)) (by omega) (.tail _ (.head _)) (by omega)) (fun z => ?_)
      refine RL.move rfl rfl rfl ?_
      refine RL.extract rfl rfl rfl rfl ?_
      refine RL.extract rfl rfl rfl rfl ?_
      refine RL.assign rfl rfl rfl ?_
      refine RL.assign rfl rfl rfl ?_
      refine RL.nil ?_
      refine NX.seq ?_
      refine TR.seq ?_
      refine TR.region ?_
      refine RL.move rfl rfl rfl ?_
      refine RL.move rfl rfl rfl ?_
      refine RL.ofGV rfl rfl (GV.append (j := 0) b_tl38 b_ni38 b_te41 rfl rfl rfl (src_fact (.head _) (toks_length _ _) (toks_one _ _)) (by omega) (by omega)) (fun y => ?_)
      refine RL.assign rfl rfl rfl ?_
      refine RL.nil ?_
      refine NX.seq ?_
      refine TR.region ?_
      refine RL.move rfl rfl rfl ?_
      refine RL.assign rfl rfl rfl ?_
      refine RL.nil ?_
      refine NX.off ?_
      refine NX.seq ?_
      refine TR.region ?_
      refine RL.move rfl rfl rfl ?_
      refine RL.bin rfl rfl rfl (BinV.add _ rfl (by omega) (by omega)) rfl ?_
      refine RL.assign rfl rfl rfl ?_
      refine RL.nil ?_
      refine NX.roundP ⟨x.k + 1, y.1, y.2⟩ (show x.k + 1 ≤ t.kids.length by omega) (by show _ - (x.k + 1) < _ - x.k; omega) ?_ (fun w hw => ?_)
      · refine ⟨?_, rfl, rfl, rfl, ?_, rfl, trivial⟩
        · show some (I _) = some (I _); rw [← hb.1]; simp; omega
        · show some (Value.slice _ _ _) = some (Value.slice _ _ _); rw [hb.2.2.2.1]
      · have h9 := hw.facts (F' := KidsOF (some ⟨w0.b, w0.off, none⟩) t.kids :: F) (fun φ h => .tail _ (.tail _ (.tail _ h)))
        show St w (OwnSl 41 3 y.1 ((t.kids.take (x.k + 1)).flatMap lv).length y.2 (toks q ((t.kids.take (x.k + 1)).flatMap lv)) :: _) _
        rw [toks_step hk, ← hb.2.2.2.1]
        exact h9
    · skip
      have hk : x.k = t.kids.length := by have := of_decide_eq_false h4; omega
      refine TR.exit ?_
      refine NX.exitThen ?_
      refine NX.exitThen ?_
      refine NX.exitHere ?_
      refine NX.seq ?_
      refine TR.seq ?_
      refine TR.region ?_
      refine RL.move rfl rfl rfl ?_
      refine RL.move rfl rfl rfl ?_
      refine RL.assign rfl rfl rfl ?_
      refine RL.assign rfl rfl rfl ?_
      refine RL.nil ?_
      refine NX.seq ?_
      refine TR.ret ?_
      refine NX.ret2x rfl rfl rfl (fun w hw => ⟨(x.oa, x.cap), ?_, ?_⟩)
      · rw [hk, List.take_length, lv_inner hl, Tree.width, inner_text hl]
      · rw [lv_inner hl]
        have h9 := (hw.facts (F' := F) (fun φ h => .tail _ h)).keepSl.tail
        rw [hk, List.take_length] at h9
        exact h9

theorem refLeaves_spec {t : Tree} {a : Option Addr} {len cap : Nat} {M : List HP} {F : List Fact} {d : Nat} (hs : Small d t) (hd : d ≤ 8) (ht : TreeF t (nodeV t a len cap) ∈ F) : Ctr Try.prog 51 [nodeV t a len cap] M F (Option Addr × Nat) (fun i => .slice i.1 t.lv.length i.2) (fun _ => M) (fun i => ArrF i.1 (toks 0 t.lv) :: F) := by
  refine Ctr.body Try.func51 rfl rfl ?_
  refine TR.seq ?_
  refine TR.region ?_
  refine RL.boxA rfl rfl rfl (fun b1 => ?_)
  refine RL.assign rfl rfl rfl ?_
  refine RL.nil ?_
  refine NX.seq ?_
  refine TR.seq ?_
  refine TR.region ?_
  refine RL.loadA 0 rfl rfl rfl b_ta25 rfl ?_
  refine RL.call rfl rfl Try.call62 rfl (leaves_spec (q := 0) hs hd ht (by have := hs.width6 hd; omega)) (fun z => ?_)
  refine RL.move rfl rfl rfl ?_
  refine RL.extract rfl rfl rfl rfl ?_
  refine RL.extract rfl rfl rfl rfl ?_
  refine RL.assign rfl rfl rfl ?_
  refine RL.assign rfl rfl rfl ?_
  refine RL.nil ?_
  refine NX.seq ?_
  refine TR.seq ?_
  refine TR.region ?_
  refine RL.move rfl rfl rfl ?_
  refine RL.assign rfl rfl rfl ?_
  refine RL.nil ?_
  refine NX.seq ?_
  refine TR.ret ?_
  exact NX.ret1 z rfl rfl rfl (fun w hw => hw.tail)

theorem refText_spec {t : Tree} {a : Option Addr} {len cap : Nat} {M : List HP} {F : List Fact} {d : Nat} (hs : Small d t) (hd : d ≤ 8) (ht : TreeF t (nodeV t a len cap) ∈ F) : Ctr Try.prog 37 [nodeV t a len cap] M F Unit (fun _ => S t.text) (fun _ => M) (fun _ => F) := by
  refine Ctr.body Try.func37 rfl rfl ?_
  refine TR.seq ?_
  refine TR.region ?_
  refine RL.boxA rfl rfl rfl (fun b1 => ?_)
  refine RL.assign rfl rfl rfl ?_
  refine RL.nil ?_
  refine NX.seq ?_
  refine TR.seq ?_
  refine TR.region ?_
  refine RL.loadA 0 rfl rfl rfl b_ta25 rfl ?_
  refine RL.call rfl rfl Try.call51 rfl (refLeaves_spec hs hd ht) (fun z => ?_)
  refine RL.assign rfl rfl rfl ?_
  refine RL.nil ?_
  refine NX.seq ?_
  refine TR.seq ?_
  refine TR.region ?_
  refine RL.assign rfl rfl rfl ?_
  refine RL.nil ?_
  refine NX.seq ?_
  refine TR.seq ?_
  refine TR.seq ?_
  refine TR.region ?_
  refine RL.assign rfl rfl rfl ?_
  refine RL.nil ?_
  refine NX.seq ?_
  refine TR.block ?_
  refine TR.loopP (ι := Nat) (fun k => k ≤ t.lv.length) (fun k => [(1, .pointer (some ⟨b1, 0, none⟩)), (2, S []), (3, .slice z.1 t.lv.length z.2), (4, S ((t.lv.take k).flatMap Tree.txt)), (5, I k)]) (fun _ => Box b1 25 (nodeC t a len cap) :: M) (fun _ => ArrF z.1 (toks 0 t.lv) :: F) (fun k => t.lv.length - k) 0 (Nat.zero_le _) ⟨rfl, rfl, rfl, rfl, rfl, trivial⟩ (fun w hw => hw) (fun k hk => ?_)
  refine TR.seq ?_
  refine TR.seq ?_
  refine TR.region ?_
  refine RL.move rfl rfl rfl ?_
  refine RL.move rfl rfl rfl ?_
  refine RL.lenSlice rfl b_tl38 rfl rfl ?_
  refine RL.bin rfl rfl rfl BinV.lss rfl ?_
  refine RL.nil ?_
  refine NX.seq ?_
  refine TR.cond rfl (fun h2 => ?_) (fun h2 => ?_)
  · skip
    have hk1 : k < t.lv.length := by have := of_decide_eq_true h2; omega
    have hw1 := hs.width6 hd
    have hw2 := take_flat_le Tree.txt t.lv (k + 1)
    rw [take_flat hk1, List.length_append, ← text_lv] at hw2
    have hw3 : t.width = t.text.length := rfl
    have hw4 := lv_le t
    have hw5 := hs.count6 hd
    refine TR.openP (open_arr (.head _) (toks_ne (by omega))) (fun x hx => ?_)
    refine TR.skip ?_
    refine NX.seq ?_
    refine TR.seq ?_
    refine TR.block ?_
    refine TR.region ?_
    refine RL.move rfl rfl rfl ?_
    refine RL.move rfl rfl rfl ?_
    refine RL.move rfl rfl rfl ?_
    refine RL.indexAddr rfl b_tl38 b_tz41 (congrArg (fun a => some (Value.slice a _ _)) hx) rfl (by omega) (by omega) rfl ?_
    refine RL.fieldAddr rfl b_tf41_1 rfl rfl ?_
    refine RL.loadF rfl rfl (fun w K hF => run_loadCell1 (j := (k : Int).toNat * 3 + 1) (hF _ (.head _)) b_ts9 (toks_get1 hk1)) rfl ?_
    refine RL.bin rfl rfl rfl (BinV.addS (by omega)) rfl ?_
    refine RL.assign rfl rfl rfl ?_
    refine RL.nil ?_
    refine NX.off ?_
    refine NX.seq ?_
    refine TR.region ?_
    refine RL.move rfl rfl rfl ?_
    refine RL.bin rfl rfl rfl (BinV.add _ rfl (by omega) (by omega)) rfl ?_
    refine RL.assign rfl rfl rfl ?_
    refine RL.nil ?_
    refine NX.roundP (k + 1) (by omega) (by omega) ?_ (fun w hw => hw.facts (fun φ h => .tail _ h))
    exact ⟨rfl, rfl, rfl, congrArg (fun l => some (S l)) (by rw [take_flat hk1]), rfl, trivial⟩
  · skip
    have hk2 : k = t.lv.length := by have := of_decide_eq_false h2; omega
    refine TR.exit ?_
    refine NX.exitThen ?_
    refine NX.exitThen ?_
    refine NX.exitHere ?_
    refine NX.seq ?_
    refine TR.seq ?_
    refine TR.region ?_
    refine RL.move rfl rfl rfl ?_
    refine RL.assign rfl rfl rfl ?_
    refine RL.nil ?_
    refine NX.seq ?_
    refine TR.ret ?_
    refine NX.ret1 () rfl rfl ?_ (fun w hw => hw.tail.facts (fun φ h => .tail _ h))
    rw [hk2, List.take_length, text_lv]

theorem refPath_spec {d : Nat} : ∀ {t : Tree} {a : Option Addr} {len cap : Nat} {M : List HP} {F : List Fact} {o : Int} (hs : Small d t) (hd : d ≤ 8) (ht : TreeF t (nodeV t a len cap) ∈ F), Ctr Try.prog 38 [nodeV t a len cap, I o] M F (Option Addr × Nat) (fun i => .tuple #[.slice i.1 (pathL t o).length i.2, .bool (pathOk t o)]) (fun _ => M) (fun i => ArrF i.1 (ints (pathL t o)) :: F) := by
  induction d with
  | zero => intro t a len cap M F o hs hd ht; exact hs.elim
  | succ d refPath_spec =>
  intro t a len cap M F o hs hd ht
  refine Ctr.body Try.func38 rfl rfl ?_
  refine TR.seq ?_
  refine TR.region ?_
  refine RL.boxA rfl rfl rfl (fun b1 => ?_)
  refine RL.assign rfl rfl rfl ?_
  refine RL.assign rfl rfl rfl ?_
  refine RL.nil ?_
  refine NX.seq ?_
  refine TR.seq ?_
  refine TR.seq ?_
  refine TR.region ?_
  refine RL.move rfl rfl rfl ?_
  refine RL.bin rfl rfl rfl BinV.lss rfl ?_
  refine RL.move rfl rfl rfl ?_
  refine RL.part (fun h2 => ?_) (fun h2 => ?_)
  · skip
    have hout : ¬ (0 ≤ o ∧ o < t.width) := by have := of_decide_eq_true h2; omega
    refine RL.skip rfl rfl rfl ?_
    refine RL.skip rfl rfl rfl ?_
    refine RL.skip rfl rfl rfl ?_
    refine RL.skip rfl rfl rfl ?_
    refine RL.skip rfl rfl rfl ?_
    refine RL.pickT rfl rfl rfl rfl ?_
    refine RL.nil ?_
    refine NX.seq ?_
    refine TR.condT rfl ?_
    refine TR.seq ?_
    refine TR.region ?_
    refine RL.assign rfl rfl rfl ?_
    refine RL.assign rfl rfl rfl ?_
    refine RL.nil ?_
    refine NX.seq ?_
    refine TR.ret ?_
    refine NX.retThen ?_
    refine NX.ret2x rfl rfl rfl (fun w hw => ⟨(none, 0), ?_, ?_⟩)
    · rw [(pathL_out hout).1, (pathL_out hout).2]; rfl
    · rw [(pathL_out hout).1]
      exact (hw.tail).arr0
  · skip
    have hp1 := of_decide_eq_false h2
    refine RL.move rfl rfl rfl ?_
    refine RL.loadA 0 rfl rfl rfl b_ta25 rfl ?_
    refine RL.call rfl rfl Try.call37 rfl (refText_spec hs hd ht) (fun _ => ?_)
    refine RL.lenStr rfl b_tstr9 rfl rfl ?_
    refine RL.bin rfl rfl rfl BinV.geq rfl ?_
    refine RL.pickF rfl rfl rfl rfl ?_
    refine RL.nil ?_
    refine NX.seq ?_
    refine TR.cond rfl (fun h3 => ?_) (fun h3 => ?_)
    · skip
      have hout : ¬ (0 ≤ o ∧ o < t.width) := by have := of_decide_eq_true h3; have h7 : t.width = t.text.length := rfl; omega
      refine TR.seq ?_
      refine TR.region ?_
      refine RL.assign rfl rfl rfl ?_
      refine RL.assign rfl rfl rfl ?_
      refine RL.nil ?_
      refine NX.seq ?_
      refine TR.ret ?_
      refine NX.retThen ?_
      refine NX.ret2x rfl rfl rfl (fun w hw => ⟨(none, 0), ?_, ?_⟩)
      · rw [(pathL_out hout).1, (pathL_out hout).2]; rfl
      · rw [(pathL_out hout).1]
        exact (hw.tail).arr0
    · skip
      have hin : 0 ≤ o ∧ o < t.width := by have := hp1; have := of_decide_eq_false h3; have h7 : t.width = t.text.length := rfl; omega
      refine TR.skip ?_
      refine NX.seq ?_
      refine TR.seq ?_
      refine TR.seq ?_
      refine TR.region ?_
      refine RL.loadA 0 rfl rfl rfl b_ta25 rfl ?_
      refine RL.call rfl rfl Try.call41 rfl (leaf41_spec t a len cap _ _) (fun _ => ?_)
      refine RL.nil ?_
      refine NX.seq ?_
      refine TR.cond rfl (fun h4 => ?_) (fun h4 => ?_)
      · skip
        have hl : t.isLeaf = true := h4
        refine TR.seq ?_
        refine TR.region ?_
        refine RL.assign rfl rfl rfl ?_
        refine RL.assign rfl rfl rfl ?_
        refine RL.nil ?_
        refine NX.seq ?_
        refine TR.ret ?_
        refine NX.retThen ?_
        refine NX.ret2x rfl rfl rfl (fun w hw => ⟨(none, 0), ?_, ?_⟩)
        · rw [(pathL_in hin).1, (pathL_in hin).2, path_leaf hl]; rfl
        · rw [(pathL_in hin).1, path_leaf hl]
          exact (hw.tail).arr0
      · skip
        have hl : t.isLeaf = false := h4
        obtain ⟨n, rfl⟩ := Int.eq_ofNat_of_zero_le hin.1
        refine TR.open1 (open_node ht) (fun hlen => ?_)
        refine TR.skip ?_
        refine NX.seq ?_
        refine TR.seq ?_
        refine TR.region ?_
        refine RL.assign rfl rfl rfl ?_
        refine RL.nil ?_
        refine NX.seq ?_
        refine TR.seq ?_
        refine TR.seq ?_
        refine TR.region ?_
        refine RL.assign rfl rfl rfl ?_
        refine RL.nil ?_
        refine NX.seq ?_
        refine TR.block ?_
        refine TR.loopP (ι := Nat) (fun k => k ≤ t.kids.length ∧ ((t.kids.take k).flatMap text).length ≤ n ∧ pathAll k (t.kids.drop k) (n - ((t.kids.take k).flatMap text).length) = t.path n) (fun k => [(1, I n), (2, .pointer (some ⟨b1, 0, none⟩)), (4, .slice none 0 0), (5, .bool false), (6, I ((t.kids.take k).flatMap text).length), (7, I k)]) (fun _ => Box b1 25 (nodeC t a len cap) :: M) (fun _ => KidsOF a t.kids :: F) (fun k => t.kids.length - k) 0 ⟨Nat.zero_le _, Nat.zero_le _, (path_inner hl).symm⟩ ⟨rfl, rfl, rfl, rfl, rfl, rfl, trivial⟩ (fun w hw => hw) (fun k hk => ?_)
        refine TR.seq ?_
        refine TR.seq ?_
        refine TR.region ?_
        refine RL.move rfl rfl rfl ?_
        refine RL.fieldAddr rfl b_tf25_3 rfl rfl ?_
        refine RL.load1 0 rfl b_ts23 rfl rfl rfl rfl ?_
        refine RL.lenSlice rfl b_tl23 rfl rfl ?_
        refine RL.bin rfl rfl rfl BinV.lss rfl ?_
        refine RL.nil ?_
        refine NX.seq ?_
        refine TR.cond rfl (fun h5 => ?_) (fun h5 => ?_)
        · skip
          have hk1 : k < t.kids.length := by have := of_decide_eq_true h5; omega
          have hb := kid_bounds hs (by omega) hl hk1
          refine TR.openP (open_kid (.head _) (List.getElem?_eq_getElem hk1)) (fun w0 hw0 => ?_)
          subst hw0
          refine TR.skip ?_
          refine NX.seq ?_
          refine TR.seq ?_
          refine TR.block ?_
          refine TR.seq ?_
          refine TR.region ?_
          refine RL.fieldAddr rfl b_tf25_3 rfl rfl ?_
          refine RL.load1 0 rfl b_ts23 rfl rfl rfl rfl ?_
          refine RL.move rfl rfl rfl ?_
          refine RL.indexAddr rfl b_tl23 b_tz25 rfl rfl (by omega) (by omega) rfl ?_
          refine RL.loadF rfl rfl (fun w K hF => run_loadCellsAt (hF _ (.head _)) b_ta25) rfl ?_
          have hw9 : t.kids[k].width = t.kids[k].text.length := rfl
          refine RL.call rfl rfl Try.call37 rfl (refText_spec (hs.kid (List.getElem_mem hk1)) (by omega) (.tail _ (.head _))) (fun _ => ?_)
          refine RL.lenStr rfl b_tstr9 rfl rfl ?_
          refine RL.assign rfl rfl rfl ?_
          refine RL.nil ?_
          refine NX.seq ?_
          refine TR.seq ?_
          refine TR.seq ?_
          refine TR.region ?_
          refine RL.move rfl rfl rfl ?_
          refine RL.move rfl rfl rfl ?_
          refine RL.move rfl rfl rfl ?_
          refine RL.bin rfl rfl rfl (BinV.add _ rfl (by omega) (by omega)) rfl ?_
          refine RL.bin rfl rfl rfl BinV.lss rfl ?_
          refine RL.nil ?_
          refine NX.seq ?_
          refine TR.cond rfl (fun h6 => ?_) (fun h6 => ?_)
          · skip
            have hlt : n - ((t.kids.take k).flatMap text).length < t.kids[k].width := by have := of_decide_eq_true h6; omega
            have hps : 0 ≤ ((n : Int) - ((t.kids.take k).flatMap text).length) ∧ ((n : Int) - ((t.kids.take k).flatMap text).length) < t.kids[k].width := by omega
            have hpl : (pathL t.kids[k] ((n : Int) - ((t.kids.take k).flatMap text).length)).length ≤ 65536 := (hs.kid (List.getElem_mem hk1)).pathL6 (by omega)
            refine TR.seq ?_
            refine TR.region ?_
            refine RL.fieldAddr rfl b_tf25_3 rfl rfl ?_
            refine RL.load1 0 rfl b_ts23 rfl rfl rfl rfl ?_
            refine RL.move rfl rfl rfl ?_
            refine RL.indexAddr rfl b_tl23 b_tz25 rfl rfl (by omega) (by omega) rfl ?_
            refine RL.loadF rfl rfl (fun w K hF => run_loadCellsAt (hF _ (.head _)) b_ta25) rfl ?_
            refine RL.move rfl rfl rfl ?_
            refine RL.move rfl rfl rfl ?_
            refine RL.bin rfl rfl rfl (BinV.sub _ rfl (by omega) (by omega)) rfl ?_
            refine RL.call rfl rfl Try.call38 rfl (refPath_spec (hs.kid (List.getElem_mem hk1)) (by omega) (.tail _ (.head _))) (fun z => ?_)
            refine RL.move rfl rfl rfl ?_
            refine RL.extract rfl rfl rfl rfl ?_
            refine RL.extract rfl rfl rfl rfl ?_
            refine RL.assign rfl rfl rfl ?_
            refine RL.assign rfl rfl rfl ?_
            refine RL.nil ?_
            refine NX.seq ?_
            refine TR.seq ?_
            refine TR.region ?_
            refine RL.move rfl rfl rfl ?_
            refine RL.buildSlice rfl rfl (b_bs22_1_0 _) rfl (fun b7 => ?_)
            refine RL.move rfl rfl rfl ?_
            refine RL.weak (fun w hw => St.boxSl (n := 1) (size := 1) rfl (by decide) hw) ?_
            refine RL.ofGV rfl rfl (GV.append (j := 0) b_tl22 b_ni22 b_te3 rfl rfl rfl (src_fact (.head _) (by rw [List.length_map, Nat.mul_one]) (ints_one _)) (by omega) (by omega)) (fun y => ?_)
            refine RL.move rfl rfl rfl ?_
            refine RL.assign rfl rfl rfl ?_
            refine RL.assign rfl rfl rfl ?_
            refine RL.nil ?_
            refine NX.seq ?_
            refine TR.ret ?_
            refine NX.retThen ?_
            refine NX.retBlock ?_
            refine NX.retThen ?_
            refine NX.retThen ?_
            refine NX.retBlock ?_
            refine NX.retThen ?_
            have h9 := hk.2.2
            rw [pathAll_in hk1 hlt] at h9
            have h8 : pathL t (n : Int) = (k : Int) :: pathL t.kids[k] ((n : Int) - ((t.kids.take k).flatMap text).length) := by
              rw [(pathL_in hin).1, (pathL_in hps).1, Int.toNat_natCast, ← h9]
              congr 2; omega
            refine NX.ret2x rfl rfl rfl (fun w hw => ⟨(y.1, y.2), ?_, ?_⟩)
            · rw [h8, (pathL_in hin).2, (pathL_in hps).2, List.length_cons, Nat.add_comm]; rfl
            · rw [h8]
              exact (((hw.facts (F' := F) (fun φ h => .tail _ (.tail _ (.tail _ (.tail _ h))))).keepSl).tail)
          · skip
            have hnlt : ¬ (n < ((t.kids.take k).flatMap text).length + t.kids[k].width) := by have := of_decide_eq_false h6; omega
            refine TR.skip ?_
            refine NX.seq ?_
            refine TR.region ?_
            refine RL.move rfl rfl rfl ?_
            refine RL.move rfl rfl rfl ?_
            refine RL.bin rfl rfl rfl (BinV.add _ rfl (by omega) (by omega)) rfl ?_
            refine RL.assign rfl rfl rfl ?_
            refine RL.nil ?_
            refine NX.off ?_
            refine NX.seq ?_
            refine TR.region ?_
            refine RL.move rfl rfl rfl ?_
            refine RL.bin rfl rfl rfl (BinV.add _ rfl (by omega) (by omega)) rfl ?_
            refine RL.assign rfl rfl rfl ?_
            refine RL.nil ?_
            refine NX.roundP (k + 1) ⟨by omega, by omega, ?_⟩ (by omega) ⟨rfl, rfl, rfl, rfl, ?_, rfl, trivial⟩ (fun w hw => hw.facts (F' := KidsOF (some ⟨w0.b, w0.off, none⟩) t.kids :: F) (fun φ h => .tail _ (.tail _ h)))
            · have h9 := hk.2.2
              rw [pathAll_out hk1 (by omega)] at h9
              rw [← h9, ← hb.1, Nat.sub_sub]; rfl
            · show some (I _) = some (I _); rw [← hb.1]; simp; rfl
        · skip
          exfalso
          have hk2 : k = t.kids.length := by have := of_decide_eq_false h5; omega
          have h9 := hk.2.1
          rw [hk2, List.take_length, ← inner_text hl] at h9
          have h8 : t.width = t.text.length := rfl
          omega

end Go.Proofs.Ytnolpmigiboanaa
