/- Walks of the functions of package syntax and of its reference model. Printed by s07.py. -/
import Derived.Test.YtnolpmigiboanaaSm2
import Derived.Test.YtnolpmigiboanaaTe
namespace Go.Proofs.Ytnolpmigiboanaa
open Go.GL Go.GL.Tree
theorem o_bs38_1_0 (x00 : Int) (x01 : List UInt8) (x02 : Int) : BuildSV Try.prog 38 41 1 [(0, .agg #[.int .i64 x00, S x01, .int .i64 x02])] [.int .i64 x00, S x01, .int .i64 x02] := fun w => by kernel_rfl
theorem o_bv41_0_1_2 (x0 : Int) (x1 : List UInt8) (x2 : Int) : BuildV Try.prog 41 [(0, .int .i64 x0), (1, S x1), (2, .int .i64 x2)] (.agg #[.int .i64 x0, S x1, .int .i64 x2]) := fun w => by kernel_rfl
theorem o_ni38 : noInt Try.prog 38 = true := by kernel_rfl
theorem o_ta25 : tyAgg Try.prog 25 4 = true := by kernel_rfl
theorem o_ta41 : tyAgg Try.prog 41 3 = true := by kernel_rfl
theorem o_te41 : tyElem Try.prog 41 3 32 = true := by kernel_rfl
theorem o_tf25_1 : fieldOff Try.prog 25 1 1 = true := by kernel_rfl
theorem o_tf25_2 : fieldOff Try.prog 25 2 2 = true := by kernel_rfl
theorem o_tf25_3 : fieldOff Try.prog 25 3 3 = true := by kernel_rfl
theorem o_tl23 : tySlice Try.prog 23 25 = true := by kernel_rfl
theorem o_tl38 : tySlice Try.prog 38 41 = true := by kernel_rfl
theorem o_ts23 : tyScalar Try.prog 23 = true := by kernel_rfl
theorem o_ts3 : tyScalar Try.prog 3 = true := by kernel_rfl
theorem o_ts38 : tyScalar Try.prog 38 = true := by kernel_rfl
theorem o_ts9 : tyScalar Try.prog 9 = true := by kernel_rfl
theorem o_tstr9 : tyStr Try.prog 9 = true := by kernel_rfl
theorem o_tz25 : tySize Try.prog 25 4 = true := by kernel_rfl
theorem o_tz41 : tySize Try.prog 41 3 = true := by kernel_rfl
theorem refDepth_spec {d : Nat} : ∀ {t : Tree} {a : Option Addr} {len cap : Nat} {M : List HP} {F : List Fact}, Small d t → d ≤ 8 → TreeF t (nodeV t a len cap) ∈ F → Ctr Try.prog 49 [nodeV t a len cap] M F Unit (fun _ => I t.depth) (fun _ => M) (fun _ => F) := by
  induction d with
  | zero => intro t a len cap M F hs hd ht; exact hs.elim
  | succ d refDepth_spec =>
  intro t a len cap M F hs hd ht
  refine Ctr.body Try.func49 rfl rfl ?_
  refine TR.seq ?_
  refine TR.region ?_
  refine RL.boxA rfl rfl rfl (fun b1 => ?_)
  refine RL.assign rfl rfl rfl ?_
  refine RL.nil ?_
  refine NX.seq ?_
  refine TR.seq ?_
  refine TR.region ?_
  refine RL.assign rfl rfl rfl ?_
  refine RL.nil ?_
  refine NX.seq ?_
  refine TR.seq ?_
  refine TR.seq ?_
  refine TR.region ?_
  refine RL.open1 (open_node ht) (fun hlen => ?_)
  refine RL.assign rfl rfl rfl ?_
  refine RL.nil ?_
  refine NX.seq ?_
  refine TR.block ?_
  refine TR.loopP (ι := Nat) (fun k => k ≤ t.kids.length) (fun k => [(1, .pointer (some ⟨b1, 0, none⟩)), (2, I 0), (3, I (depthAll 0 (t.kids.take k))), (4, I k)]) (fun _ => Box b1 25 (nodeC t a len cap) :: M) (fun _ => KidsOF a t.kids :: F) (fun k => t.kids.length - k) 0 (Nat.zero_le _) ⟨rfl, rfl, rfl, rfl, trivial⟩ (fun w hw => hw) (fun k hk => ?_)
  refine TR.seq ?_
  refine TR.seq ?_
  refine TR.region ?_
  refine RL.move rfl rfl rfl ?_
  refine RL.fieldAddr rfl o_tf25_3 rfl rfl ?_
  refine RL.load1 0 rfl o_ts23 rfl rfl rfl rfl ?_
  refine RL.lenSlice rfl o_tl23 rfl rfl ?_
  refine RL.bin rfl rfl rfl BinV.lss rfl ?_
  refine RL.nil ?_
  refine NX.seq ?_
  refine TR.cond rfl (fun h2 => ?_) (fun h2 => ?_)
  · skip
    have hk1 : k < t.kids.length := by have := of_decide_eq_true h2; omega
    refine TR.openP (open_kid (.head _) (List.getElem?_eq_getElem hk1)) (fun w0 hw0 => ?_)
    refine TR.skip ?_
    refine NX.seq ?_
    refine TR.seq ?_
    refine TR.block ?_
    refine TR.region ?_
    refine RL.move rfl rfl rfl ?_
    refine RL.fieldAddr rfl o_tf25_3 rfl rfl ?_
    refine RL.load1 0 rfl o_ts23 rfl rfl rfl rfl ?_
    refine RL.move rfl rfl rfl ?_
    refine RL.indexAddr rfl o_tl23 o_tz25 (congrArg (fun a => some (Value.slice a _ _)) hw0) rfl (by omega) (by omega) rfl ?_
    refine RL.loadF rfl rfl (fun w K hF => run_loadCellsAt (hF _ (.head _)) o_ta25) rfl ?_
    refine RL.call rfl rfl Try.call49 rfl (refDepth_spec (hs.kid (List.getElem_mem hk1)) (by omega) (.tail _ (.head _))) (fun _ => ?_)
    refine RL.max rfl rfl rfl rfl ?_
    refine RL.assign rfl rfl rfl ?_
    refine RL.nil ?_
    refine NX.off ?_
    refine NX.seq ?_
    refine TR.region ?_
    refine RL.move rfl rfl rfl ?_
    refine RL.bin rfl rfl rfl (BinV.add _ rfl (by omega) (by omega)) rfl ?_
    refine RL.assign rfl rfl rfl ?_
    refine RL.nil ?_
    refine NX.roundP (k + 1) (by omega) (by omega) ⟨rfl, rfl, congrArg (fun z => some (I z)) ?_, rfl, trivial⟩ (fun w hw => hw.facts (F' := KidsOF a t.kids :: F) (fun φ h => .tail _ (.tail _ h)))
    rw [depthAll_step hk1]; omega
  · skip
    have hk2 : k = t.kids.length := by have := of_decide_eq_false h2; omega
    have hd9 := hs.depth
    rw [depth_eq] at hd9
    rw [hk2, List.take_length]
    refine TR.exit ?_
    refine NX.exitThen ?_
    refine NX.exitThen ?_
    refine NX.exitHere ?_
    refine NX.seq ?_
    refine TR.seq ?_
    refine TR.region ?_
    refine RL.move rfl rfl rfl ?_
    refine RL.bin rfl rfl rfl (BinV.add _ rfl (by omega) (by omega)) rfl ?_
    refine RL.assign rfl rfl rfl ?_
    refine RL.nil ?_
    refine NX.seq ?_
    refine TR.ret ?_
    refine NX.ret1 () rfl rfl ?_ (fun w hw => hw.tail.facts (fun φ h => .tail _ h))
    rw [depth_eq]; simp

theorem tok41 : tokOk Try.prog 41 = true := by kernel_rfl
theorem und41 : Try.prog.underlying 41 = some (.struct (Try.prog.fieldsOf 41)) := by kernel_rfl
theorem held41 : Try.prog.stoodInHeld 41 = false := by kernel_rfl
theorem grd41 : Try.prog.eqGuardType Try.prog.depth 41 = false := by kernel_rfl

theorem sameToks_spec {l : List Tree} {q : Nat} {oa ob : Option Addr} {ca cb : Nat} {M : List HP} {F : List Fact} (ha : ArrF oa (toks q l) ∈ F) (hb : ArrF ob (toks q l) ∈ F) (hl : l.length ≤ 65536) : Ctr Try.prog 50 [.slice oa l.length ca, .slice ob l.length cb] M F Unit (fun _ => .bool true) (fun _ => M) (fun _ => F) := by
  refine Ctr.body Try.func50 rfl rfl ?_
  refine TR.seq ?_
  refine TR.region ?_
  refine RL.assign rfl rfl rfl ?_
  refine RL.nil ?_
  refine NX.seq ?_
  refine TR.seq ?_
  refine TR.seq ?_
  refine TR.region ?_
  refine RL.move rfl rfl rfl ?_
  refine RL.lenSlice rfl o_tl38 rfl rfl ?_
  refine RL.move rfl rfl rfl ?_
  refine RL.lenSlice rfl o_tl38 rfl rfl ?_
  refine RL.bin rfl rfl rfl BinV.neq rfl ?_
  refine RL.nil ?_
  refine NX.seq ?_
  refine TR.cond rfl (fun h1 => ?_) (fun h1 => ?_)
  · skip
    exact absurd rfl (of_decide_eq_true h1)
  · skip
    refine TR.skip ?_
    refine NX.seq ?_
    refine TR.seq ?_
    refine TR.seq ?_
    refine TR.region ?_
    refine RL.assign rfl rfl rfl ?_
    refine RL.nil ?_
    refine NX.seq ?_
    refine TR.block ?_
    refine TR.loopP (ι := Nat) (fun k => k ≤ l.length) (fun k => [(0, .slice oa l.length ca), (1, .slice ob l.length cb), (4, .bool false), (5, I k)]) (fun _ => M) (fun _ => F) (fun k => l.length - k) 0 (Nat.zero_le _) ⟨rfl, rfl, rfl, rfl, trivial⟩ (fun w hw => hw) (fun k hk => ?_)
    refine TR.seq ?_
    refine TR.seq ?_
    refine TR.region ?_
    refine RL.move rfl rfl rfl ?_
    refine RL.move rfl rfl rfl ?_
    refine RL.lenSlice rfl o_tl38 rfl rfl ?_
    refine RL.bin rfl rfl rfl BinV.lss rfl ?_
    refine RL.nil ?_
    refine NX.seq ?_
    refine TR.cond rfl (fun h2 => ?_) (fun h2 => ?_)
    · skip
      have hk1 : k < l.length := by have := of_decide_eq_true h2; omega
      refine TR.openP (open_arr ha (toks_ne (by omega))) (fun x hx => ?_)
      refine TR.openP (open_arr (.tail _ hb) (toks_ne (by omega))) (fun y hy => ?_)
      refine TR.skip ?_
      refine NX.seq ?_
      refine TR.seq ?_
      refine TR.block ?_
      refine TR.seq ?_
      refine TR.sub (E' := [(0, _), (1, _), (4, _), (5, _), (11, _), (12, _), (13, _), (14, _)]) ⟨rfl, rfl, rfl, rfl, rfl, rfl, rfl, rfl, trivial⟩ ?_
      refine TR.draw mixed ?_
      apply AR.more [(0, _), (1, _), (2, _), (3, _), (4, _), (5, _), (6, _), (7, _), (8, .bool false)]
      refine AR.last [0, 1, 2, 3, 4, 5, 6, 7, 8] [0, 1, 2, 3, 4, 5, 6, 7, 8] ⟨QOne.yes rfl rfl rfl (PV.move rfl), QOne.yes rfl rfl rfl (PV.move rfl), QOne.yes rfl rfl rfl (PV.indexAddr o_tl38 o_tz41 (congrArg (fun a => some (Value.slice a _ _)) hx) rfl (by omega) (by omega)), QOne.yes rfl rfl rfl (PV.loadF rfl (fun w K hF => run_tok (hF _ (.tail _ (.head _))) o_ta41 hk1)), QOne.yes rfl rfl rfl (PV.move rfl), QOne.yes rfl rfl rfl (PV.move rfl), QOne.yes rfl rfl rfl (PV.indexAddr o_tl38 o_tz41 (congrArg (fun a => some (Value.slice a _ _)) hy) rfl (by omega) (by omega)), QOne.yes rfl rfl rfl (PV.loadF rfl (fun w K hF => run_tok (hF _ (.head _)) o_ta41 hk1)), QOne.yes rfl rfl rfl (PV.bin rfl rfl (BinV.to (d := false) (tok_neq tok41 und41 held41 grd41 _ _ _) rfl)), trivial⟩ rfl rfl rfl ?_
      refine NX.sub (E' := [(0, _), (1, _), (4, _), (5, _), (11, _), (12, _), (13, _), (14, _), (17, _), (18, _), (19, _), (20, _), (21, _), (22, _), (23, _), (24, _), (25, _)]) ⟨rfl, rfl, rfl, rfl, rfl, rfl, rfl, rfl, rfl, rfl, rfl, rfl, rfl, rfl, rfl, rfl, rfl, trivial⟩ ?_
      refine NX.seq ?_
      refine TR.condF rfl ?_
      refine TR.skip ?_
      refine NX.off ?_
      refine NX.seq ?_
      refine TR.region ?_
      refine RL.move rfl rfl rfl ?_
      refine RL.bin rfl rfl rfl (BinV.add _ rfl (by omega) (by omega)) rfl ?_
      refine RL.assign rfl rfl rfl ?_
      refine RL.nil ?_
      refine NX.roundP (k + 1) (by omega) (by omega) ⟨rfl, rfl, rfl, rfl, trivial⟩ (fun w hw => hw.facts (fun φ h => .tail _ (.tail _ (h))))
    · skip
      refine TR.exit ?_
      refine NX.exitThen ?_
      refine NX.exitThen ?_
      refine NX.exitHere ?_
      refine NX.seq ?_
      refine TR.seq ?_
      refine TR.region ?_
      refine RL.assign rfl rfl rfl ?_
      refine RL.nil ?_
      refine NX.seq ?_
      refine TR.ret ?_
      exact NX.ret1 () rfl rfl rfl (fun w hw => hw)

theorem filter_T {pre : List Tree} {x : Tree} (h : (decide (0 ≤ x.kind) && decide (x.kind ≤ 8)) = true) : (pre ++ [x]).filter isLeaf = pre.filter isLeaf ++ [x] := by
  rw [List.filter_append]; congr 1; simp only [List.filter_cons, Tree.isLeaf, h]; rfl
theorem filter_F {pre : List Tree} {x : Tree} (h : (decide (0 ≤ x.kind) && decide (x.kind ≤ 8)) = false) : (pre ++ [x]).filter isLeaf = pre.filter isLeaf := by
  rw [List.filter_append]
  have : [x].filter isLeaf = [] := by simp only [List.filter_cons, Tree.isLeaf, h]; rfl
  rw [this, List.append_nil]
theorem toks_snoc {l : List Tree} {x : Tree} : toks 0 (l ++ [x]) = toks 0 l ++ [I x.kind, S x.txt, I ((l.flatMap Tree.txt).length : Nat)] := by
  rw [toks_append, toks, toks, Nat.zero_add]
theorem flat1 {x : Tree} : ([x].flatMap Tree.txt) = x.txt := by simp
theorem pre_bounds {d : Nat} {t : Tree} (hs : Small d t) (hd : d ≤ 8) {pre suf : List Tree} {x : Tree} (hx : t.pre = pre ++ x :: suf) (hl : (decide (0 ≤ x.kind) && decide (x.kind ≤ 8)) = true) :
    ((pre.filter isLeaf).flatMap Tree.txt).length + x.txt.length ≤ 524288 ∧ (pre.filter isLeaf).length + 1 ≤ 65536 := by
  have h1 := hs.width6 hd
  have h2 := hs.count6 hd
  have h3 : (textOf t.pre).length ≤ 524288 := h1
  rw [textOf_parts hx, leafText_T hl, textOf_filter] at h3
  rw [hx, List.length_append, List.length_cons] at h2
  have h4 := List.length_filter_le isLeaf pre
  omega

theorem leavesS_spec {t : Tree} {a : Option Addr} {len cap : Nat} {M : List HP} {F : List Fact} {d : Nat} (hs : Small d t) (hd : d ≤ 8) (ht : TreeF t (nodeV t a len cap) ∈ F) : Ctr Try.prog 20 [nodeV t a len cap] M F (Option Addr × Nat) (fun i => .slice i.1 t.lv.length i.2) (fun _ => M) (fun i => ArrF i.1 (toks 0 t.lv) :: F) := by
  refine Ctr.bodyM Try.func20 rfl rfl ?_
  refine TR.seq ?_
  refine TR.region ?_
  refine RL.boxA rfl rfl rfl (fun b1 => ?_)
  refine RL.assign rfl rfl rfl ?_
  refine RL.nil ?_
  refine NX.seq ?_
  refine TR.seq ?_
  refine TR.region ?_
  refine RL.alloc1 rfl (Try.zeroValue38) rfl rfl (fun b2 => ?_)
  refine RL.weak (fun w hw => St.lfNew (e := 41) hw) ?_
  refine RL.nil ?_
  refine NX.seq ?_
  refine TR.seq ?_
  refine TR.region ?_
  refine RL.alloc1 rfl (Try.zeroValue3) rfl rfl (fun b3 => ?_)
  refine RL.store1 0 rfl o_ts3 rfl rfl rfl rfl rfl ?_
  refine RL.nil ?_
  refine NX.seq ?_
  refine TR.seq ?_
  refine TR.seq ?_
  refine TR.region ?_
  refine RL.loadA 2 rfl rfl rfl o_ta25 rfl ?_
  refine RL.call rfl rfl Try.call52 rfl (all_spec (nodeC t a len cap) _ _) (fun bc => ?_)
  refine RL.nil ?_
  refine NX.seq ?_
  refine TR.block ?_
  refine TR.rangeFunc (κ := Nat × Option Addr × Nat) (xs := t.pre) rfl Try.call63 (by simp) nodeEnc_len (all_iter (.tail _ ht) (.head _)) (fun pre => [Lf 38 41 b2 (pre.filter isLeaf), Box b3 3 [I ((pre.filter isLeaf).flatMap Tree.txt).length]]) (Box b1 25 (nodeC t a len cap) :: M) (fun w hw => hw.swap) (fun pre x args b => [(3, .pointer (some ⟨b2, 0, none⟩)), (4, .pointer (some ⟨b3, 0, none⟩)), (5, .pointer (some ⟨b.1, 0, none⟩))]) (fun pre x args b => [Box b.1 25 (argCells args), Box b2 38 [.slice b.2.1 (pre.filter isLeaf).length b.2.2], OwnSl 41 3 b.2.1 (pre.filter isLeaf).length b.2.2 (toks 0 (pre.filter isLeaf)), Box b3 3 [I ((pre.filter isLeaf).flatMap Tree.txt).length]]) ?as0 ?bd0 ?ki0
  case as0 =>
    intro l pre x suf args hx he Mi G hG
    obtain ⟨a2, len2, cap2, rfl⟩ := he
    refine TR.region ?_
    refine RL.open (fun w hw => St.exOpen hw) (fun i0 => ?_)
    refine RL.allocA rfl (Try.zeroValue25) rfl (fun b4 => ?_)
    refine RL.storeA 0 rfl rfl rfl rfl o_tz25 rfl rfl ?_
    refine RL.nil ?_
    exact NX.meet (b4, i0.1, i0.2) ⟨rfl, rfl, rfl, trivial⟩ (fun w hw => hw)
  case bd0 =>
    intro l pre x suf args i hx he Mi G hG
    obtain ⟨a2, len2, cap2, rfl⟩ := he
    have hpre := pre_bounds hs hd hx
    refine TR.block ?_
    refine TR.seq ?_
    refine TR.region ?_
    refine RL.loadA 0 rfl rfl rfl o_ta25 rfl ?_
    refine RL.call rfl rfl Try.call53 rfl (leaf_spec x.id x.kind x.txt a2 len2 cap2 _ _) (fun _ => ?_)
    refine RL.nil ?_
    refine NX.seq ?_
    refine TR.cond rfl (fun h5 => ?_) (fun h5 => ?_)
    · skip
      have hlf := h5
      have hpre2 := hpre hlf
      refine TR.seq ?_
      refine TR.region ?_
      refine RL.load1 1 rfl o_ts38 rfl rfl rfl rfl ?_
      refine RL.fieldAddr rfl o_tf25_1 rfl rfl ?_
      refine RL.load1 0 rfl o_ts3 rfl rfl rfl rfl ?_
      refine RL.fieldAddr rfl o_tf25_2 rfl rfl ?_
      refine RL.load1 0 rfl o_ts9 rfl rfl rfl rfl ?_
      refine RL.load1 3 rfl o_ts3 rfl rfl rfl rfl ?_
      refine RL.build rfl rfl (o_bv41_0_1_2 _ _ _) rfl ?_
      refine RL.buildSlice rfl rfl (o_bs38_1_0 _ _ _) rfl (fun b6 => ?_)
      refine RL.ofGV rfl rfl (GV.append (j := 3) o_tl38 o_ni38 o_te41 rfl rfl rfl (src_box (i := 0) rfl rfl rfl) (by omega) (by omega)) (fun y => ?_)
      refine RL.store1 2 rfl o_ts38 rfl rfl rfl rfl rfl ?_
      refine RL.nil ?_
      refine NX.seq ?_
      refine TR.region ?_
      refine RL.load1 4 rfl o_ts3 rfl rfl rfl rfl ?_
      refine RL.fieldAddr rfl o_tf25_2 rfl rfl ?_
      refine RL.load1 1 rfl o_ts9 rfl rfl rfl rfl ?_
      refine RL.lenStr rfl o_tstr9 rfl rfl ?_
      refine RL.bin rfl rfl rfl (BinV.add _ rfl (by omega) (by omega)) rfl ?_
      refine RL.store1 4 rfl o_ts3 rfl rfl rfl rfl rfl ?_
      refine RL.nil ?_
      refine NX.off ?_
      exact fun aa w _ hw => by
        have h9 := (hw.drop 0 rfl).drop 0 rfl
        have h8 : St w (Lf 38 41 b2 ((pre ++ [x]).filter isLeaf) :: Box b3 3 [I ((pre ++ [x]).filter isLeaf |>.flatMap Tree.txt).length] :: Mi) G := St.exClose (y.1, y.2) (by rw [filter_T hlf, List.length_append, toks_snoc, List.flatMap_append, List.length_append, flat1]; exact h9)
        exact h8
    · skip
      have hlf := h5
      refine TR.skip ?_
      refine NX.off ?_
      exact fun aa w _ hw => by
        have h9 := hw.drop 0 rfl
        have h8 : St w (Lf 38 41 b2 ((pre ++ [x]).filter isLeaf) :: Box b3 3 [I ((pre ++ [x]).filter isLeaf |>.flatMap Tree.txt).length] :: Mi) G := St.exClose (i.2.1, i.2.2) (by rw [filter_F hlf]; exact h9)
        exact h8
  case ki0 =>
    intro D
    refine NX.off ?_
    refine NX.seq ?_
    refine TR.seq ?_
    refine TR.region ?_
    refine RL.open (fun w hw => St.exOpen hw.swap) (fun i0 => ?_)
    refine RL.load1 0 rfl o_ts38 rfl rfl rfl rfl ?_
    refine RL.assign rfl rfl rfl ?_
    refine RL.nil ?_
    refine NX.seq ?_
    refine TR.ret ?_
    refine NX.retM 2 (i0.1, i0.2) rfl rfl rfl rfl (fun w hw => ?_)
    exact (((hw.drop 0 rfl).keepSl.drop 0 rfl).drop 0 rfl).facts (fun φ h => by
      rcases List.mem_cons.1 h with e | h
      · subst e; exact .head _
      · exact .tail _ (.tail _ h))

end Go.Proofs.Ytnolpmigiboanaa
