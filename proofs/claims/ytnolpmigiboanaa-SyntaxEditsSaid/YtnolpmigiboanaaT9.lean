/- Walks of the functions of package syntax and of its reference model. Printed by s07.py. -/
import Derived.Test.YtnolpmigiboanaaBld
import Derived.Test.YtnolpmigiboanaaT8
namespace Go.Proofs.Ytnolpmigiboanaa
open Go.GL Go.GL.Tree
theorem i_ni9 : noInt Try.prog 9 = true := by kernel_rfl
theorem i_ta25 : tyAgg Try.prog 25 4 = true := by kernel_rfl
theorem i_te5 : tyElem Try.prog 5 1 1 = true := by kernel_rfl
theorem i_tf25_2 : fieldOff Try.prog 25 2 2 = true := by kernel_rfl
theorem i_tf80_0 : fieldOff Try.prog 80 0 0 = true := by kernel_rfl
theorem i_tf80_1 : fieldOff Try.prog 80 1 1 = true := by kernel_rfl
theorem i_tl78 : tySlice Try.prog 78 5 = true := by kernel_rfl
theorem i_tp77 : tyPtr Try.prog 77 80 = true := by kernel_rfl
theorem i_tp98 : tyPtr Try.prog 98 5 = true := by kernel_rfl
theorem i_ts77 : tyScalar Try.prog 77 = true := by kernel_rfl
theorem i_ts78 : tyScalar Try.prog 78 = true := by kernel_rfl
theorem i_ts9 : tyScalar Try.prog 9 = true := by kernel_rfl
theorem i_tstr9 : tyStr Try.prog 9 = true := by kernel_rfl
theorem i_tu101 : tyUns Try.prog 101 = true := by kernel_rfl
theorem i_tz25 : tySize Try.prog 25 4 = true := by kernel_rfl
theorem i_tz80 : tySize Try.prog 80 2 = true := by kernel_rfl
theorem ext68 (v : Value) (w : World) : (callFunc 68 #[v]).run Try.prog w = .ok (.value v) w := by kernel_rfl
theorem lies80 : liesAt Try.prog Try.prog.depth 80 (([Value.pointer none, .slice none 0 0] : List Value).length / Try.prog.cellsOf 80) 0 80 1 = true := by kernel_rfl
theorem cells5 : Nat.beq (Try.prog.cellsOf 5) 1 = true := by kernel_rfl

theorem copyCheck0_spec {b : Nat} {oa : Option Addr} {n c : Nat} {M : List HP} {F : List Fact} : Ctr Try.prog 65 [.pointer (some ⟨b, 0, none⟩)] (Box b 80 [.pointer (none), .slice oa n c] :: M) F Unit (fun _ => .tuple #[]) (fun _ => Box b 80 [.pointer (some ⟨b, 0, none⟩), .slice oa n c] :: M) (fun _ => F) := by
  refine Ctr.body Try.func65 rfl rfl ?_
  refine TR.seq ?_
  refine TR.region ?_
  refine RL.move rfl rfl rfl ?_
  refine RL.nilCheck rfl rfl rfl ?_
  refine RL.fieldAddr rfl i_tf80_0 rfl rfl ?_
  refine RL.load1 0 rfl i_ts77 rfl rfl rfl rfl ?_
  refine RL.bin rfl rfl rfl (BinV.eqlPtrNil i_tp77) rfl ?_
  refine RL.nil ?_
  refine NX.seq ?_
  refine TR.condT rfl ?_
  refine TR.region ?_
  refine RL.move rfl rfl rfl ?_
  refine RL.move rfl rfl rfl ?_
  refine RL.toUnsafe 0 rfl i_tp77 i_tz80 rfl i_tu101 rfl rfl rfl rfl ?_
  refine RL.callX rfl rfl (ext68 _) rfl ?_
  refine RL.fromUnsafe 0 rfl i_tu101 i_tz80 i_tp77 rfl rfl lies80 rfl ?_
  refine RL.nilCheck rfl rfl rfl ?_
  refine RL.fieldAddr rfl i_tf80_0 rfl rfl ?_
  refine RL.store1 0 rfl i_ts77 rfl rfl rfl rfl rfl ?_
  refine RL.nil ?_
  exact NX.end0 () rfl rfl (fun w hw => hw)

theorem copyCheck1_spec {b : Nat} {oa : Option Addr} {n c : Nat} {M : List HP} {F : List Fact} : Ctr Try.prog 65 [.pointer (some ⟨b, 0, none⟩)] (Box b 80 [.pointer (some ⟨b, 0, none⟩), .slice oa n c] :: M) F Unit (fun _ => .tuple #[]) (fun _ => Box b 80 [.pointer (some ⟨b, 0, none⟩), .slice oa n c] :: M) (fun _ => F) := by
  refine Ctr.body Try.func65 rfl rfl ?_
  refine TR.seq ?_
  refine TR.region ?_
  refine RL.move rfl rfl rfl ?_
  refine RL.nilCheck rfl rfl rfl ?_
  refine RL.fieldAddr rfl i_tf80_0 rfl rfl ?_
  refine RL.load1 0 rfl i_ts77 rfl rfl rfl rfl ?_
  refine RL.bin rfl rfl rfl (BinV.eqlPtrNil i_tp77) rfl ?_
  refine RL.nil ?_
  refine NX.seq ?_
  refine TR.condF rfl ?_
  refine TR.seq ?_
  refine TR.region ?_
  refine RL.move rfl rfl rfl ?_
  refine RL.nilCheck rfl rfl rfl ?_
  refine RL.fieldAddr rfl i_tf80_0 rfl rfl ?_
  refine RL.load1 0 rfl i_ts77 rfl rfl rfl rfl ?_
  refine RL.move rfl rfl rfl ?_
  refine RL.bin rfl rfl rfl (BinV.neqPtrSame i_tp77 i_tz80) rfl ?_
  refine RL.nil ?_
  refine NX.seq ?_
  refine TR.condF rfl ?_
  refine TR.skip ?_
  exact NX.end0 () rfl rfl (fun w hw => hw)

theorem copyCheck_spec {b : Nat} {oa : Option Addr} {n c : Nat} {M : List HP} {F : List Fact} (i : Bool) : Ctr Try.prog 65 [.pointer (some ⟨b, 0, none⟩)] (Box b 80 [.pointer (if i then some ⟨b, 0, none⟩ else none), .slice oa n c] :: M) F Unit (fun _ => .tuple #[]) (fun _ => Box b 80 [.pointer (some ⟨b, 0, none⟩), .slice oa n c] :: M) (fun _ => F) := by
  cases i
  · exact copyCheck0_spec
  · exact copyCheck1_spec

theorem writeString_spec {b : Nat} {l x : List UInt8} {M : List HP} {F : List Fact} (hl : l.length + x.length ≤ 140737488355328) : Ctr Try.prog 54 [.pointer (some ⟨b, 0, none⟩), S x] (Bld 80 5 b l :: M) F Unit (fun _ => .tuple #[I x.length, .nilIface]) (fun _ => Bld 80 5 b (l ++ x) :: M) (fun _ => F) := by
  refine Ctr.body Try.func54 rfl rfl ?_
  refine TR.seq ?_
  refine TR.region ?_
  refine RL.open (fun w hw => St.exOpen hw) (fun i => ?_)
  refine RL.assign rfl rfl rfl ?_
  refine RL.assign rfl rfl rfl ?_
  refine RL.nil ?_
  refine NX.seq ?_
  refine TR.seq ?_
  refine TR.region ?_
  refine RL.move rfl rfl rfl ?_
  refine RL.call rfl rfl Try.call65 rfl (copyCheck_spec i.1) (fun _ => ?_)
  refine RL.nil ?_
  refine NX.seq ?_
  refine TR.seq ?_
  refine TR.region ?_
  refine RL.move rfl rfl rfl ?_
  refine RL.move rfl rfl rfl ?_
  refine RL.nilCheck rfl rfl rfl ?_
  refine RL.fieldAddr rfl i_tf80_1 rfl rfl ?_
  refine RL.load1 0 rfl i_ts78 rfl rfl rfl rfl ?_
  refine RL.move rfl rfl rfl ?_
  refine RL.ofGV rfl rfl (GV.append (j := 1) i_tl78 i_ni9 i_te5 rfl rfl rfl (src_str x) (by omega) (by omega)) (fun z => ?_)
  refine RL.nilCheck rfl rfl rfl ?_
  refine RL.fieldAddr rfl i_tf80_1 rfl rfl ?_
  refine RL.store1 0 rfl i_ts78 rfl rfl rfl rfl rfl ?_
  refine RL.nil ?_
  refine NX.seq ?_
  refine TR.seq ?_
  refine TR.region ?_
  refine RL.move rfl rfl rfl ?_
  refine RL.lenStr rfl i_tstr9 rfl rfl ?_
  refine RL.assign rfl rfl rfl ?_
  refine RL.assign rfl rfl rfl ?_
  refine RL.nil ?_
  refine NX.seq ?_
  refine TR.ret ?_
  exact NX.ret2 () rfl rfl rfl rfl (fun w hw => St.exClose (true, z.1, z.2) (by rw [bytesV_append, List.length_append]; exact hw))

theorem bString_spec {b : Nat} {l : List UInt8} {M : List HP} {F : List Fact} (hl : l.length ≤ 140737488355328) : Ctr Try.prog 55 [.pointer (some ⟨b, 0, none⟩)] (Bld 80 5 b l :: M) F Unit (fun _ => S l) (fun _ => M) (fun _ => F) := by
  refine Ctr.body Try.func55 rfl rfl ?_
  refine TR.seq ?_
  refine TR.region ?_
  refine RL.open (fun w hw => St.exOpen hw) (fun i => ?_)
  refine RL.assign rfl rfl rfl ?_
  refine RL.nil ?_
  refine NX.seq ?_
  refine TR.seq ?_
  refine TR.sub (E' := [(0, _)]) ⟨rfl, trivial⟩ ?_
  refine TR.draw mixed ?_
  apply AR.more [(0, _), (1, _), (2, _), (3, _), (5, _), (6, _), (7, _), (8, _), (9, _)]
  refine AR.eff [0, 1, 2, 3, 5, 6, 7, 8, 9] 4 [0, 1, 2, 3, 4, 5, 6, 7, 8, 9, 10, 11] ⟨QOne.yes rfl rfl rfl (PV.move rfl), QOne.yes rfl rfl rfl (PV.nilCheck rfl), QOne.yes rfl rfl rfl (PV.fieldAddr i_tf80_1 rfl), QOne.yes rfl rfl rfl (PV.load1 0 i_ts78 rfl rfl rfl), QOne.yes rfl rfl rfl (PV.move rfl), QOne.yes rfl rfl rfl (PV.nilCheck rfl), QOne.yes rfl rfl rfl (PV.fieldAddr i_tf80_1 rfl), QOne.yes rfl rfl rfl (PV.load1 0 i_ts78 rfl rfl rfl), QOne.yes rfl rfl rfl (PV.lenSlice i_tl78 rfl), trivial⟩ rfl rfl rfl rfl rfl rfl rfl (EV.ofGV (GV.sliceData (j := 1) i_tp98 rfl rfl)) (fun q => ?_)
  refine AR.done [3, 2, 1, 0] rfl ?_
  refine AR.eff [5, 6, 7, 8, 9] 10 [0, 1, 2, 3, 4, 5, 6, 7, 8, 9, 10, 11] ⟨QOne.yes rfl rfl rfl (PV.move rfl), QOne.yes rfl rfl rfl (PV.nilCheck rfl), QOne.yes rfl rfl rfl (PV.fieldAddr i_tf80_1 rfl), QOne.yes rfl rfl rfl (PV.load1 0 i_ts78 rfl rfl rfl), QOne.yes rfl rfl rfl (PV.lenSlice i_tl78 rfl), trivial⟩ rfl rfl rfl rfl rfl rfl rfl (EV.ofGV (GV.unsafeString (j := 1) i_tp98 cells5 rfl rfl q.2 (by omega) rfl)) (fun _ => ?_)
  refine AR.done [9, 8, 7, 6, 5] rfl ?_
  apply AR.more [(11, _)]
  refine AR.last [11] [0, 1, 2, 3, 4, 5, 6, 7, 8, 9, 10, 11] ⟨QOne.yes rfl rfl rfl (PV.assign rfl), trivial⟩ rfl rfl rfl ?_
  refine NX.sub (E' := [(0, _), (2, _), (3, _), (4, _), (5, _), (6, _), (7, _), (8, _), (9, _), (10, _), (11, _), (12, _), (13, _)]) ⟨rfl, rfl, rfl, rfl, rfl, rfl, rfl, rfl, rfl, rfl, rfl, rfl, rfl, trivial⟩ ?_
  refine NX.seq ?_
  refine TR.ret ?_
  exact NX.ret1 () rfl rfl rfl (fun w hw => (hw.drop 0 rfl).drop 0 rfl)

theorem text_spec {t : Tree} {a : Option Addr} {len cap : Nat} {M : List HP} {F : List Fact} (ht : TreeF t (nodeV t a len cap) ∈ F) (hwd : t.width ≤ 140737488355328) : Ctr Try.prog 19 [nodeV t a len cap] M F Unit (fun _ => S t.text) (fun _ => M) (fun _ => F) := by
  refine Ctr.bodyM Try.func19 rfl rfl ?_
  refine TR.seq ?_
  refine TR.region ?_
  refine RL.boxA rfl rfl rfl (fun b1 => ?_)
  refine RL.assign rfl rfl rfl ?_
  refine RL.nil ?_
  refine NX.seq ?_
  refine TR.seq ?_
  refine TR.region ?_
  refine RL.allocA rfl (Try.zeroValue80) rfl (fun b2 => ?_)
  refine RL.weak (fun w hw => St.bldNew (e := 5) hw) ?_
  refine RL.nil ?_
  refine NX.seq ?_
  refine TR.seq ?_
  refine TR.seq ?_
  refine TR.region ?_
  refine RL.loadA 1 rfl rfl rfl i_ta25 rfl ?_
  refine RL.call rfl rfl Try.call52 rfl (all_spec (nodeC t a len cap) _ _) (fun bc => ?_)
  refine RL.nil ?_
  refine NX.seq ?_
  refine TR.block ?_
  refine TR.rangeFunc (κ := Nat) (xs := t.pre) rfl Try.call63 (by simp) nodeEnc_len (all_iter (.tail _ ht) (.head _)) (fun pre => [Bld 80 5 b2 (textOf pre)]) (Box b1 25 (nodeC t a len cap) :: M) (fun w hw => hw) (fun pre x args b => [(3, .pointer (some ⟨b2, 0, none⟩)), (4, .pointer (some ⟨b, 0, none⟩))]) (fun pre x args b => [Box b 25 (argCells args), Bld 80 5 b2 (textOf pre)]) ?as0 ?bd0 ?ki0
  case as0 =>
    intro l pre x suf args hx he Mi G hG
    obtain ⟨a2, len2, cap2, rfl⟩ := he
    refine TR.region ?_
    refine RL.allocA rfl (Try.zeroValue25) rfl (fun b3 => ?_)
    refine RL.storeA 0 rfl rfl rfl rfl i_tz25 rfl rfl ?_
    refine RL.nil ?_
    exact NX.meet b3 ⟨rfl, rfl, trivial⟩ (fun w hw => hw)
  case bd0 =>
    intro l pre x suf args i hx he Mi G hG
    obtain ⟨a2, len2, cap2, rfl⟩ := he
    refine TR.block ?_
    refine TR.seq ?_
    refine TR.region ?_
    refine RL.loadA 0 rfl rfl rfl i_ta25 rfl ?_
    refine RL.call rfl rfl Try.call53 rfl (leaf_spec x.id x.kind x.txt a2 len2 cap2 _ _) (fun _ => ?_)
    refine RL.nil ?_
    refine NX.seq ?_
    refine TR.cond rfl (fun h4 => ?_) (fun h4 => ?_)
    · skip
      have hlf := h4
      have hp := textOf_parts hx
      rw [leafText_T h4] at hp
      have hwd2 : (textOf t.pre).length ≤ 140737488355328 := hwd
      refine TR.region ?_
      refine RL.fieldAddr rfl i_tf25_2 rfl rfl ?_
      refine RL.load1 0 rfl i_ts9 rfl rfl rfl rfl ?_
      refine RL.call rfl rfl Try.call54 rfl (Ctr.frame1 [_] (writeString_spec (by omega))) (fun _ => ?_)
      refine RL.nil ?_
      refine NX.off ?_
      exact fun a w _ hw => by
        have h9 := hw.drop 0 rfl
        show St w (Bld 80 5 b2 (textOf (pre ++ [x])) :: Mi) G
        rw [textOf_snoc, leafText_T hlf]
        exact h9
    · skip
      have hlf := h4
      refine TR.skip ?_
      refine NX.off ?_
      exact fun a w _ hw => by
        have h9 := hw.drop 0 rfl
        show St w (Bld 80 5 b2 (textOf (pre ++ [x])) :: Mi) G
        rw [textOf_snoc, leafText_F hlf, List.append_nil]
        exact h9
  case ki0 =>
    intro D
    refine NX.off ?_
    refine NX.seq ?_
    refine TR.seq ?_
    refine TR.region ?_
    have hwd3 : (textOf t.pre).length ≤ 140737488355328 := hwd
    refine RL.call rfl rfl Try.call55 rfl (Ctr.frame0 [_] (bString_spec hwd)) (fun _ => ?_)
    refine RL.assign rfl rfl rfl ?_
    refine RL.nil ?_
    refine NX.seq ?_
    refine TR.ret ?_
    refine NX.retM 0 () rfl rfl rfl rfl (fun w hw => (hw.tail).facts (fun φ h => .tail _ h))

end Go.Proofs.Ytnolpmigiboanaa
