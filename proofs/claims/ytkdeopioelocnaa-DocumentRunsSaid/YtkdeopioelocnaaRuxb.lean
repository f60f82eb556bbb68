/- Lemmas and walks for the proof of RunJ: texts one behind the other. No condition. -/
import Derived.RangeFuncNested
import Derived.Laws.StructEq
import Derived.Maps.RangeRun
import Derived.Maps.Keyed
import Derived.Carry
import Derived.Laws.RangeAny
import Derived.Test.YtkdeopioelocnaaRuxa
set_option linter.unusedVariables false
set_option linter.unusedSimpArgs false
namespace Go.Proofs.Ytkdeopioelocnaa
open Go.GL
set_option linter.unusedVariables false
theorem qb_ni9 : noInt Try.prog 9 = true := by kernel_rfl
theorem qb_ta78 : tyAgg Try.prog 78 3 = true := by kernel_rfl
theorem qb_te5 : tyElem Try.prog 5 1 1 = true := by kernel_rfl
theorem qb_tf127_0 : fieldOff Try.prog 127 0 0 = true := by kernel_rfl
theorem qb_tf127_1 : fieldOff Try.prog 127 1 1 = true := by kernel_rfl
theorem qb_tf78_0 : fieldOff Try.prog 78 0 0 = true := by kernel_rfl
theorem qb_tf78_1 : fieldOff Try.prog 78 1 1 = true := by kernel_rfl
theorem qb_tf78_2 : fieldOff Try.prog 78 2 2 = true := by kernel_rfl
theorem qb_tl125 : tySlice Try.prog 125 5 = true := by kernel_rfl
theorem qb_tl26 : tySlice Try.prog 26 78 = true := by kernel_rfl
theorem qb_tp124 : tyPtr Try.prog 124 127 = true := by kernel_rfl
theorem qb_tp138 : tyPtr Try.prog 138 5 = true := by kernel_rfl
theorem qb_ts124 : tyScalar Try.prog 124 = true := by kernel_rfl
theorem qb_ts125 : tyScalar Try.prog 125 = true := by kernel_rfl
theorem qb_ts3 : tyScalar Try.prog 3 = true := by kernel_rfl
theorem qb_ts9 : tyScalar Try.prog 9 = true := by kernel_rfl
theorem qb_tstr9 : tyStr Try.prog 9 = true := by kernel_rfl
theorem qb_tu147 : tyUns Try.prog 147 = true := by kernel_rfl
theorem qb_tz127 : tySize Try.prog 127 2 = true := by kernel_rfl
theorem qb_tz78 : tySize Try.prog 78 3 = true := by kernel_rfl
theorem ext68 (v : Value) (w : World) : (callFunc 105 #[v]).run Try.prog w = .ok (.value v) w := by kernel_rfl
theorem lies80 : liesAt Try.prog Try.prog.depth 127 (([Value.pointer none, .slice none 0 0] : List Value).length / Try.prog.cellsOf 127) 0 127 1 = true := by kernel_rfl
theorem cells5 : Nat.beq (Try.prog.cellsOf 5) 1 = true := by kernel_rfl
theorem copyCheck0_spec {b : Nat} {oa : Option Addr} {n c : Nat} {M : List HP} {F : List Fact} : Ctr Try.prog 96 [.pointer (some ⟨b, 0, none⟩)] (Box b 127 [.pointer (none), .slice oa n c] :: M) F Unit (fun _ => .tuple #[]) (fun _ => Box b 127 [.pointer (some ⟨b, 0, none⟩), .slice oa n c] :: M) (fun _ => F) := by
  refine Ctr.body Try.func96 rfl rfl ?_
  refine TR.seq ?_
  refine TR.region ?_
  refine RL.move rfl rfl rfl ?_
  refine RL.nilCheck rfl rfl rfl ?_
  refine RL.fieldAddr rfl qb_tf127_0 rfl rfl ?_
  refine RL.load1 0 rfl qb_ts124 rfl rfl rfl rfl ?_
  refine RL.bin rfl rfl rfl (BinV.eqlPtrNil qb_tp124) rfl ?_
  refine RL.nil ?_
  refine NX.seq ?_
  refine TR.condT rfl ?_
  refine TR.region ?_
  refine RL.move rfl rfl rfl ?_
  refine RL.move rfl rfl rfl ?_
  refine RL.toUnsafe 0 rfl qb_tp124 qb_tz127 rfl qb_tu147 rfl rfl rfl rfl ?_
  refine RL.callX rfl rfl (ext68 _) rfl ?_
  refine RL.fromUnsafe 0 rfl qb_tu147 qb_tz127 qb_tp124 rfl rfl lies80 rfl ?_
  refine RL.nilCheck rfl rfl rfl ?_
  refine RL.fieldAddr rfl qb_tf127_0 rfl rfl ?_
  refine RL.store1 0 rfl qb_ts124 rfl rfl rfl rfl rfl ?_
  refine RL.nil ?_
  exact NX.end0 () rfl rfl (fun w hw => hw)
theorem copyCheck1_spec {b : Nat} {oa : Option Addr} {n c : Nat} {M : List HP} {F : List Fact} : Ctr Try.prog 96 [.pointer (some ⟨b, 0, none⟩)] (Box b 127 [.pointer (some ⟨b, 0, none⟩), .slice oa n c] :: M) F Unit (fun _ => .tuple #[]) (fun _ => Box b 127 [.pointer (some ⟨b, 0, none⟩), .slice oa n c] :: M) (fun _ => F) := by
  refine Ctr.body Try.func96 rfl rfl ?_
  refine TR.seq ?_
  refine TR.region ?_
  refine RL.move rfl rfl rfl ?_
  refine RL.nilCheck rfl rfl rfl ?_
  refine RL.fieldAddr rfl qb_tf127_0 rfl rfl ?_
  refine RL.load1 0 rfl qb_ts124 rfl rfl rfl rfl ?_
  refine RL.bin rfl rfl rfl (BinV.eqlPtrNil qb_tp124) rfl ?_
  refine RL.nil ?_
  refine NX.seq ?_
  refine TR.condF rfl ?_
  refine TR.seq ?_
  refine TR.region ?_
  refine RL.move rfl rfl rfl ?_
  refine RL.nilCheck rfl rfl rfl ?_
  refine RL.fieldAddr rfl qb_tf127_0 rfl rfl ?_
  refine RL.load1 0 rfl qb_ts124 rfl rfl rfl rfl ?_
  refine RL.move rfl rfl rfl ?_
  refine RL.bin rfl rfl rfl (BinV.neqPtrSame qb_tp124 qb_tz127) rfl ?_
  refine RL.nil ?_
  refine NX.seq ?_
  refine TR.condF rfl ?_
  refine TR.skip ?_
  exact NX.end0 () rfl rfl (fun w hw => hw)
theorem copyCheck_spec {b : Nat} {oa : Option Addr} {n c : Nat} {M : List HP} {F : List Fact} (i : Bool) : Ctr Try.prog 96 [.pointer (some ⟨b, 0, none⟩)] (Box b 127 [.pointer (if i then some ⟨b, 0, none⟩ else none), .slice oa n c] :: M) F Unit (fun _ => .tuple #[]) (fun _ => Box b 127 [.pointer (some ⟨b, 0, none⟩), .slice oa n c] :: M) (fun _ => F) := by
  cases i
  · exact copyCheck0_spec
  · exact copyCheck1_spec
theorem writeString_spec {b : Nat} {l x : List UInt8} {M : List HP} {F : List Fact} (hl : l.length + x.length ≤ 140737488355328) : Ctr Try.prog 85 [.pointer (some ⟨b, 0, none⟩), S x] (Bld 127 5 b l :: M) F Unit (fun _ => .tuple #[I x.length, .nilIface]) (fun _ => Bld 127 5 b (l ++ x) :: M) (fun _ => F) := by
  refine Ctr.body Try.func85 rfl rfl ?_
  refine TR.seq ?_
  refine TR.region ?_
  refine RL.open (fun w hw => St.exOpen hw) (fun i => ?_)
  refine RL.assign rfl rfl rfl ?_
  refine RL.assign rfl rfl rfl ?_
  refine RL.nil ?_
  refine NX.seq ?_
  refine TR.seq ?_
  refine TR.region ?_
  refine RL.move rfl rfl rfl ?_
  refine RL.call rfl rfl Try.call96 rfl (copyCheck_spec i.1) (fun _ => ?_)
  refine RL.nil ?_
  refine NX.seq ?_
  refine TR.seq ?_
  refine TR.region ?_
  refine RL.move rfl rfl rfl ?_
  refine RL.move rfl rfl rfl ?_
  refine RL.nilCheck rfl rfl rfl ?_
  refine RL.fieldAddr rfl qb_tf127_1 rfl rfl ?_
  refine RL.load1 0 rfl qb_ts125 rfl rfl rfl rfl ?_
  refine RL.move rfl rfl rfl ?_
  refine RL.ofGV rfl rfl (GV.append (j := 1) qb_tl125 qb_ni9 qb_te5 rfl rfl rfl (src_str x) (by omega) (by omega)) (fun z => ?_)
  refine RL.nilCheck rfl rfl rfl ?_
  refine RL.fieldAddr rfl qb_tf127_1 rfl rfl ?_
  refine RL.store1 0 rfl qb_ts125 rfl rfl rfl rfl rfl ?_
  refine RL.nil ?_
  refine NX.seq ?_
  refine TR.seq ?_
  refine TR.region ?_
  refine RL.move rfl rfl rfl ?_
  refine RL.lenStr rfl qb_tstr9 rfl rfl ?_
  refine RL.assign rfl rfl rfl ?_
  refine RL.assign rfl rfl rfl ?_
  refine RL.nil ?_
  refine NX.seq ?_
  refine TR.ret ?_
  exact NX.ret2 () rfl rfl rfl rfl (fun w hw => St.exClose (true, z.1, z.2) (by rw [bytesV_append, List.length_append]; exact hw))
set_option maxRecDepth 100000 in
theorem bString_spec {b : Nat} {l : List UInt8} {M : List HP} {F : List Fact} (hl : l.length ≤ 140737488355328) : Ctr Try.prog 86 [.pointer (some ⟨b, 0, none⟩)] (Bld 127 5 b l :: M) F Unit (fun _ => S l) (fun _ => M) (fun _ => F) := by
  refine Ctr.body Try.func86 rfl rfl ?_
  refine TR.seq ?_
  refine TR.region ?_
  refine RL.open (fun w hw => St.exOpen hw) (fun i => ?_)
  refine RL.assign rfl rfl rfl ?_
  refine RL.nil ?_
  refine NX.seq ?_
  refine TR.seq ?_
  refine TR.sub (E' := [(0, _), (2, _)]) ⟨rfl, rfl, trivial⟩ ?_
  refine TR.draw mixed ?_
  apply AR.more [(0, _), (1, _), (2, _), (3, _), (5, _), (6, _), (7, _), (8, _), (9, _)]
  refine AR.eff [0, 1, 2, 3, 5, 6, 7, 8, 9] 4 [0, 1, 2, 3, 4, 5, 6, 7, 8, 9, 10, 11] ⟨QOne.yes rfl rfl rfl (PV.move rfl), QOne.yes rfl rfl rfl (PV.nilCheck rfl), QOne.yes rfl rfl rfl (PV.fieldAddr qb_tf127_1 rfl), QOne.yes rfl rfl rfl (PV.load1 0 qb_ts125 rfl rfl rfl), QOne.yes rfl rfl rfl (PV.move rfl), QOne.yes rfl rfl rfl (PV.nilCheck rfl), QOne.yes rfl rfl rfl (PV.fieldAddr qb_tf127_1 rfl), QOne.yes rfl rfl rfl (PV.load1 0 qb_ts125 rfl rfl rfl), QOne.yes rfl rfl rfl (PV.lenSlice qb_tl125 rfl), trivial⟩ rfl rfl rfl rfl rfl rfl rfl (EV.ofGV (GV.sliceData (j := 1) qb_tp138 rfl rfl)) (fun q => ?_)
  refine AR.done [3, 2, 1, 0] rfl ?_
  refine AR.eff [5, 6, 7, 8, 9] 10 [0, 1, 2, 3, 4, 5, 6, 7, 8, 9, 10, 11] ⟨QOne.yes rfl rfl rfl (PV.move rfl), QOne.yes rfl rfl rfl (PV.nilCheck rfl), QOne.yes rfl rfl rfl (PV.fieldAddr qb_tf127_1 rfl), QOne.yes rfl rfl rfl (PV.load1 0 qb_ts125 rfl rfl rfl), QOne.yes rfl rfl rfl (PV.lenSlice qb_tl125 rfl), trivial⟩ rfl rfl rfl rfl rfl rfl rfl (EV.ofGV (GV.unsafeString (j := 1) qb_tp138 cells5 rfl rfl q.2 (by omega) rfl)) (fun _ => ?_)
  refine AR.done [9, 8, 7, 6, 5] rfl ?_
  apply AR.more [(11, _)]
  refine AR.last [11] [0, 1, 2, 3, 4, 5, 6, 7, 8, 9, 10, 11] ⟨QOne.yes rfl rfl rfl (PV.assign rfl), trivial⟩ rfl rfl rfl ?_
  refine NX.sub (E' := [(2, _)]) ⟨rfl, trivial⟩ ?_
  refine NX.seq ?_
  refine TR.ret ?_
  exact NX.ret1 () rfl rfl rfl (fun w hw => (hw.drop 0 rfl).drop 0 rfl)
theorem sound_spec {es : List Ed} {oa : Option Addr} {ca : Nat} {size : Int} {M : List HP} {F : List Fact} (ha : ArrF oa (edC es) ∈ F) (hl : es.length ≤ 4611686018427387904) : Ctr Try.prog 81 [.slice oa es.length ca, I size] M F Unit (fun _ => I (soundE size es)) (fun _ => M) (fun _ => F) := by
  refine Ctr.body Try.func81 rfl rfl ?_
  refine TR.seq ?_
  refine TR.region ?_
  refine RL.assign rfl rfl rfl ?_
  refine RL.nil ?_
  refine NX.seq ?_
  refine TR.seq ?_
  refine TR.seq ?_
  refine TR.region ?_
  refine RL.move rfl rfl rfl ?_
  refine RL.lenSlice rfl qb_tl26 rfl rfl ?_
  refine RL.bin rfl rfl rfl BinV.gtr rfl ?_
  refine RL.nil ?_
  refine NX.seq ?_
  refine TR.cond rfl (fun h1 => ?_) (fun h1 => ?_)
  · skip
    have hbig : 64 < es.length := by have := of_decide_eq_true h1; omega
    refine TR.seq ?_
    refine TR.region ?_
    refine RL.assign rfl rfl rfl ?_
    refine RL.nil ?_
    refine NX.seq ?_
    refine TR.ret ?_
    refine NX.retThen ?_
    exact NX.ret1 () rfl rfl (by unfold soundE; rw [if_pos hbig]) (fun w hw => hw)
  · skip
    have hsm : ¬ 64 < es.length := by have := of_decide_eq_false h1; omega
    refine TR.skip ?_
    refine NX.seq ?_
    refine TR.seq ?_
    refine TR.region ?_
    refine RL.assign rfl rfl rfl ?_
    refine RL.nil ?_
    refine NX.seq ?_
    refine TR.seq ?_
    refine TR.seq ?_
    refine TR.region ?_
    refine RL.move rfl rfl rfl ?_
    refine RL.lenSlice rfl qb_tl26 rfl rfl ?_
    refine RL.move rfl rfl rfl ?_
    refine RL.nil ?_
    refine NX.seq ?_
    refine TR.block ?_
    refine TR.loopP (ι := Nat × Int) (fun x => x.1 ≤ es.length ∧ sound1 size x.2 (es.drop x.1) = sound1 size 0 es) (fun x => [(0, .slice oa es.length ca), (1, I size), (5, I x.2), (11, .slice oa es.length ca), (12, I es.length), (13, I x.1)]) (fun _ => M) (fun _ => F) (fun x => es.length - x.1) (0, 0) ⟨Nat.zero_le _, rfl⟩ ⟨rfl, rfl, rfl, rfl, rfl, rfl, trivial⟩ (fun w hw => hw) (fun x hx => ?_)
    refine TR.seq ?_
    refine TR.region ?_
    refine RL.bin rfl rfl rfl BinV.lss rfl ?_
    refine RL.nil ?_
    refine NX.seq ?_
    refine TR.seq ?_
    refine TR.cond rfl (fun h2 => ?_) (fun h2 => ?_)
    · skip
      have hk1 : x.1 < es.length := by have := of_decide_eq_true h2; omega
      have hdk := List.drop_eq_getElem_cons hk1
      refine TR.openP (open_arr (oa := oa) (xs := edC es) ha (fun e => by have h8 := edC_length es; rw [e] at h8; simp at h8; omega)) (fun pq hpa => ?_)
      refine TR.skip ?_
      refine NX.seq ?_
      refine TR.seq ?_
      refine TR.block ?_
      refine TR.seq ?_
      refine TR.region ?_
      refine RL.indexAddr rfl qb_tl26 qb_tz78 (congrArg (fun a => some (Value.slice a _ _)) hpa) rfl (by omega) (by omega) rfl ?_
      refine RL.loadF rfl rfl (fun w K hF => run_ed (hF _ (.head _)) qb_ta78 hk1) rfl ?_
      refine RL.allocA rfl (Try.zeroValue78) rfl (fun b3 => ?_)
      refine RL.storeA 0 rfl rfl rfl rfl qb_tz78 rfl rfl ?_
      refine RL.nil ?_
      refine NX.seq ?_
      refine TR.seq ?_
      refine TR.block ?_
      refine TR.seq ?_
      refine TR.region ?_
      refine RL.fieldAddr rfl qb_tf78_0 rfl rfl ?_
      refine RL.load1 0 rfl qb_ts3 rfl rfl rfl rfl ?_
      refine RL.bin rfl rfl rfl BinV.lss rfl ?_
      refine RL.move rfl rfl rfl ?_
      refine RL.part (fun h4 => ?_) (fun h4 => ?_)
      · skip
        have hA := of_decide_eq_true h4
        have hbad : es[x.1].f < 0 ∨ es[x.1].t < es[x.1].f ∨ size < es[x.1].t := .inl hA
        refine RL.skip rfl rfl rfl ?_
        refine RL.skip rfl rfl rfl ?_
        refine RL.skip rfl rfl rfl ?_
        refine RL.skip rfl rfl rfl ?_
        refine RL.skip rfl rfl rfl ?_
        refine RL.pickT rfl rfl rfl rfl ?_
        refine RL.move rfl rfl rfl ?_
        refine RL.skip rfl rfl rfl ?_
        refine RL.skip rfl rfl rfl ?_
        refine RL.skip rfl rfl rfl ?_
        refine RL.skip rfl rfl rfl ?_
        refine RL.pickT rfl rfl rfl rfl ?_
        refine RL.assign rfl rfl rfl ?_
        refine RL.nil ?_
        refine NX.seq ?_
        refine TR.condT rfl ?_
        refine TR.seq ?_
        refine TR.region ?_
        refine RL.assign rfl rfl rfl ?_
        refine RL.nil ?_
        refine NX.seq ?_
        refine TR.ret ?_
        refine NX.retBlock ?_
        refine NX.retThen ?_
        refine NX.retBlock ?_
        refine NX.retThen ?_
        refine NX.retThen ?_
        refine NX.retBlock ?_
        refine NX.retThen ?_
        have h9 := hx.2
        rw [hdk, sound1_bad hbad] at h9
        exact NX.ret1 () rfl rfl (by unfold soundE; rw [if_neg hsm, ← h9]) (fun w hw => hw.tail.facts (fun φ h => .tail _ (h)))
      · skip
        have hA := of_decide_eq_false h4
        refine RL.fieldAddr rfl qb_tf78_1 rfl rfl ?_
        refine RL.load1 0 rfl qb_ts3 rfl rfl rfl rfl ?_
        refine RL.fieldAddr rfl qb_tf78_0 rfl rfl ?_
        refine RL.load1 0 rfl qb_ts3 rfl rfl rfl rfl ?_
        refine RL.bin rfl rfl rfl BinV.lss rfl ?_
        refine RL.pickF rfl rfl rfl rfl ?_
        refine RL.move rfl rfl rfl ?_
        refine RL.part (fun h5 => ?_) (fun h5 => ?_)
        · skip
          have hB := of_decide_eq_true h5
          have hbad : es[x.1].f < 0 ∨ es[x.1].t < es[x.1].f ∨ size < es[x.1].t := .inr (.inl hB)
          refine RL.skip rfl rfl rfl ?_
          refine RL.skip rfl rfl rfl ?_
          refine RL.skip rfl rfl rfl ?_
          refine RL.skip rfl rfl rfl ?_
          refine RL.pickT rfl rfl rfl rfl ?_
          refine RL.assign rfl rfl rfl ?_
          refine RL.nil ?_
          refine NX.seq ?_
          refine TR.condT rfl ?_
          refine TR.seq ?_
          refine TR.region ?_
          refine RL.assign rfl rfl rfl ?_
          refine RL.nil ?_
          refine NX.seq ?_
          refine TR.ret ?_
          refine NX.retBlock ?_
          refine NX.retThen ?_
          refine NX.retBlock ?_
          refine NX.retThen ?_
          refine NX.retThen ?_
          refine NX.retBlock ?_
          refine NX.retThen ?_
          have h9 := hx.2
          rw [hdk, sound1_bad hbad] at h9
          exact NX.ret1 () rfl rfl (by unfold soundE; rw [if_neg hsm, ← h9]) (fun w hw => hw.tail.facts (fun φ h => .tail _ (h)))
        · skip
          have hB := of_decide_eq_false h5
          refine RL.fieldAddr rfl qb_tf78_1 rfl rfl ?_
          refine RL.load1 0 rfl qb_ts3 rfl rfl rfl rfl ?_
          refine RL.move rfl rfl rfl ?_
          refine RL.bin rfl rfl rfl BinV.gtr rfl ?_
          refine RL.pickF rfl rfl rfl rfl ?_
          refine RL.assign rfl rfl rfl ?_
          refine RL.nil ?_
          refine NX.seq ?_
          refine TR.cond rfl (fun h6 => ?_) (fun h6 => ?_)
          · skip
            have hC := of_decide_eq_true h6
            have hbad : es[x.1].f < 0 ∨ es[x.1].t < es[x.1].f ∨ size < es[x.1].t := .inr (.inr hC)
            refine TR.seq ?_
            refine TR.region ?_
            refine RL.assign rfl rfl rfl ?_
            refine RL.nil ?_
            refine NX.seq ?_
            refine TR.ret ?_
            refine NX.retBlock ?_
            refine NX.retThen ?_
            refine NX.retBlock ?_
            refine NX.retThen ?_
            refine NX.retThen ?_
            refine NX.retBlock ?_
            refine NX.retThen ?_
            have h9 := hx.2
            rw [hdk, sound1_bad hbad] at h9
            exact NX.ret1 () rfl rfl (by unfold soundE; rw [if_neg hsm, ← h9]) (fun w hw => hw.tail.facts (fun φ h => .tail _ (h)))
          · skip
            have hC := of_decide_eq_false h6
            have hok : ¬ (es[x.1].f < 0 ∨ es[x.1].t < es[x.1].f ∨ size < es[x.1].t) := by rintro (h | h | h) <;> contradiction
            refine TR.seq ?_
            refine TR.region ?_
            refine RL.fieldAddr rfl qb_tf78_0 rfl rfl ?_
            refine RL.load1 0 rfl qb_ts3 rfl rfl rfl rfl ?_
            refine RL.move rfl rfl rfl ?_
            refine RL.bin rfl rfl rfl BinV.lss rfl ?_
            refine RL.assign rfl rfl rfl ?_
            refine RL.nil ?_
            refine NX.seq ?_
            refine TR.cond rfl (fun h7 => ?_) (fun h7 => ?_)
            · skip
              have hlow : es[x.1].f < x.2 := of_decide_eq_true h7
              refine TR.seq ?_
              refine TR.region ?_
              refine RL.assign rfl rfl rfl ?_
              refine RL.nil ?_
              refine NX.seq ?_
              refine TR.ret ?_
              refine NX.retBlock ?_
              refine NX.retThen ?_
              refine NX.retBlock ?_
              refine NX.retThen ?_
              refine NX.retThen ?_
              refine NX.retBlock ?_
              refine NX.retThen ?_
              have h9 := hx.2
              rw [hdk, sound1_low hok hlow] at h9
              exact NX.ret1 () rfl rfl (by unfold soundE; rw [if_neg hsm, ← h9]) (fun w hw => hw.tail.facts (fun φ h => .tail _ (h)))
            · skip
              have hge : ¬ es[x.1].f < x.2 := of_decide_eq_false h7
              refine TR.skip ?_
              refine NX.off ?_
              refine NX.seq ?_
              refine TR.region ?_
              refine RL.fieldAddr rfl qb_tf78_1 rfl rfl ?_
              refine RL.load1 0 rfl qb_ts3 rfl rfl rfl rfl ?_
              refine RL.assign rfl rfl rfl ?_
              refine RL.nil ?_
              refine NX.off ?_
              refine NX.seq ?_
              refine TR.region ?_
              refine RL.bin rfl rfl rfl (BinV.add _ rfl (by omega) (by omega)) rfl ?_
              refine RL.move rfl rfl rfl ?_
              refine RL.nil ?_
              have h9 := hx.2
              rw [hdk, sound1_on hok hge] at h9
              refine NX.roundP (x.1 + 1, es[x.1].t) ⟨hk1, h9⟩ (by show _ - (x.1 + 1) < _ - x.1; omega) ⟨rfl, rfl, rfl, rfl, rfl, rfl, trivial⟩ (fun w hw => hw.tail.facts (fun φ h => .tail _ (h)))
    · skip
      have hk2 : x.1 = es.length := by have := of_decide_eq_false h2; have := hx.1; omega
      refine TR.exit ?_
      refine NX.exitThen ?_
      refine NX.exitThen ?_
      refine NX.exitHere ?_
      refine NX.seq ?_
      refine TR.seq ?_
      refine TR.region ?_
      refine RL.assign rfl rfl rfl ?_
      refine RL.nil ?_
      refine NX.seq ?_
      refine TR.ret ?_
      have h9 := hx.2
      rw [hk2, List.drop_length, sound1] at h9
      exact NX.ret1 () rfl rfl (by unfold soundE; rw [if_neg hsm, ← h9]) (fun w hw => hw)
theorem valid_spec {s : List UInt8} {es : List Ed} {oa : Option Addr} {ca : Nat} {M : List HP} {F : List Fact} (ha : ArrF oa (edC es) ∈ F) (hl : es.length ≤ 4611686018427387904) : Ctr Try.prog 56 [S s, .slice oa es.length ca] M F Unit (fun _ => I (soundE s.length es)) (fun _ => M) (fun _ => F) := by
  refine Ctr.body Try.func56 rfl rfl ?_
  refine TR.seq ?_
  refine TR.region ?_
  refine RL.assign rfl rfl rfl ?_
  refine RL.nil ?_
  refine NX.seq ?_
  refine TR.seq ?_
  refine TR.region ?_
  refine RL.move rfl rfl rfl ?_
  refine RL.move rfl rfl rfl ?_
  refine RL.lenStr rfl qb_tstr9 rfl rfl ?_
  refine RL.call rfl rfl Try.call81 rfl (sound_spec ha hl) (fun _ => ?_)
  refine RL.assign rfl rfl rfl ?_
  refine RL.nil ?_
  refine NX.seq ?_
  refine TR.ret ?_
  exact NX.ret1 () rfl rfl rfl (fun w hw => hw)
structure ApX where
  k : Nat
  q : Nat
  B : List UInt8
theorem applyI_spec {s : List UInt8} {es : List Ed} {oa : Option Addr} {ca : Nat} {M : List HP} {F : List Fact} (ha : ArrF oa (edC es) ∈ F) (hl : es.length ≤ 4611686018427387904) (hv : sound1 s.length 0 es = 0) (hb : (applyGo s 0 es).length ≤ 140737488355328) : Ctr Try.prog 65 [S s, .slice oa es.length ca] M F Unit (fun _ => S (applyGo s 0 es)) (fun _ => M) (fun _ => F) := by
  refine Ctr.body Try.func65 rfl rfl ?_
  refine TR.seq ?_
  refine TR.region ?_
  refine RL.assign rfl rfl rfl ?_
  refine RL.nil ?_
  refine NX.seq ?_
  refine TR.seq ?_
  refine TR.region ?_
  refine RL.allocA rfl (Try.zeroValue127) rfl (fun b1 => ?_)
  refine RL.weak (fun w hw => St.bldNew (e := 5) hw) ?_
  refine RL.nil ?_
  refine NX.seq ?_
  refine TR.seq ?_
  refine TR.region ?_
  refine RL.assign rfl rfl rfl ?_
  refine RL.nil ?_
  refine NX.seq ?_
  refine TR.seq ?_
  refine TR.seq ?_
  refine TR.region ?_
  refine RL.move rfl rfl rfl ?_
  refine RL.lenSlice rfl qb_tl26 rfl rfl ?_
  refine RL.move rfl rfl rfl ?_
  refine RL.nil ?_
  refine NX.seq ?_
  refine TR.block ?_
  refine TR.loopP (ι := ApX) (fun x => x.k ≤ es.length ∧ x.q ≤ s.length ∧ sound1 s.length x.q (es.drop x.k) = 0 ∧ x.B ++ applyGo s x.q (es.drop x.k) = applyGo s 0 es) (fun x => [(0, S s), (5, .pointer (some ⟨b1, 0, none⟩)), (6, I x.q), (9, .slice oa es.length ca), (10, I es.length), (11, I x.k)]) (fun x => Bld 127 5 b1 x.B :: M) (fun _ => F) (fun x => es.length - x.k) ⟨0, 0, []⟩ ⟨Nat.zero_le _, Nat.zero_le _, hv, rfl⟩ ⟨rfl, rfl, rfl, rfl, rfl, rfl, trivial⟩ (fun w hw => hw) (fun x hx => ?_)
  refine TR.seq ?_
  refine TR.region ?_
  refine RL.bin rfl rfl rfl BinV.lss rfl ?_
  refine RL.nil ?_
  refine NX.seq ?_
  refine TR.seq ?_
  refine TR.cond rfl (fun h2 => ?_) (fun h2 => ?_)
  · skip
    have hk1 : x.k < es.length := by have := of_decide_eq_true h2; omega
    have hdk := List.drop_eq_getElem_cons hk1
    obtain ⟨hq1, hs1, hg1⟩ := hx.2
    rw [hdk] at hs1 hg1
    obtain ⟨h1, h2, h3, h4, h5⟩ := sound1_cons hs1
    refine TR.openP (open_arr (oa := oa) (xs := edC es) ha (fun e => by have h8 := edC_length es; rw [e] at h8; simp at h8; omega)) (fun pq hpa => ?_)
    have hlen := congrArg List.length hg1
    simp only [applyGo, List.length_append] at hlen
    have hl2 : ((s.take es[x.k].f.toNat).drop x.q).length = es[x.k].f.toNat - x.q := by rw [List.length_drop, List.length_take]; omega
    refine TR.skip ?_
    refine NX.seq ?_
    refine TR.seq ?_
    refine TR.block ?_
    refine TR.seq ?_
    refine TR.region ?_
    refine RL.indexAddr rfl qb_tl26 qb_tz78 (congrArg (fun a => some (Value.slice a _ _)) hpa) rfl (by omega) (by omega) rfl ?_
    refine RL.loadF rfl rfl (fun w K hF => run_ed (hF _ (.head _)) qb_ta78 hk1) rfl ?_
    refine RL.allocA rfl (Try.zeroValue78) rfl (fun b3 => ?_)
    refine RL.storeA 0 rfl rfl rfl rfl qb_tz78 rfl rfl ?_
    refine RL.nil ?_
    refine NX.seq ?_
    refine TR.seq ?_
    refine TR.region ?_
    refine RL.move rfl rfl rfl ?_
    refine RL.move rfl rfl rfl ?_
    refine RL.fieldAddr rfl qb_tf78_0 rfl rfl ?_
    refine RL.load1 0 rfl qb_ts3 rfl rfl rfl rfl ?_
    refine RL.sliceS rfl qb_tstr9 rfl rfl rfl (by omega) (by omega) (by omega) rfl ?_
    refine RL.call rfl rfl Try.call85 rfl (Ctr.frame1 [_] (writeString_spec (by rw [Int.toNat_natCast]; omega))) (fun _ => ?_)
    refine RL.nil ?_
    refine NX.seq ?_
    refine TR.seq ?_
    refine TR.region ?_
    refine RL.fieldAddr rfl qb_tf78_2 rfl rfl ?_
    refine RL.load1 0 rfl qb_ts9 rfl rfl rfl rfl ?_
    refine RL.call rfl rfl Try.call85 rfl (Ctr.frame1 [_] (writeString_spec (by rw [List.length_append, Int.toNat_natCast]; omega))) (fun _ => ?_)
    refine RL.nil ?_
    refine NX.seq ?_
    refine TR.region ?_
    refine RL.fieldAddr rfl qb_tf78_1 rfl rfl ?_
    refine RL.load1 0 rfl qb_ts3 rfl rfl rfl rfl ?_
    refine RL.assign rfl rfl rfl ?_
    refine RL.nil ?_
    refine NX.off ?_
    refine NX.seq ?_
    refine TR.region ?_
    refine RL.bin rfl rfl rfl (BinV.add _ rfl (by omega) (by omega)) rfl ?_
    refine RL.move rfl rfl rfl ?_
    refine RL.nil ?_
    have e9 : ((x.B ++ (s.take es[x.k].f.toNat).drop (x.q : Int).toNat) ++ es[x.k].x) ++ applyGo s es[x.k].t.toNat (es.drop (x.k + 1)) = applyGo s 0 es := by
      rw [← hg1, applyGo, Int.toNat_natCast]; simp only [List.append_assoc]
    refine NX.roundP ⟨x.k + 1, es[x.k].t.toNat, (x.B ++ (s.take es[x.k].f.toNat).drop (x.q : Int).toNat) ++ es[x.k].x⟩ ⟨hk1, (show es[x.k].t.toNat ≤ s.length by omega), ?_, e9⟩ (by show _ - (x.k + 1) < _ - x.k; omega) ⟨rfl, rfl, congrArg (fun z => some (I z)) (show es[x.k].t = ((es[x.k].t.toNat : Nat) : Int) by omega), rfl, rfl, rfl, trivial⟩ (fun w hw => hw.tail.facts (fun φ h => .tail _ (h)))
    show sound1 _ ((es[x.k].t.toNat : Nat) : Int) _ = 0
    rw [Int.toNat_of_nonneg (by omega)]; exact h5
  · skip
    have hk2 : x.k = es.length := by have := of_decide_eq_false h2; have := hx.1; omega
    obtain ⟨hq1, hs1, hg1⟩ := hx.2
    rw [hk2, List.drop_length, applyGo] at hg1
    have hlen := congrArg List.length hg1
    rw [List.length_append, List.length_drop] at hlen
    refine TR.exit ?_
    refine NX.exitThen ?_
    refine NX.exitThen ?_
    refine NX.exitHere ?_
    refine NX.seq ?_
    refine TR.seq ?_
    refine TR.region ?_
    refine RL.move rfl rfl rfl ?_
    refine RL.move rfl rfl rfl ?_
    refine RL.sliceSfrom rfl qb_tstr9 rfl rfl  (by omega) (by omega) rfl ?_
    refine RL.call rfl rfl Try.call85 rfl (writeString_spec (by rw [List.length_drop]; omega)) (fun _ => ?_)
    refine RL.nil ?_
    refine NX.seq ?_
    refine TR.seq ?_
    refine TR.region ?_
    have h9 : x.B ++ s.drop (x.q : Int).toNat = applyGo s 0 es := by rw [Int.toNat_natCast]; exact hg1
    refine RL.call rfl rfl Try.call86 rfl (bString_spec (by rw [h9]; exact hb)) (fun _ => ?_)
    refine RL.assign rfl rfl rfl ?_
    refine RL.nil ?_
    refine NX.seq ?_
    refine TR.ret ?_
    exact NX.ret1 () rfl rfl (by rw [h9]) (fun w hw => hw)
theorem apply_spec {s : List UInt8} {es : List Ed} {oa : Option Addr} {ca : Nat} {M : List HP} {F : List Fact} (ha : ArrF oa (edC es) ∈ F) (hl : es.length ≤ 4611686018427387904) (hb : soundE s.length es = 0 → (applyGo s 0 es).length ≤ 140737488355328) : Ctr Try.prog 30 [S s, .slice oa es.length ca] M F Unit (fun _ => .tuple #[S (applyE s es).1, I (applyE s es).2]) (fun _ => M) (fun _ => F) := by
  refine Ctr.body Try.func30 rfl rfl ?_
  refine TR.seq ?_
  refine TR.region ?_
  refine RL.assign rfl rfl rfl ?_
  refine RL.assign rfl rfl rfl ?_
  refine RL.nil ?_
  refine NX.seq ?_
  refine TR.seq ?_
  refine TR.seq ?_
  refine TR.region ?_
  refine RL.move rfl rfl rfl ?_
  refine RL.move rfl rfl rfl ?_
  refine RL.call rfl rfl Try.call56 rfl (valid_spec ha hl) (fun _ => ?_)
  refine RL.assign rfl rfl rfl ?_
  refine RL.nil ?_
  refine NX.seq ?_
  refine TR.seq ?_
  refine TR.region ?_
  refine RL.move rfl rfl rfl ?_
  refine RL.bin rfl rfl rfl BinV.neq rfl ?_
  refine RL.nil ?_
  refine NX.seq ?_
  refine TR.cond rfl (fun h1 => ?_) (fun h1 => ?_)
  · skip
    have hz : ¬ soundE s.length es = 0 := of_decide_eq_true h1
    refine TR.seq ?_
    refine TR.region ?_
    refine RL.move rfl rfl rfl ?_
    refine RL.assign rfl rfl rfl ?_
    refine RL.assign rfl rfl rfl ?_
    refine RL.nil ?_
    refine NX.seq ?_
    refine TR.ret ?_
    refine NX.retThen ?_
    exact NX.ret2 () rfl rfl rfl (by unfold applyE; rw [if_neg hz]) (fun w hw => hw)
  · skip
    have hz : soundE s.length es = 0 := by have := of_decide_eq_false h1; omega
    refine TR.skip ?_
    refine NX.seq ?_
    refine TR.seq ?_
    refine TR.region ?_
    refine RL.move rfl rfl rfl ?_
    refine RL.move rfl rfl rfl ?_
    refine RL.call rfl rfl Try.call65 rfl (applyI_spec ha hl (soundE_sound1 hz) (hb hz)) (fun _ => ?_)
    refine RL.assign rfl rfl rfl ?_
    refine RL.assign rfl rfl rfl ?_
    refine RL.nil ?_
    refine NX.seq ?_
    refine TR.ret ?_
    exact NX.ret2 () rfl rfl rfl (by unfold applyE; rw [if_pos hz]) (fun w hw => hw)
end Go.Proofs.Ytkdeopioelocnaa

namespace Go.GL
set_option linter.unusedVariables false
theorem snoc_ind {α : Type} {p : List α → Prop} (h0 : p []) (h1 : ∀ l x, p l → p (l ++ [x])) (l : List α) : p l := by
  have h : ∀ l : List α, p l.reverse := by
    intro l
    induction l with
    | nil => simpa using h0
    | cons a l ih => rw [List.reverse_cons]; exact h1 _ _ ih
  have := h l.reverse
  rwa [List.reverse_reverse] at this
structure Pa where
  o : Int
  n : Int
  s : Int
def partEnc : Pa → List Value → Prop := fun p args => args = [.agg #[I p.o, I p.n, I p.s]]
theorem partEnc_len (x : Pa) (args : List Value) (h : partEnc x args) : args.length = 1 := by rw [show args = _ from h]; rfl
def growE (e : Ed) : Int := (e.x.length : Int) - (e.t - e.f)
def keptL (size : Int) : Int → Int → List Ed → List Pa
  | old, sh, [] => [⟨old, old + sh, size - old⟩]
  | old, sh, e :: es => ⟨old, old + sh, e.f - old⟩ :: keptL size e.t (sh + growE e) es
def pick2 (p q : Pa) : Option Pa := if max p.n q.o < min (p.n + p.s) (q.o + q.s) then some ⟨p.o + max p.n q.o - p.n, q.n + max p.n q.o - q.o, min (p.n + p.s) (q.o + q.s) - max p.n q.o⟩ else none
def bothIn (qs : List Pa) (p : Pa) : List Pa := qs.filterMap (pick2 p)
def bothL (ps qs : List Pa) : List Pa := ps.flatMap (bothIn qs)
theorem bothL_snoc (ps qs : List Pa) (p : Pa) : bothL (ps ++ [p]) qs = bothL ps qs ++ bothIn qs p := by simp [bothL]
theorem bothIn_snoc (qs : List Pa) (p q : Pa) : bothIn (qs ++ [q]) p = bothIn qs p ++ (match pick2 p q with | some r => [r] | none => []) := by
  unfold bothIn
  rw [List.filterMap_append]
  congr 1
  cases h : pick2 p q <;> simp [h]
def sumG (es : List Ed) : Int := (es.map growE).sum
structure PaIn (z m : Int) (p : Pa) : Prop where
  o0 : 0 ≤ p.o
  n0 : 0 ≤ p.n
  s0 : 0 ≤ p.s
  ot : p.o + p.s ≤ z
  nt : p.n + p.s ≤ m
def Before (p q : Pa) : Prop := p.o + p.s ≤ q.o ∧ p.n + p.s ≤ q.n
theorem kept_in {n : Int} : ∀ {es : List Ed} {old sh : Int}, 0 ≤ old → old ≤ n → 0 ≤ old + sh → sound1 n old es = 0 → ∀ p, p ∈ keptL n old sh es → PaIn n (n + sh + sumG es) p ∧ old ≤ p.o ∧ old + sh ≤ p.n
  | [], old, sh, h0, h1, h2, _, p, hp => by
    rw [keptL, List.mem_singleton] at hp
    subst hp
    exact ⟨⟨h0, h2, by show 0 ≤ n - old; omega, by show old + (n - old) ≤ n; omega, by show old + sh + (n - old) ≤ n + sh + sumG []; simp [sumG]; omega⟩, Int.le_refl _, Int.le_refl _⟩
  | e :: es, old, sh, h0, h1, h2, hs, p, hp => by
    obtain ⟨a1, a2, a3, a4, a5⟩ := sound1_cons hs
    have hg : sumG (e :: es) = growE e + sumG es := by simp [sumG]
    have hge : growE e = (e.x.length : Int) - (e.t - e.f) := rfl
    have ih := kept_in (n := n) (es := es) (old := e.t) (sh := sh + growE e) (by omega) a3 (by omega) a5
    have hlast : ∃ q, q ∈ keptL n e.t (sh + growE e) es := by
      cases es with
      | nil => exact ⟨_, .head _⟩
      | cons x xs => exact ⟨_, .head _⟩
    obtain ⟨q, hq⟩ := hlast
    obtain ⟨hq1, hq2, hq3⟩ := ih q hq
    have b1 := hq1.nt; have b2 := hq1.s0
    rw [keptL] at hp
    rcases List.mem_cons.1 hp with rfl | hp
    · exact ⟨⟨h0, h2, by show 0 ≤ e.f - old; omega, by show old + (e.f - old) ≤ n; omega, by show old + sh + (e.f - old) ≤ n + sh + sumG (e :: es); omega⟩, Int.le_refl _, Int.le_refl _⟩
    · obtain ⟨c1, c2, c3⟩ := ih p hp
      exact ⟨⟨c1.o0, c1.n0, c1.s0, c1.ot, by have := c1.nt; omega⟩, by omega, by omega⟩
theorem kept_pw {n : Int} : ∀ {es : List Ed} {old sh : Int}, 0 ≤ old → old ≤ n → 0 ≤ old + sh → sound1 n old es = 0 → (keptL n old sh es).Pairwise Before
  | [], old, sh, _, _, _, _ => by rw [keptL]; exact List.pairwise_singleton _ _
  | e :: es, old, sh, h0, h1, h2, hs => by
    obtain ⟨a1, a2, a3, a4, a5⟩ := sound1_cons hs
    have hge : growE e = (e.x.length : Int) - (e.t - e.f) := rfl
    rw [keptL, List.pairwise_cons]
    refine ⟨fun q hq => ?_, kept_pw (by omega) a3 (by omega) a5⟩
    obtain ⟨_, c2, c3⟩ := kept_in (n := n) (es := es) (old := e.t) (sh := sh + growE e) (by omega) a3 (by omega) a5 q hq
    exact ⟨by show old + (e.f - old) ≤ q.o; omega, by show old + sh + (e.f - old) ≤ q.n; omega⟩
theorem pw_tri {α : Type} {R : α → α → Prop} : ∀ {l : List α}, l.Pairwise R → ∀ x, x ∈ l → ∀ y, y ∈ l → x = y ∨ R x y ∨ R y x
  | [], _, x, hx, _, _ => absurd hx (by simp)
  | a :: l, h, x, hx, y, hy => by
    rw [List.pairwise_cons] at h
    rcases List.mem_cons.1 hx with ex | hx' <;> rcases List.mem_cons.1 hy with ey | hy'
    · exact .inl (ex.trans ey.symm)
    · subst ex; exact .inr (.inl (h.1 y hy'))
    · subst ey; exact .inr (.inr (h.1 x hx'))
    · exact pw_tri h.2 x hx' y hy'
theorem pick2_some {p q r : Pa} (h : pick2 p q = some r) : max p.n q.o < min (p.n + p.s) (q.o + q.s) ∧ r = ⟨p.o + max p.n q.o - p.n, q.n + max p.n q.o - q.o, min (p.n + p.s) (q.o + q.s) - max p.n q.o⟩ := by
  unfold pick2 at h
  split at h
  · rename_i hlt; exact ⟨hlt, (Option.some.inj h).symm⟩
  · cases h
theorem bothIn_mem {qs : List Pa} {p r : Pa} (h : r ∈ bothIn qs p) : ∃ q, q ∈ qs ∧ pick2 p q = some r := List.mem_filterMap.1 h
theorem both_in {n m k : Int} {ps qs : List Pa} (hp : ∀ p, p ∈ ps → PaIn n m p) (hq : ∀ q, q ∈ qs → PaIn m k q) {r : Pa} (h : r ∈ bothL ps qs) : PaIn n k r ∧ 0 < r.s := by
  obtain ⟨p, h1, h2⟩ := List.mem_flatMap.1 h
  obtain ⟨q, h3, h4⟩ := bothIn_mem h2
  obtain ⟨h5, rfl⟩ := pick2_some h4
  have a := hp p h1; have b := hq q h3
  have a1 := a.o0; have a2 := a.ot; have b1 := b.n0; have b2 := b.nt
  refine ⟨⟨?_, ?_, ?_, ?_, ?_⟩, ?_⟩ <;> simp only <;> omega
theorem both_pw {ps qs : List Pa} (hp : ps.Pairwise Before) (hq : qs.Pairwise Before) : (bothL ps qs).Pairwise Before := by
  unfold bothL
  rw [List.pairwise_flatMap]
  refine ⟨fun p _ => ?_, ?_⟩
  · unfold bothIn
    rw [List.pairwise_filterMap]
    refine hq.imp fun {q q'} hb r hr r' hr' => ?_
    obtain ⟨h1, rfl⟩ := pick2_some hr
    obtain ⟨h2, rfl⟩ := pick2_some hr'
    have h3 := hb.1; have h4 := hb.2
    constructor <;> simp only <;> omega
  · refine hp.imp_of_mem fun {p p'} _ _ hb r hr r' hr' => ?_
    obtain ⟨q, hqm, h1⟩ := bothIn_mem hr
    obtain ⟨q', hqm', h2⟩ := bothIn_mem hr'
    obtain ⟨h1, rfl⟩ := pick2_some h1
    obtain ⟨h2, rfl⟩ := pick2_some h2
    have h3 := hb.1; have h4 := hb.2
    rcases pw_tri hq q hqm q' hqm' with rfl | h | h
    · constructor <;> simp only <;> omega
    · have h5 := h.1; have h6 := h.2
      constructor <;> simp only <;> omega
    · have h5 := h.1; have h6 := h.2
      constructor <;> simp only <;> omega
def cutI (u : List UInt8) (a b : Int) : List UInt8 := (u.take b.toNat).drop a.toNat
def gapStep (u : List UInt8) (st : List Ed × Int × Int) (p : Pa) : List Ed × Int × Int := (st.1 ++ [⟨st.2.1, p.o, cutI u st.2.2 p.n⟩], p.o + p.s, p.n + p.s)
def gapSt (u : List UInt8) (ps : List Pa) : List Ed × Int × Int := ps.foldl (gapStep u) ([], 0, 0)
theorem gapSt_snoc (u : List UInt8) (ps : List Pa) (p : Pa) : gapSt u (ps ++ [p]) = gapStep u (gapSt u ps) p := by simp [gapSt]
def EdIn (n : Int) (e : Ed) : Prop := 0 ≤ e.f ∧ e.f ≤ e.t ∧ e.t ≤ n
structure GapOk (n m : Int) (st : List Ed × Int × Int) : Prop where
  len : (st.1.length : Int) ≤ st.2.2
  txs : (txs st.1 : Int) ≤ st.2.2
  all : ∀ e, e ∈ st.1 → EdIn n e
  o0 : 0 ≤ st.2.1
  o1 : st.2.1 ≤ n
  n0 : 0 ≤ st.2.2
  n1 : st.2.2 ≤ m
theorem txs_snoc (es : List Ed) (e : Ed) : txs (es ++ [e]) = txs es + e.x.length := by simp [txs]
theorem cutI_len {u : List UInt8} {a b : Int} (h0 : 0 ≤ a) (h1 : a ≤ b) (h2 : b ≤ u.length) : ((cutI u a b).length : Int) = b - a := by
  unfold cutI
  rw [List.length_drop, List.length_take]; omega
theorem gap_ok {u : List UInt8} {n : Int} (hn : 0 ≤ n) : ∀ {ps : List Pa}, (∀ p, p ∈ ps → PaIn n u.length p ∧ 0 < p.s) → ps.Pairwise Before → GapOk n u.length (gapSt u ps) ∧ (∀ q, (∀ p, p ∈ ps → Before p q) → 0 ≤ q.o → 0 ≤ q.n → (gapSt u ps).2.1 ≤ q.o ∧ (gapSt u ps).2.2 ≤ q.n) := by
  intro ps
  induction ps using snoc_ind with
  | h0 => exact fun _ _ => ⟨⟨Int.le_refl _, Int.le_refl _, fun e he => absurd he (by simp [gapSt]), Int.le_refl _, hn, Int.le_refl _, by simp [gapSt]⟩, fun q _ h1 h2 => ⟨h1, h2⟩⟩
  | h1 ps x ih =>
    intro hin hpw
    rw [List.pairwise_append] at hpw
    obtain ⟨h1, h2⟩ := ih (fun p hp => hin p (by simp [hp])) hpw.1
    obtain ⟨hx, hxs⟩ := hin x (by simp)
    obtain ⟨h3, h4⟩ := h2 x (fun p hp => hpw.2.2 p hp x (by simp)) hx.o0 hx.n0
    rw [gapSt_snoc]
    have a1 := hx.ot; have a2 := hx.nt; have a3 := h1.n0; have a4 := h1.len; have a5 := h1.txs; have a6 := h1.o0; have a7 := hx.s0; have a8 := hx.o0; have a9 := hx.n0
    have hc := cutI_len (u := u) (a := (gapSt u ps).2.2) (b := x.n) a3 h4 (by omega)
    refine ⟨⟨?_, ?_, ?_, ?_, ?_, ?_, ?_⟩, ?_⟩
    · show (((gapSt u ps).1 ++ [_]).length : Int) ≤ x.n + x.s
      rw [List.length_append, List.length_singleton]; omega
    · show (txs ((gapSt u ps).1 ++ [_]) : Int) ≤ x.n + x.s
      rw [txs_snoc]
      show ((txs (gapSt u ps).1 + (cutI u (gapSt u ps).2.2 x.n).length : Nat) : Int) ≤ _
      omega
    · exact mem_snoc_all h1.all ⟨a6, h3, by show x.o ≤ n; omega⟩
    · show 0 ≤ x.o + x.s; omega
    · show x.o + x.s ≤ n; omega
    · show 0 ≤ x.n + x.s; omega
    · show x.n + x.s ≤ (u.length : Int); omega
    · intro q hq _ _
      exact hq x (by simp)
def joinStep (l : List Ed) (x : Ed) : List Ed := match l.getLast? with
  | some y => if y.t = x.f then l.dropLast ++ [⟨y.f, x.t, y.x ++ x.x⟩] else l ++ [x]
  | none => [x]
def joinL (es : List Ed) : List Ed := es.foldl joinStep []
theorem joinL_snoc (es : List Ed) (x : Ed) : joinL (es ++ [x]) = joinStep (joinL es) x := by simp [joinL]
def normE (s : List UInt8) (es : List Ed) : List Ed := (joinL es).filter fun x => !decide (x.x = cutI s x.f x.t)
theorem joinStep_new {l : List Ed} {x : Ed} (h : ∀ y, l.getLast? = some y → y.t ≠ x.f) : joinStep l x = l ++ [x] := by
  unfold joinStep
  cases hl : l.getLast? with
  | none => rw [List.getLast?_eq_none_iff.1 hl]; rfl
  | some y => simp only; rw [if_neg (h y hl)]
theorem last_of {l : List Ed} (h : 0 < l.length) : l.getLast? = some (l[l.length - 1]'(by omega)) := by
  rw [List.getLast?_eq_getElem?, List.getElem?_eq_getElem (by omega)]
theorem joinStep_old {l : List Ed} {x : Ed} (h : 0 < l.length) (e : (l[l.length - 1]'(by omega)).t = x.f) : joinStep l x = l.set (l.length - 1) ⟨(l[l.length - 1]'(by omega)).f, x.t, (l[l.length - 1]'(by omega)).x ++ x.x⟩ := by
  unfold joinStep
  rw [last_of h]
  simp only
  rw [if_pos e, List.set_eq_take_append_cons_drop, if_pos (by omega), List.dropLast_eq_take, List.drop_of_length_le (by omega)]
theorem joinStep_ok {n : Int} {l : List Ed} {x : Ed} (hl : ∀ e, e ∈ l → EdIn n e) (hx : EdIn n x) : (∀ e, e ∈ joinStep l x → EdIn n e) ∧ txs (joinStep l x) = txs l + x.x.length ∧ (joinStep l x).length ≤ l.length + 1 := by
  unfold joinStep
  cases hq : l.getLast? with
  | none =>
    rw [List.getLast?_eq_none_iff.1 hq]
    exact ⟨fun e he => by rw [List.mem_singleton.1 he]; exact hx, by simp [txs], by simp⟩
  | some y =>
    simp only
    split
    · rename_i e
      have hd : l = l.dropLast ++ [y] := by
        have hne : l ≠ [] := by intro e0; subst e0; cases hq
        rw [List.getLast?_eq_some_getLast hne] at hq
        have := List.dropLast_concat_getLast hne
        rw [Option.some.inj hq] at this
        exact this.symm
      have hy := hl y (by rw [hd]; simp)
      refine ⟨?_, ?_, ?_⟩
      · refine mem_snoc_all (fun e he => hl e (List.dropLast_subset _ he)) ?_
        obtain ⟨b1, b2, b3⟩ := hy; obtain ⟨c1, c2, c3⟩ := hx
        exact ⟨b1, by show y.f ≤ x.t; omega, c3⟩
      · rw [txs_snoc]
        conv => rhs; rw [hd, txs_snoc]
        show txs l.dropLast + (y.x ++ x.x).length = _
        rw [List.length_append]; omega
      · rw [List.length_append, List.length_dropLast, List.length_singleton]; omega
    · exact ⟨mem_snoc_all hl hx, by rw [txs_snoc], by simp⟩
theorem joinL_ok {n : Int} : ∀ {es : List Ed}, (∀ e, e ∈ es → EdIn n e) → (∀ e, e ∈ joinL es → EdIn n e) ∧ txs (joinL es) = txs es ∧ (joinL es).length ≤ es.length := by
  intro es
  induction es using snoc_ind with
  | h0 => exact fun _ => ⟨fun e he => absurd he (by simp [joinL]), rfl, Nat.le_refl _⟩
  | h1 es x ih =>
    intro h
    obtain ⟨h1, h2, h3⟩ := ih fun e he => h e (by simp [he])
    rw [joinL_snoc]
    obtain ⟨g1, g2, g3⟩ := joinStep_ok h1 (h x (by simp))
    exact ⟨g1, by rw [g2, h2, txs_snoc], by rw [List.length_append, List.length_singleton]; omega⟩
theorem txs_mem {es : List Ed} {e : Ed} (h : e ∈ es) : e.x.length ≤ txs es := by
  induction es with
  | nil => exact absurd h (by simp)
  | cons a l ih =>
    have e1 : txs (a :: l) = a.x.length + txs l := by simp [txs]
    rw [e1]
    rcases List.mem_cons.1 h with rfl | h
    · omega
    · have := ih h; omega
def composeL (s t u : List UInt8) (a b : List Ed) : List Ed :=
  let g := gapSt u (bothL (keptL s.length 0 0 a) (keptL t.length 0 0 b))
  normE s (g.1 ++ [⟨g.2.1, s.length, u.drop g.2.2.toNat⟩])
def composeE (s : List UInt8) (a b : List Ed) : List Ed × Int :=
  if soundE s.length a = 0 then
    if soundE (applyGo s 0 a).length b = 0 then
      if 64 < (composeL s (applyGo s 0 a) (applyGo (applyGo s 0 a) 0 b) a b).length then ([], 4) else (composeL s (applyGo s 0 a) (applyGo (applyGo s 0 a) 0 b) a b, 0)
    else ([], soundE (applyGo s 0 a).length b)
  else ([], soundE s.length a)
theorem apply_sum {s : List UInt8} : ∀ {es : List Ed} {q : Nat}, q ≤ s.length → sound1 s.length q es = 0 → ((applyGo s q es).length : Int) = s.length - q + sumG es ∧ txs es ≤ (applyGo s q es).length
  | [], q, hq, _ => by simp [applyGo, sumG, txs]; omega
  | e :: es, q, hq, hs => by
    obtain ⟨h1, h2, h3, h4, h5⟩ := sound1_cons hs
    have ht : ((e.t.toNat : Nat) : Int) = e.t := Int.toNat_of_nonneg (by omega)
    obtain ⟨i1, i2⟩ := apply_sum (s := s) (es := es) (q := e.t.toNat) (by omega) (by rw [ht]; exact h5)
    have hg : sumG (e :: es) = growE e + sumG es := by simp [sumG]
    have hge : growE e = (e.x.length : Int) - (e.t - e.f) := rfl
    have e1 : txs (e :: es) = e.x.length + txs es := by simp [txs]
    have hl : ((s.take e.f.toNat).drop q).length = e.f.toNat - q := by rw [List.length_drop, List.length_take]; omega
    rw [applyGo, hg, e1]
    simp only [List.length_append, hl]
    constructor
    · push_cast
      omega
    · omega
theorem both_ok {s t u : List UInt8} {a b : List Ed} (h1 : sound1 s.length 0 a = 0) (ht : t = applyGo s 0 a) (h2 : sound1 t.length 0 b = 0) (hu : u = applyGo t 0 b) :
    (∀ p, p ∈ keptL s.length 0 0 a → PaIn s.length t.length p) ∧ (∀ p, p ∈ keptL t.length 0 0 b → PaIn t.length u.length p) ∧
    (∀ p, p ∈ bothL (keptL s.length 0 0 a) (keptL t.length 0 0 b) → PaIn s.length u.length p ∧ 0 < p.s) ∧ (bothL (keptL s.length 0 0 a) (keptL t.length 0 0 b)).Pairwise Before := by
  have e1 := (apply_sum (s := s) (q := 0) (Nat.zero_le _) h1).1
  have e2 := (apply_sum (s := t) (q := 0) (Nat.zero_le _) h2).1
  rw [← ht] at e1; rw [← hu] at e2
  have k1 : ∀ p, p ∈ keptL s.length 0 0 a → PaIn s.length t.length p := fun p hp => by
    have := (kept_in (Int.le_refl 0) (by omega) (by omega) h1 p hp).1
    rwa [show (s.length : Int) + 0 + sumG a = t.length from by omega] at this
  have k2 : ∀ p, p ∈ keptL t.length 0 0 b → PaIn t.length u.length p := fun p hp => by
    have := (kept_in (Int.le_refl 0) (by omega) (by omega) h2 p hp).1
    rwa [show (t.length : Int) + 0 + sumG b = u.length from by omega] at this
  exact ⟨k1, k2, fun p hp => both_in k1 k2 hp, both_pw (kept_pw (Int.le_refl 0) (by omega) (by omega) h1) (kept_pw (Int.le_refl 0) (by omega) (by omega) h2)⟩
theorem both_split {ps qs : List Pa} {pre suf : List Pa} {x : Pa} {pre2 suf2 : List Pa} {q r : Pa} (hx : ps = pre ++ x :: suf) (hq : qs = pre2 ++ q :: suf2) (h : pick2 x q = some r) : ∃ rest, bothL ps qs = (bothL pre qs ++ bothIn pre2 x) ++ r :: rest := by
  refine ⟨bothIn suf2 x ++ bothL suf qs, ?_⟩
  subst hx
  have e1 : bothIn qs x = bothIn pre2 x ++ (r :: bothIn suf2 x) := by
    subst hq
    unfold bothIn
    rw [List.filterMap_append, List.filterMap_cons, h]
  unfold bothL
  rw [List.flatMap_append, List.flatMap_cons, e1]
  simp only [List.append_assoc, List.cons_append]
theorem keptL_cons {size old sh : Int} {es : List Ed} {k : Nat} (h : k < es.length) : keptL size old sh (es.drop k) = ⟨old, old + sh, es[k].f - old⟩ :: keptL size es[k].t (sh + growE es[k]) (es.drop (k + 1)) := by
  rw [List.drop_eq_getElem_cons h, keptL]
theorem txs_drop {es : List Ed} {k : Nat} (h : k < es.length) : txs (es.drop k) = es[k].x.length + txs (es.drop (k + 1)) := by
  rw [List.drop_eq_getElem_cons h]; unfold txs; rw [List.map_cons, List.sum_cons]
theorem gap_at {u : List UInt8} {n : Int} {L pre suf : List Pa} {x : Pa} (hn : 0 ≤ n) (hall : ∀ p, p ∈ L → PaIn n u.length p ∧ 0 < p.s) (hpw : L.Pairwise Before) (hx : L = pre ++ x :: suf) :
    GapOk n u.length (gapSt u pre) ∧ (gapSt u pre).2.1 ≤ x.o ∧ (gapSt u pre).2.2 ≤ x.n ∧ PaIn n u.length x := by
  subst hx
  rw [List.pairwise_append] at hpw
  obtain ⟨h1, h2⟩ := gap_ok (u := u) hn (fun p hp => hall p (by simp [hp])) hpw.1
  obtain ⟨hx, _⟩ := hall x (by simp)
  obtain ⟨h3, h4⟩ := h2 x (fun p hp => hpw.2.2 p hp x (by simp)) hx.o0 hx.n0
  exact ⟨h1, h3, h4, hx⟩
theorem applyE_err (s : List UInt8) (a : List Ed) : (applyE s a).2 = soundE s.length a := by
  unfold applyE; split
  · rename_i h; exact h.symm
  · rfl
theorem applyE_ok {s : List UInt8} {a : List Ed} (h : soundE s.length a = 0) : (applyE s a).1 = applyGo s 0 a := by unfold applyE; rw [if_pos h]
def EdB (T e b : Nat) (l : List Ed) : HP := Ex (ι := Option Addr × Nat) fun i => [Box b T [.slice i.1 l.length i.2], OwnSl e 3 i.1 l.length i.2 (edC l)]
theorem St.edbNew {w : World} {M : List HP} {F : List Fact} {T e b : Nat} (h : St w (Box b T [.slice none 0 0] :: M) F) : St w (EdB T e b [] :: M) F :=
  St.exClose (none, 0) ((OwnSl.nil_new e 3 h).swap)
theorem txs_take (es : List Ed) (k : Nat) : txs (es.take k) ≤ txs es := by
  have h : txs es = txs (es.take k) + txs (es.drop k) := by
    unfold txs; rw [← List.sum_append, ← List.map_append, List.take_append_drop]
  omega
structure KpX where
  k : Nat
  o : Int
  h : Int
  pre : List Pa
end Go.GL

namespace Go.GL
set_option linter.unusedVariables false
section
variable {P : Program} {r : Option Nat} {N : Nat} {ops : Array Oper} {rest : List Oper} {Q : Exit → Act → World → Prop} {E : Env} {ds : List Deferred} {M : List HP} {F : List Fact}
theorem TR.rangeFuncR {α : Type} {g : Operand} {ps : List Nat} {assign body : Code} {gf : FuncId} {cap : List Value} {enc : α → List Value → Prop} {xs : List α} {κ : Type}
    (hg : evalO E g = some (.func (.func gf) #[] cap.toArray)) (hcall : ∀ args w, (callFunc gf args).run P w = .ok (.enter gf args) w) (hps : ∀ p, p ∈ ps → Nat.ble (p + 1) N = true) (hlen : ∀ x args, enc x args → args.length = ps.length)
    (hit : IterC P gf cap enc xs F) (J : List α → List HP) (Mr : List HP) (hJ : ∀ w, St w M F → St w (J [] ++ Mr) F)
    (E1 : List α → α → List Value → κ → Env) (M1 : List α → α → List Value → κ → List HP)
    (hassign : ∀ l pre x suf args, xs = pre ++ x :: suf → enc x args → ∀ Mi G, (∀ φ, φ ∈ F → φ ∈ G) →
      TR P (some l) N assign (Exit.then (fun a w => ∃ i, Sat N (E1 pre x args i) [] a ∧ St w (M1 pre x args i ++ Mi) G) (fun _ _ _ => False)) (envAt ps args E) [] (J pre ++ Mi) G)
    (hbody : ∀ l rc pre x suf args i, xs = pre ++ x :: suf → enc x args → ∀ Mi G, (∀ φ, φ ∈ F → φ ∈ G) →
      TR P (some l) N body (RoundQ (J (pre ++ [x]) ++ (Pts l (.loop rc) :: Mi)) G) (E1 pre x args i) [] (M1 pre x args i ++ (Pts l (.loop rc) :: Mi)) G)
    (k : ∀ D, NX N .normal Q E ({ target := .collected D, args := #[] } :: ds) (Pts D (.deferred (some [])) :: (J xs ++ Mr)) F) :
    TR P none N (.rangeFunc g ps.toArray assign body) Q E ds M F := by
  intro a w ha hw
  refine wpIn_rangeFunc fun fn _ => ?_
  obtain ⟨rec, hrec⟩ : ∃ rec : LoopState → Option Code → Loop, rec = fun st pe => { state := st, pending := pe, fn, tmps := a.tmps, params := ps.toArray, assign, body, defers := w.heap.size } := ⟨_, rfl⟩
  obtain ⟨W1, hW1⟩ : ∃ W1, W1 = (w.alloc (.deferred (some []))).alloc (.loop (rec .ready none)) := ⟨_, rfl⟩
  have h1 : St W1 (Pts (w.heap.size + 1) (.loop (rec .ready none)) :: Pts w.heap.size (.deferred (some [])) :: (J [] ++ Mr)) F := by
    have := ((hJ w hw).alloc (.deferred (some []))).alloc (.loop (rec .ready none))
    rw [World.size_alloc] at this
    rw [hW1]
    exact this
  refine ⟨w.heap.size + 1, [{ target := .collected w.heap.size, args := #[] }], W1, { target := .fn (.func gf) cap.toArray, args := #[.func (.yield (w.heap.size + 1)) #[] #[]] }, W1, gf,
    (.func (.yield (w.heap.size + 1)) #[] #[] :: cap).toArray, W1, ?_, ?_, fun _ _ => trivial, ?_, fun h => by simp at h, ?_⟩
  · rw [hW1, hrec]; exact run_enterLoop_outer _ _ _ _ _
  · have e0 := ha.eval hg
    have e1 : a.eval (.const (.func (.yield (w.heap.size + 1)) #[] #[])) = .func (.yield (w.heap.size + 1)) #[] #[] := rfl
    simp only [resolve, e0, Deferred.ofValue]
    simp [e1]
  · simp [invoke, hcall]
  · have hJ' := hit (w.heap.size + 1) (fun pre => Pts (w.heap.size + 1) (.loop (rec .ready none)) :: J pre) ?_ (Pts w.heap.size (.deferred (some [])) :: Mr) F (fun _ h => h)
    · have hp : ∀ (r : HP) (L : List HP), (r :: Pts w.heap.size (.deferred (some [])) :: (L ++ Mr)).Perm ((r :: L) ++ (Pts w.heap.size (.deferred (some [])) :: Mr)) := fun r L => (List.perm_middle.symm).cons r
      obtain ⟨hF, hc⟩ := hJ' _ (h1.perm (hp _ _))
      refine ⟨hF, fun cs hr => ?_⟩
      obtain ⟨e, w', fr, ⟨_, he, hst⟩, rest'⟩ := hc cs hr
      subst he
      refine ⟨_, w', fr, ?_, rest'⟩
      have hst' := hst.perm (hp _ _).symm
      have hl := hst'.heap (i := 0) rfl
      refine ⟨none, _, by have := run_endLoop (P := P) hl (by rw [hrec]; simp); rw [hrec] at this; exact this, ?_⟩
      exact k w.heap.size _ _ (ha.ends _) ((hst'.putObj (i := 0) rfl).tail) |> fun h => by rw [ha.defers]; exact h
    · intro pre x suf args hx he Mi G hG W hW
      have hW : St W (Pts (w.heap.size + 1) (.loop (rec .ready none)) :: (J pre ++ Mi)) G := hW
      have hl := hW.heap (i := 0) rfl
      have hy := run_yield (P := P) (args := args.toArray) hl (by rw [hrec]; simp [hlen x args he])
      rw [hrec] at hy
      refine ⟨fn, _, assign, body, hy, roundIn_of_wpIn (F := Wd none) trivial ?_⟩
      have hS : Sat N (envAt ps args E) [] ⟨(ps.zip args).foldl (fun t (p, v) => t.setIfInBounds p v) a.tmps, []⟩ := Sat.params ps args (ha.ends []) hps
      have hz : ((ps.toArray.zip args.toArray).foldl (fun tmps (t, a) => tmps.setIfInBounds t a) a.tmps) = (ps.zip args).foldl (fun t (p, v) => t.setIfInBounds p v) a.tmps := by simp
      have hper : ∀ (r : HP) (L L' : List HP), (r :: (L ++ L')).Perm (L ++ (r :: L')) := fun r L L' => List.perm_middle.symm
      refine wpIn_mono (hassign (w.heap.size + 1) pre x suf args hx he (Pts (w.heap.size + 1) (.loop (rec .ready none)) :: Mi) G hG _ W (by simp only; rw [hz]; exact hS) (hW.perm (hper _ _ _))) ?_
      intro e a1 w1 hq
      cases e with
      | normal =>
        obtain ⟨i, hs1, hw1⟩ := hq
        have hw1' := hw1.perm (hper _ _ _).symm
        have hl1 := hw1'.heap (i := 0) rfl
        refine ⟨_, run_beginRound hl1 (by rw [hrec]), ?_⟩
        have hw2 := (hw1'.putObj (o' := .loop { rec .ready none with state := .busy }) (i := 0) rfl)
        refine wpIn_mono (hbody (w.heap.size + 1) { rec .ready none with state := .busy } pre x suf args i hx he Mi G hG a1 _ hs1 (hw2.perm (hper _ _ _))) ?_
        intro e a3 w3 hq3
        cases e with
        | normal =>
          have hw3 : St w3 (J (pre ++ [x]) ++ (Pts (w.heap.size + 1) (.loop { rec .ready none with state := .busy }) :: Mi)) G := hq3
          have hw3' := hw3.perm (hper _ _ _).symm
          have hl3 := hw3'.heap (i := 0) rfl
          refine ⟨_, _, run_endRound none hl3, (), rfl, ?_⟩
          have := hw3'.putObj (o' := .loop { rec .ready none with state := .ready }) (i := 0) rfl
          rw [hrec] at this ⊢
          exact this
        | _ => exact hq3.elim
      | _ => exact hq.elim
theorem TR.rangeFuncN {α : Type} {g : Operand} {ps : List Nat} {assign body : Code} {gf : FuncId} {cap : List Value} {enc : α → List Value → Prop} {xs : List α} {κ : Type}
    (hg : evalO E g = some (.func (.func gf) #[] cap.toArray)) (hcall : ∀ args w, (callFunc gf args).run P w = .ok (.enter gf args) w) (hps : ∀ p, p ∈ ps → Nat.ble (p + 1) N = true) (hlen : ∀ x args, enc x args → args.length = ps.length)
    (hit : IterC P gf cap enc xs F) {l0 : Nat} {r0 : Loop} (i0 : Nat) (hi0 : M[i0]? = some (Pts l0 (.loop r0))) (J : List α → List HP) (Mr : List HP) (hJ : ∀ w, St w M F → St w (J [] ++ Mr) F)
    (E1 : List α → α → List Value → κ → Env) (M1 : List α → α → List Value → κ → List HP)
    (hassign : ∀ l pre x suf args, xs = pre ++ x :: suf → enc x args → ∀ Mi G, (∀ φ, φ ∈ F → φ ∈ G) →
      TR P (some l) N assign (Exit.then (fun a w => ∃ i, Sat N (E1 pre x args i) [] a ∧ St w (M1 pre x args i ++ Mi) G) (fun _ _ _ => False)) (envAt ps args E) [] (J pre ++ Mi) G)
    (hbody : ∀ l pre x suf args i, xs = pre ++ x :: suf → enc x args → ∀ Mi G, (∀ φ, φ ∈ F → φ ∈ G) →
      TR P (some l) N body (RoundQ (J (pre ++ [x]) ++ Mi) G) (E1 pre x args i) [] (M1 pre x args i ++ Mi) G)
    (k : NX N .normal Q E ds (J xs ++ Mr) F) :
    TR P (some l0) N (.rangeFunc g ps.toArray assign body) Q E ds M F := by
  intro a w ha hw
  refine wpIn_rangeFunc fun fn _ => ?_
  obtain ⟨rec, hrec⟩ : ∃ rec : LoopState → Option Code → Loop, rec = fun st pe => { state := st, pending := pe, fn, tmps := a.tmps, params := ps.toArray, assign, body, defers := r0.defers } := ⟨_, rfl⟩
  obtain ⟨W1, hW1⟩ : ∃ W1, W1 = w.alloc (.loop (rec .ready none)) := ⟨_, rfl⟩
  have h1 : St W1 (Pts w.heap.size (.loop (rec .ready none)) :: (J [] ++ Mr)) F := by
    have := (hJ w hw).alloc (.loop (rec .ready none))
    rw [hW1]
    exact this
  refine ⟨w.heap.size, [], W1, { target := .fn (.func gf) cap.toArray, args := #[.func (.yield w.heap.size) #[] #[]] }, W1, gf,
    (.func (.yield w.heap.size) #[] #[] :: cap).toArray, W1, ?_, ?_, fun _ _ => trivial, ?_, fun h => by simp at h, ?_⟩
  · rw [hW1, hrec]; exact run_enterLoop_inner (hw.heap hi0) _ _ _ _ _
  · have e0 := ha.eval hg
    have e1 : a.eval (.const (.func (.yield w.heap.size) #[] #[])) = .func (.yield w.heap.size) #[] #[] := rfl
    simp only [resolve, e0, Deferred.ofValue]
    simp [e1]
  · simp [invoke, hcall]
  · have hJ' := hit w.heap.size (fun pre => Pts w.heap.size (.loop (rec .ready none)) :: J pre) ?_ Mr F (fun _ h => h)
    · obtain ⟨hF, hc⟩ := hJ' _ h1
      refine ⟨hF, fun cs hr => ?_⟩
      obtain ⟨e, w', fr, ⟨_, he, hst⟩, rest'⟩ := hc cs hr
      subst he
      refine ⟨_, w', fr, ?_, rest'⟩
      have hst' : St w' (Pts w.heap.size (.loop (rec .ready none)) :: (J xs ++ Mr)) F := hst
      have hl := hst'.heap (i := 0) rfl
      refine ⟨none, _, by have := run_endLoop (P := P) hl (by rw [hrec]; simp); rw [hrec] at this; exact this, ?_⟩
      exact k _ _ (by exact ha) ((hst'.putObj (i := 0) rfl).tail)
    · intro pre x suf args hx he Mi G hG W hW
      have hW : St W (Pts w.heap.size (.loop (rec .ready none)) :: (J pre ++ Mi)) G := hW
      have hl := hW.heap (i := 0) rfl
      have hy := run_yield (P := P) (args := args.toArray) hl (by rw [hrec]; simp [hlen x args he])
      rw [hrec] at hy
      refine ⟨fn, _, assign, body, hy, roundIn_of_wpIn (F := Wd none) trivial ?_⟩
      have hS : Sat N (envAt ps args E) [] ⟨(ps.zip args).foldl (fun t (p, v) => t.setIfInBounds p v) a.tmps, []⟩ := Sat.params ps args (ha.ends []) hps
      have hz : ((ps.toArray.zip args.toArray).foldl (fun tmps (t, a) => tmps.setIfInBounds t a) a.tmps) = (ps.zip args).foldl (fun t (p, v) => t.setIfInBounds p v) a.tmps := by simp
      have hper : ∀ (r : HP) (L L' : List HP), (r :: (L ++ L')).Perm (L ++ (r :: L')) := fun r L L' => List.perm_middle.symm
      refine wpIn_mono (hassign w.heap.size pre x suf args hx he (Pts w.heap.size (.loop (rec .ready none)) :: Mi) G hG _ W (by simp only; rw [hz]; exact hS) (hW.perm (hper _ _ _))) ?_
      intro e a1 w1 hq
      cases e with
      | normal =>
        obtain ⟨i, hs1, hw1⟩ := hq
        have hw1' := hw1.perm (hper _ _ _).symm
        have hl1 := hw1'.heap (i := 0) rfl
        refine ⟨_, run_beginRound hl1 (by rw [hrec]), ?_⟩
        have hw2 := (hw1'.putObj (o' := .loop { rec .ready none with state := .busy }) (i := 0) rfl)
        refine wpIn_mono (hbody w.heap.size pre x suf args i hx he (Pts w.heap.size (.loop { rec .ready none with state := .busy }) :: Mi) G hG a1 _ hs1 (hw2.perm (hper _ _ _))) ?_
        intro e a3 w3 hq3
        cases e with
        | normal =>
          have hw3 : St w3 (J (pre ++ [x]) ++ (Pts w.heap.size (.loop { rec .ready none with state := .busy }) :: Mi)) G := hq3
          have hw3' := hw3.perm (hper _ _ _).symm
          have hl3 := hw3'.heap (i := 0) rfl
          refine ⟨_, _, run_endRound none hl3, (), rfl, ?_⟩
          have := hw3'.putObj (o' := .loop { rec .ready none with state := .ready }) (i := 0) rfl
          rw [hrec] at this ⊢
          exact this
        | _ => exact hq3.elim
      | _ => exact hq.elim
end
theorem NX.endM {P : Program} {N : Nat} {E : Env} {M : List HP} {F : List Fact} {fn : Func} {D : Nat} {ι : Type} {val : ι → Value} {M' : ι → List HP} {F' : ι → List Fact} (j : Nat) (i : ι) (hr : fn.results = #[]) (hD : M[j]? = some (Pts D (.deferred (some [])))) (hv : .tuple #[] = val i) (hS : ∀ w, St w (M.eraseIdx j) F → St w (M' i) (F' i)) :
    NX N .normal (bodyPostM (Wd none) 0 P fn (Post val M' F')) E [{ target := .collected D, args := #[] }] M F := fun a w ha hw => by
  show LeavesInM _ _ _ _ _ _ a.defers .returning w
  rw [ha.defers]
  have hd := hw.heap hD
  refine ⟨by simp, .inl ⟨D, _, rfl, run_takeDeferred hd, .tuple #[], results_none hr _ _ _, i, by rw [hv], hS _ ?_⟩⟩
  have h1 := hw.putObj (o' := .deferred none) hD
  have h2 : (M.set j (Pts D (.deferred none)))[j]? = some (Pts D (.deferred none)) := by
    rw [List.getElem?_set_self (List.getElem?_eq_some_iff.1 hD).1]
  have h3 := h1.drop j h2
  rwa [List.eraseIdx_set_eq] at h3
theorem NX.ret2K {P : Program} {N : Nat} {E : Env} {M : List HP} {F : List Fact} {fn : Func} {t u : Nat} {v v' : Value} {ι : Type} {val : ι → Value} {M' : ι → List HP} {F' : ι → List Fact} (i : ι) (hr : fn.results = #[.tmp t, .tmp u]) (ht : look E t = some v) (hu : look E u = some v') (hv : .tuple #[v, v'] = val i) (hS : ∀ w, St w M F → St w (M' i) (F' i)) :
    NX N .ret (bodyPostM (Wd none) 0 P fn (Post val M' F')) E [] M F := fun a w ha hw => by
  show LeavesInM _ _ _ _ _ _ a.defers .returning w
  rw [ha.defers]
  exact ⟨.tuple #[v, v'], by rw [results_tmp2 hr]; simp [ha.get t v ht, ha.get u v' hu], i, by rw [hv], hS w hw⟩
theorem pm3 {a b r : HP} {L Mi : List HP} : (a :: b :: (L ++ (r :: Mi))).Perm (r :: a :: b :: (L ++ Mi)) :=
  (((List.perm_middle (l₁ := L) (a := r) (l₂ := Mi)).cons b).cons a).trans (((List.Perm.swap r b _).cons a).trans (List.Perm.swap r a _))
theorem pm2 {b r : HP} {L Mi : List HP} : (r :: b :: (L ++ Mi)).Perm (b :: (L ++ (r :: Mi))) :=
  (List.Perm.swap b r _).trans ((List.perm_middle (l₁ := L) (a := r) (l₂ := Mi)).symm.cons b)
end Go.GL

namespace Go.Proofs.Ytkdeopioelocnaa
open Go.GL
set_option linter.unusedVariables false
theorem qc_bv121_0_1_2 (x0 : Int) (x1 : Int) (x2 : Int) : BuildV Try.prog 121 [(0, .int .i64 x0), (1, .int .i64 x1), (2, .int .i64 x2)] (.agg #[.int .i64 x0, .int .i64 x1, .int .i64 x2]) := fun w => by kernel_rfl
theorem qc_ta78 : tyAgg Try.prog 78 3 = true := by kernel_rfl
theorem qc_tf78_0 : fieldOff Try.prog 78 0 0 = true := by kernel_rfl
theorem qc_tf78_1 : fieldOff Try.prog 78 1 1 = true := by kernel_rfl
theorem qc_tf78_2 : fieldOff Try.prog 78 2 2 = true := by kernel_rfl
theorem qc_tl26 : tySlice Try.prog 26 78 = true := by kernel_rfl
theorem qc_ts26 : tyScalar Try.prog 26 = true := by kernel_rfl
theorem qc_ts3 : tyScalar Try.prog 3 = true := by kernel_rfl
theorem qc_ts9 : tyScalar Try.prog 9 = true := by kernel_rfl
theorem qc_tstr9 : tyStr Try.prog 9 = true := by kernel_rfl
theorem qc_tz78 : tySize Try.prog 78 3 = true := by kernel_rfl
theorem growth_spec {e : Ed} {n : Int} {M : List HP} {F : List Fact} (he : EdIn n e) (hn : n ≤ 4611686018427387904) (hx : e.x.length ≤ 4611686018427387904) : Ctr Try.prog 103 [.agg (e.c).toArray] M F Unit (fun _ => I (growE e)) (fun _ => M) (fun _ => F) := by
  obtain ⟨he1, he2, he3⟩ := he
  refine Ctr.body Try.func103 rfl rfl ?_
  refine TR.seq ?_
  refine TR.region ?_
  refine RL.boxA rfl rfl rfl (fun b1 => ?_)
  refine RL.assign rfl rfl rfl ?_
  refine RL.nil ?_
  refine NX.seq ?_
  refine TR.seq ?_
  refine TR.region ?_
  refine RL.fieldAddr rfl qc_tf78_2 rfl rfl ?_
  refine RL.load1 0 rfl qc_ts9 rfl rfl rfl rfl ?_
  refine RL.lenStr rfl qc_tstr9 rfl rfl ?_
  refine RL.fieldAddr rfl qc_tf78_1 rfl rfl ?_
  refine RL.load1 0 rfl qc_ts3 rfl rfl rfl rfl ?_
  refine RL.fieldAddr rfl qc_tf78_0 rfl rfl ?_
  refine RL.load1 0 rfl qc_ts3 rfl rfl rfl rfl ?_
  refine RL.bin rfl rfl rfl (BinV.sub _ rfl (by omega) (by omega)) rfl ?_
  refine RL.bin rfl rfl rfl (BinV.sub _ rfl (by omega) (by omega)) rfl ?_
  refine RL.assign rfl rfl rfl ?_
  refine RL.nil ?_
  refine NX.seq ?_
  refine TR.ret ?_
  exact NX.ret1 () rfl rfl rfl (fun w hw => (hw.to 1 [] 0 [] rfl))
theorem kept_spec {size : Int} {oa : Option Addr} {n c : Nat} {M : List HP} {F : List Fact} : Ctr Try.prog 93 [I size, .slice oa n c] M F (Nat × Nat) (fun z => .func (.func 102) #[] #[.pointer (some ⟨z.1, 0, none⟩), .pointer (some ⟨z.2, 0, none⟩)]) (fun _ => M) (fun z => CellsF z.1 0 [.slice oa n c] :: CellsF z.2 0 [I size] :: F) := by
  refine Ctr.body Try.func93 rfl rfl ?_
  refine TR.seq ?_
  refine TR.region ?_
  refine RL.box1 rfl rfl rfl rfl (fun b1 => ?_)
  refine RL.box1 rfl rfl rfl rfl (fun b2 => ?_)
  refine RL.assign rfl rfl rfl ?_
  refine RL.nil ?_
  refine NX.seq ?_
  refine TR.seq ?_
  refine TR.region ?_
  refine RL.makeFunc rfl rfl rfl rfl ?_
  refine RL.assign rfl rfl rfl ?_
  refine RL.nil ?_
  refine NX.seq ?_
  refine TR.ret ?_
  refine NX.ret1 (b2, b1) rfl rfl rfl (fun w hw => ?_)
  exact (St.keep (show St w (Box b2 26 [.slice oa n c] :: Box b1 3 [I size] :: M) F from hw)).keep.facts (fun φ h => by rcases List.mem_cons.1 h with e | h; exact e ▸ .tail _ (.head _); rcases List.mem_cons.1 h with e | h; exact e ▸ .head _; exact .tail _ (.tail _ h))
theorem kept_iter {es : List Ed} {oa : Option Addr} {c be bs : Nat} {size : Int} {F : List Fact} (ha : ArrF oa (edC es) ∈ F) (hbe : CellsF be 0 [.slice oa es.length c] ∈ F) (hbs : CellsF bs 0 [I size] ∈ F) (hsz : 0 ≤ size) (hsm : size ≤ 1099511627776) (htm : txs es ≤ 1099511627776) (hel : es.length ≤ 4611686018427387904) (hsd : sound1 size 0 es = 0) : IterC Try.prog 102 [.pointer (some ⟨be, 0, none⟩), .pointer (some ⟨bs, 0, none⟩)] partEnc (keptL size 0 0 es) F := by
  intro l J hY Mi G hG
  refine Ctr.body Try.func102 rfl rfl ?_
  refine TR.seq ?_
  refine TR.region ?_
  refine RL.assign rfl rfl rfl ?_
  refine RL.assign rfl rfl rfl ?_
  refine RL.nil ?_
  refine NX.seq ?_
  refine TR.seq ?_
  refine TR.seq ?_
  refine TR.region ?_
  refine RL.loadF rfl rfl (fun w K hF => run_loadCell1 (j := 0) (hF (CellsF be 0 [.slice oa es.length c]) (hG _ hbe)) qc_ts26 rfl) rfl ?_
  refine RL.lenSlice rfl qc_tl26 rfl rfl ?_
  refine RL.move rfl rfl rfl ?_
  refine RL.nil ?_
  refine NX.seq ?_
  refine TR.block ?_
  refine TR.loopP (ι := KpX) (fun x => x.k ≤ es.length ∧ keptL size 0 0 es = x.pre ++ keptL size x.o x.h (es.drop x.k) ∧ 0 ≤ x.o ∧ x.o ≤ size ∧ 0 ≤ x.o + x.h ∧ x.h + (txs (es.drop x.k) : Nat) ≤ (txs es : Nat) ∧ sound1 size x.o (es.drop x.k) = 0) (fun x => [(0, .func (.yield l) #[] #[]), (2, .pointer (some ⟨bs, 0, none⟩)), (4, I x.o), (5, I x.h), (8, .slice oa es.length c), (9, I es.length), (10, I x.k)]) (fun x => (J x.pre ++ Mi)) (fun x => G) (fun x => es.length - x.k) ⟨0, 0, 0, []⟩ ⟨Nat.zero_le _, rfl, Int.le_refl _, hsz, Int.le_refl _, by show (0 : Int) + _ ≤ _; rw [List.drop_zero]; omega, hsd⟩ ⟨rfl, rfl, rfl, rfl, rfl, rfl, rfl, trivial⟩ (fun w hw => (hw.to 0 [] 0 [] rfl)) (fun x hx => ?_)
  refine TR.seq ?_
  refine TR.region ?_
  refine RL.bin rfl rfl rfl BinV.lss rfl ?_
  refine RL.nil ?_
  refine NX.seq ?_
  refine TR.seq ?_
  refine TR.cond rfl (fun h1 => ?_) (fun h1 => ?_)
  · skip
    have hk1 : x.k < es.length := by have := of_decide_eq_true h1; omega
    obtain ⟨hx0, hx1, hx2, hx3, hx4, hx5, hx6⟩ := hx
    have hx : x.k ≤ es.length ∧ keptL size 0 0 es = x.pre ++ keptL size x.o x.h (es.drop x.k) ∧ True := ⟨hx0, hx1, trivial⟩
    have hs1 := hx6
    rw [List.drop_eq_getElem_cons hk1] at hs1
    obtain ⟨h1, h2, h3, h4, h5⟩ := sound1_cons hs1
    have htd := txs_drop hk1
    have hge : growE es[x.k] = (es[x.k].x.length : Int) - (es[x.k].t - es[x.k].f) := rfl
    refine TR.openP (open_arr (oa := oa) (xs := edC es) (hG _ ha) (fun e => by have h8 := edC_length es; rw [e] at h8; simp at h8; omega)) (fun pq hpq => ?_)
    refine TR.skip ?_
    refine NX.seq ?_
    refine TR.seq ?_
    refine TR.block ?_
    refine TR.seq ?_
    refine TR.region ?_
    refine RL.indexAddr rfl qc_tl26 qc_tz78 (congrArg (fun a => some (Value.slice a _ _)) hpq) rfl (by omega) (by omega) rfl ?_
    refine RL.loadF rfl rfl (fun w K hF => run_ed (hF (CellsF pq.1 pq.2 (edC es)) (.head _)) qc_ta78 hk1) rfl ?_
    refine RL.allocA rfl (Try.zeroValue78) rfl (fun b2 => ?_)
    refine RL.storeA 0 rfl rfl rfl rfl qc_tz78 rfl rfl ?_
    refine RL.nil ?_
    refine NX.seq ?_
    refine TR.seq ?_
    refine TR.seq ?_
    refine TR.region ?_
    refine RL.move rfl rfl rfl ?_
    refine RL.move rfl rfl rfl ?_
    refine RL.move rfl rfl rfl ?_
    refine RL.move rfl rfl rfl ?_
    refine RL.bin rfl rfl rfl (BinV.add _ rfl (by omega) (by omega)) rfl ?_
    refine RL.fieldAddr rfl qc_tf78_0 rfl rfl ?_
    refine RL.load1 0 rfl qc_ts3 rfl rfl rfl rfl ?_
    refine RL.move rfl rfl rfl ?_
    refine RL.bin rfl rfl rfl (BinV.sub _ rfl (by omega) (by omega)) rfl ?_
    refine RL.build rfl rfl (qc_bv121_0_1_2 _ _ _) rfl ?_
    refine RL.callYield rfl rfl rfl rfl (YSpec.frame [_] (hY x.pre (⟨x.o, x.o + x.h, es[x.k].f - x.o⟩ : Pa) (keptL size es[x.k].t (x.h + growE es[x.k]) (es.drop (x.k + 1))) _ (by rw [hx.2.1, keptL_cons hk1]) rfl ([_] ++ Mi) _ (fun φ h => .tail _ (hG φ h)))) ?_
    refine RL.not rfl rfl rfl ?_
    refine RL.nil ?_
    refine NX.seq ?_
    refine TR.condF rfl ?_
    refine TR.skip ?_
    refine NX.seq ?_
    refine TR.seq ?_
    refine TR.region ?_
    refine RL.fieldAddr rfl qc_tf78_1 rfl rfl ?_
    refine RL.load1 0 rfl qc_ts3 rfl rfl rfl rfl ?_
    refine RL.assign rfl rfl rfl ?_
    refine RL.nil ?_
    refine NX.seq ?_
    refine TR.region ?_
    refine RL.move rfl rfl rfl ?_
    refine RL.loadA 0 rfl rfl rfl qc_ta78 rfl ?_
    refine RL.call rfl rfl Try.call103 rfl (growth_spec (e := es[x.k]) (n := size) ⟨h1, h2, h3⟩ (by omega) (by omega)) (fun _ => ?_)
    refine RL.bin rfl rfl rfl (BinV.add _ rfl (by omega) (by omega)) rfl ?_
    refine RL.assign rfl rfl rfl ?_
    refine RL.nil ?_
    refine NX.off ?_
    refine NX.seq ?_
    refine TR.region ?_
    refine RL.bin rfl rfl rfl (BinV.add _ rfl (by omega) (by omega)) rfl ?_
    refine RL.move rfl rfl rfl ?_
    refine RL.nil ?_
    refine NX.roundP ⟨x.k + 1, es[x.k].t, x.h + growE es[x.k], x.pre ++ [(⟨x.o, x.o + x.h, es[x.k].f - x.o⟩ : Pa)]⟩ ⟨hk1, by show keptL size 0 0 es = (x.pre ++ [_]) ++ keptL size es[x.k].t (x.h + growE es[x.k]) (es.drop (x.k + 1)); rw [hx1, keptL_cons hk1, List.append_assoc]; rfl, by show 0 ≤ es[x.k].t; omega, h3, by show 0 ≤ es[x.k].t + (x.h + growE es[x.k]); omega, by show x.h + growE es[x.k] + ((txs (es.drop (x.k + 1)) : Nat) : Int) ≤ _; omega, h5⟩ (by show _ - (x.k + 1) < _ - x.k; omega) ⟨rfl, rfl, rfl, rfl, rfl, rfl, rfl, trivial⟩ (fun w hw => (hw.to 1 [] 1 [] rfl))
  · skip
    have hk2 : x.k = es.length := by have := of_decide_eq_false h1; have := hx.1; omega
    obtain ⟨hx0, hx1, hx2, hx3, hx4, hx5, hx6⟩ := hx
    have hx : x.k ≤ es.length ∧ keptL size 0 0 es = x.pre ++ keptL size x.o x.h (es.drop x.k) ∧ True := ⟨hx0, hx1, trivial⟩
    refine TR.exit ?_
    refine NX.exitThen ?_
    refine NX.exitThen ?_
    refine NX.exitHere ?_
    refine NX.seq ?_
    refine TR.region ?_
    refine RL.move rfl rfl rfl ?_
    refine RL.move rfl rfl rfl ?_
    refine RL.move rfl rfl rfl ?_
    refine RL.move rfl rfl rfl ?_
    refine RL.bin rfl rfl rfl (BinV.add _ rfl (by omega) (by omega)) rfl ?_
    refine RL.loadF rfl rfl (fun w K hF => run_loadCell1 (j := 0) (hF (CellsF bs 0 [I size]) (hG _ hbs)) qc_ts3 rfl) rfl ?_
    refine RL.move rfl rfl rfl ?_
    refine RL.bin rfl rfl rfl (BinV.sub _ rfl (by omega) (by omega)) rfl ?_
    refine RL.build rfl rfl (qc_bv121_0_1_2 _ _ _) rfl ?_
    refine RL.callYield rfl rfl rfl rfl (YSpec.frame [] (hY x.pre (⟨x.o, x.o + x.h, size - x.o⟩ : Pa) [] _ (by rw [hx.2.1, hk2, List.drop_length]; rfl) rfl ([] ++ Mi) _ (fun φ h => hG φ h))) ?_
    refine RL.nil ?_
    refine NX.end0 () rfl rfl (fun w hw => ?_)
    have hfin : x.pre ++ [(⟨x.o, x.o + x.h, size - x.o⟩ : Pa)] = keptL size 0 0 es := by rw [hx1, hk2, List.drop_length]; rfl
    rw [← hfin]
    exact hw
end Go.Proofs.Ytkdeopioelocnaa

namespace Go.Proofs.Ytkdeopioelocnaa
open Go.GL
set_option linter.unusedVariables false
theorem qd_bv121_0_1_2 (x0 : Int) (x1 : Int) (x2 : Int) : BuildV Try.prog 121 [(0, .int .i64 x0), (1, .int .i64 x1), (2, .int .i64 x2)] (.agg #[.int .i64 x0, .int .i64 x1, .int .i64 x2]) := fun w => by kernel_rfl
theorem qd_tf121_0 : fieldOff Try.prog 121 0 0 = true := by kernel_rfl
theorem qd_tf121_1 : fieldOff Try.prog 121 1 1 = true := by kernel_rfl
theorem qd_tf121_2 : fieldOff Try.prog 121 2 2 = true := by kernel_rfl
theorem qd_ts136 : tyScalar Try.prog 136 = true := by kernel_rfl
theorem qd_ts26 : tyScalar Try.prog 26 = true := by kernel_rfl
theorem qd_ts3 : tyScalar Try.prog 3 = true := by kernel_rfl
theorem qd_tz121 : tySize Try.prog 121 3 = true := by kernel_rfl
theorem both_spec {size mid : Int} {oa ob : Option Addr} {na ca nb cb : Nat} {M : List HP} {F : List Fact} : Ctr Try.prog 80 [I size, I mid, .slice oa na ca, .slice ob nb cb] M F (Nat × Nat × Nat × Nat) (fun z => .func (.func 92) #[] #[.pointer (some ⟨z.1, 0, none⟩), .pointer (some ⟨z.2.2.1, 0, none⟩), .pointer (some ⟨z.2.1, 0, none⟩), .pointer (some ⟨z.2.2.2, 0, none⟩)]) (fun _ => M) (fun z => CellsF z.1 0 [I size] :: CellsF z.2.1 0 [I mid] :: CellsF z.2.2.1 0 [.slice oa na ca] :: CellsF z.2.2.2 0 [.slice ob nb cb] :: F) := by
  refine Ctr.body Try.func80 rfl rfl ?_
  refine TR.seq ?_
  refine TR.region ?_
  refine RL.box1 rfl rfl rfl rfl (fun b1 => ?_)
  refine RL.box1 rfl rfl rfl rfl (fun b2 => ?_)
  refine RL.box1 rfl rfl rfl rfl (fun b3 => ?_)
  refine RL.box1 rfl rfl rfl rfl (fun b4 => ?_)
  refine RL.assign rfl rfl rfl ?_
  refine RL.nil ?_
  refine NX.seq ?_
  refine TR.seq ?_
  refine TR.region ?_
  refine RL.makeFunc rfl rfl rfl rfl ?_
  refine RL.assign rfl rfl rfl ?_
  refine RL.nil ?_
  refine NX.seq ?_
  refine TR.ret ?_
  refine NX.ret1 (b1, b2, b3, b4) rfl rfl rfl (fun w hw => ?_)
  exact (St.keep (St.keep (St.keep (St.keep (show St w (Box b4 26 [.slice ob nb cb] :: Box b3 26 [.slice oa na ca] :: Box b2 3 [I mid] :: Box b1 3 [I size] :: M) F from hw)))))
theorem both_iter {a b : List Ed} {oa ob : Option Addr} {ca cb ps pa pm pb : Nat} {size mid n k : Int} {F : List Fact} (hfs : CellsF ps 0 [I size] ∈ F) (hfa : CellsF pa 0 [.slice oa a.length ca] ∈ F) (hfm : CellsF pm 0 [I mid] ∈ F) (hfb : CellsF pb 0 [.slice ob b.length cb] ∈ F) (haa : ArrF oa (edC a) ∈ F) (hbb : ArrF ob (edC b) ∈ F)
    (hs0 : 0 ≤ size) (hsm : size ≤ 1099511627776) (hm0 : 0 ≤ mid) (hmm : mid ≤ 1099511627776) (hkm : k ≤ 1099511627776) (hta : txs a ≤ 1099511627776) (htb : txs b ≤ 1099511627776) (hal : a.length ≤ 4611686018427387904) (hbl : b.length ≤ 4611686018427387904) (hsa : sound1 size 0 a = 0) (hsb : sound1 mid 0 b = 0) (hkp : ∀ x, x ∈ (keptL size 0 0 a) → PaIn size mid x) (hkq : ∀ y, y ∈ (keptL mid 0 0 b) → PaIn mid k y) :
    IterC Try.prog 92 [.pointer (some ⟨ps, 0, none⟩), .pointer (some ⟨pa, 0, none⟩), .pointer (some ⟨pm, 0, none⟩), .pointer (some ⟨pb, 0, none⟩)] partEnc (bothL (keptL size 0 0 a) (keptL mid 0 0 b)) F := by
  intro l J hY Mi G hG
  refine Ctr.bodyM Try.func92 rfl rfl ?_
  refine TR.seq ?_
  refine TR.region ?_
  refine RL.box1 rfl rfl rfl rfl (fun b1 => ?_)
  refine RL.nil ?_
  refine NX.seq ?_
  refine TR.seq ?_
  refine TR.region ?_
  refine RL.loadF rfl rfl (fun w K hF => run_loadCell1 (j := 0) (hF (CellsF ps 0 [I size]) (hG _ hfs)) qd_ts3 rfl) rfl ?_
  refine RL.loadF rfl rfl (fun w K hF => run_loadCell1 (j := 0) (hF (CellsF pa 0 [.slice oa a.length ca]) (hG _ hfa)) qd_ts26 rfl) rfl ?_
  refine RL.call rfl rfl Try.call93 rfl (kept_spec (size := size) (oa := oa) (n := a.length) (c := ca)) (fun kz => ?_)
  refine RL.nil ?_
  refine NX.seq ?_
  refine TR.block ?_
  refine TR.rangeFuncR (κ := Nat) (xs := (keptL size 0 0 a)) rfl Try.call102 (by simp) partEnc_len (kept_iter (.tail _ (.tail _ (hG _ haa))) (.head _) (.tail _ (.head _)) hs0 hsm hta hal hsa) (fun pre => Box b1 136 [.func (.yield l) #[] #[]] :: J (bothL pre (keptL mid 0 0 b))) Mi (fun w hw => hw) (fun pre x args i => [(3, .pointer (some ⟨pm, 0, none⟩)), (4, .pointer (some ⟨pb, 0, none⟩)), (5, .pointer (some ⟨b1, 0, none⟩)), (6, .pointer (some ⟨i, 0, none⟩))]) (fun pre x args i => Box i 121 [I x.o, I x.n, I x.s] :: Box b1 136 [.func (.yield l) #[] #[]] :: J (bothL pre (keptL mid 0 0 b))) ?as0 ?bd0 ?ki0
  case as0 =>
    intro l1 pre x suf args hx1 he Mi1 G1 hG1
    obtain rfl : args = [.agg #[I x.o, I x.n, I x.s]] := he
    obtain ⟨x1, x2, x3, x4, x5⟩ := hkp x (by rw [hx1]; simp)
    refine TR.region ?_
    refine RL.allocA rfl (Try.zeroValue121) rfl (fun b2 => ?_)
    refine RL.storeA 0 rfl rfl rfl rfl qd_tz121 rfl rfl ?_
    refine RL.nil ?_
    exact NX.meet b2 ⟨rfl, rfl, rfl, rfl, trivial⟩ (fun w hw => hw)
  case bd0 =>
    intro l1 rc1 pre x suf args i hx1 he Mi1 G1 hG1
    obtain rfl : args = [.agg #[I x.o, I x.n, I x.s]] := he
    obtain ⟨x1, x2, x3, x4, x5⟩ := hkp x (by rw [hx1]; simp)
    refine TR.weak (fun w hw => (show St w (Box i 121 [I x.o, I x.n, I x.s] :: Box b1 136 [.func (.yield l) #[] #[]] :: (J (bothL pre (keptL mid 0 0 b)) ++ (Pts l1 (.loop rc1) :: Mi1))) G1 from hw).perm pm3) ?_
    refine TR.block ?_
    refine TR.seq ?_
    refine TR.region ?_
    refine RL.loadF rfl rfl (fun w K hF => run_loadCell1 (j := 0) (hF (CellsF pm 0 [I mid]) (hG1 _ (.tail _ (.tail _ (hG _ hfm))))) qd_ts3 rfl) rfl ?_
    refine RL.loadF rfl rfl (fun w K hF => run_loadCell1 (j := 0) (hF (CellsF pb 0 [.slice ob b.length cb]) (hG1 _ (.tail _ (.tail _ (hG _ hfb))))) qd_ts26 rfl) rfl ?_
    refine RL.call rfl rfl Try.call93 rfl (kept_spec (size := mid) (oa := ob) (n := b.length) (c := cb)) (fun kz2 => ?_)
    refine RL.nil ?_
    refine NX.seq ?_
    refine TR.block ?_
    refine TR.rangeFuncN (κ := Nat) (xs := (keptL mid 0 0 b)) rfl Try.call102 (by simp) partEnc_len (kept_iter (.tail _ (.tail _ (hG1 _ (.tail _ (.tail _ (hG _ hbb)))))) (.head _) (.tail _ (.head _)) hm0 hmm htb hbl hsb) 0 rfl (fun pre2 => Pts l1 (.loop rc1) :: Box i 121 [I x.o, I x.n, I x.s] :: Box b1 136 [.func (.yield l) #[] #[]] :: J (bothL pre (keptL mid 0 0 b) ++ bothIn pre2 x)) Mi1 (fun w hw => (by show St w (_ :: _ :: _ :: (J (bothL pre (keptL mid 0 0 b) ++ []) ++ Mi1)) _; rw [List.append_nil]; exact hw)) (fun pre2 y args j => [(5, .pointer (some ⟨b1, 0, none⟩)), (6, .pointer (some ⟨i, 0, none⟩)), (7, .pointer (some ⟨j, 0, none⟩))]) (fun pre2 y args j => Box j 121 [I y.o, I y.n, I y.s] :: Pts l1 (.loop rc1) :: Box i 121 [I x.o, I x.n, I x.s] :: Box b1 136 [.func (.yield l) #[] #[]] :: J (bothL pre (keptL mid 0 0 b) ++ bothIn pre2 x)) ?as2 ?bd2 ?ki2
    case as2 =>
      intro l2 pre2 y suf2 args hx2 he Mi2 G2 hG2
      obtain rfl : args = [.agg #[I y.o, I y.n, I y.s]] := he
      obtain ⟨y1, y2, y3, y4, y5⟩ := hkq y (by rw [hx2]; simp)
      refine TR.region ?_
      refine RL.allocA rfl (Try.zeroValue121) rfl (fun b3 => ?_)
      refine RL.storeA 0 rfl rfl rfl rfl qd_tz121 rfl rfl ?_
      refine RL.nil ?_
      exact NX.meet b3 ⟨rfl, rfl, rfl, trivial⟩ (fun w hw => hw)
    case bd2 =>
      intro l2 pre2 y suf2 args j hx2 he Mi2 G2 hG2
      obtain rfl : args = [.agg #[I y.o, I y.n, I y.s]] := he
      obtain ⟨y1, y2, y3, y4, y5⟩ := hkq y (by rw [hx2]; simp)
      refine TR.block ?_
      refine TR.seq ?_
      refine TR.sub (E' := [(5, _), (6, _), (7, _)]) ⟨rfl, rfl, rfl, trivial⟩ ?_
      refine TR.draw mixed ?_
      apply AR.more [(0, _), (1, _), (2, _), (3, _), (4, _), (5, _), (6, _), (7, _), (8, _), (9, _), (10, _), (11, _), (12, _), (13, _), (14, _), (15, _), (16, _), (17, _)]
      refine AR.last [0, 1, 2, 3, 4, 5, 6, 7, 8, 9, 10, 11, 12, 13, 14, 15, 16, 17] [0, 1, 2, 3, 4, 5, 6, 7, 8, 9, 10, 11, 12, 13, 14, 15, 16, 17] ⟨QOne.yes rfl rfl rfl (PV.fieldAddr qd_tf121_1 rfl), QOne.yes rfl rfl rfl (PV.load1 2 qd_ts3 rfl rfl rfl), QOne.yes rfl rfl rfl (PV.fieldAddr qd_tf121_0 rfl), QOne.yes rfl rfl rfl (PV.load1 0 qd_ts3 rfl rfl rfl), QOne.yes rfl rfl rfl (PV.max rfl rfl), QOne.yes rfl rfl rfl (PV.fieldAddr qd_tf121_1 rfl), QOne.yes rfl rfl rfl (PV.load1 2 qd_ts3 rfl rfl rfl), QOne.yes rfl rfl rfl (PV.fieldAddr qd_tf121_2 rfl), QOne.yes rfl rfl rfl (PV.load1 2 qd_ts3 rfl rfl rfl), QOne.yes rfl rfl rfl (PV.bin rfl rfl (BinV.add _ rfl (by omega) (by omega))), QOne.yes rfl rfl rfl (PV.fieldAddr qd_tf121_0 rfl), QOne.yes rfl rfl rfl (PV.load1 0 qd_ts3 rfl rfl rfl), QOne.yes rfl rfl rfl (PV.fieldAddr qd_tf121_2 rfl), QOne.yes rfl rfl rfl (PV.load1 0 qd_ts3 rfl rfl rfl), QOne.yes rfl rfl rfl (PV.bin rfl rfl (BinV.add _ rfl (by omega) (by omega))), QOne.yes rfl rfl rfl (PV.min rfl rfl), QOne.yes rfl rfl rfl (PV.assign rfl), QOne.yes rfl rfl rfl (PV.assign rfl), trivial⟩ rfl rfl rfl ?_
      refine NX.sub (E' := [(5, _), (6, _), (7, _), (8, _), (9, _)]) ⟨rfl, rfl, rfl, rfl, rfl, trivial⟩ ?_
      refine NX.seq ?_
      refine TR.seq ?_
      refine TR.region ?_
      refine RL.move rfl rfl rfl ?_
      refine RL.move rfl rfl rfl ?_
      refine RL.bin rfl rfl rfl BinV.lss rfl ?_
      refine RL.move rfl rfl rfl ?_
      refine RL.part (fun h4 => ?_) (fun h4 => ?_)
      · skip
        have hlt := of_decide_eq_true h4
        have hpk : pick2 x y = some (⟨x.o + max x.n y.o - x.n, y.n + max x.n y.o - y.o, min (x.n + x.s) (y.o + y.s) - max x.n y.o⟩ : Pa) := by unfold pick2; rw [if_pos hlt]
        obtain ⟨rest, hsp⟩ := both_split hx1 hx2 hpk
        refine RL.load1 3 rfl qd_ts136 rfl rfl rfl rfl ?_
        refine RL.fieldAddr rfl qd_tf121_0 rfl rfl ?_
        refine RL.load1 2 rfl qd_ts3 rfl rfl rfl rfl ?_
        refine RL.move rfl rfl rfl ?_
        refine RL.bin rfl rfl rfl (BinV.add _ rfl (by omega) (by omega)) rfl ?_
        refine RL.fieldAddr rfl qd_tf121_1 rfl rfl ?_
        refine RL.load1 2 rfl qd_ts3 rfl rfl rfl rfl ?_
        refine RL.bin rfl rfl rfl (BinV.sub _ rfl (by omega) (by omega)) rfl ?_
        refine RL.fieldAddr rfl qd_tf121_1 rfl rfl ?_
        refine RL.load1 0 rfl qd_ts3 rfl rfl rfl rfl ?_
        refine RL.move rfl rfl rfl ?_
        refine RL.bin rfl rfl rfl (BinV.add _ rfl (by omega) (by omega)) rfl ?_
        refine RL.fieldAddr rfl qd_tf121_0 rfl rfl ?_
        refine RL.load1 0 rfl qd_ts3 rfl rfl rfl rfl ?_
        refine RL.bin rfl rfl rfl (BinV.sub _ rfl (by omega) (by omega)) rfl ?_
        refine RL.move rfl rfl rfl ?_
        refine RL.move rfl rfl rfl ?_
        refine RL.bin rfl rfl rfl (BinV.sub _ rfl (by omega) (by omega)) rfl ?_
        refine RL.build rfl rfl (qd_bv121_0_1_2 _ _ _) rfl ?_
        refine RL.callYield rfl rfl rfl rfl (YSpec.frame [_, _, _, _] (hY (bothL pre (keptL mid 0 0 b) ++ bothIn pre2 x) (⟨x.o + max x.n y.o - x.n, y.n + max x.n y.o - y.o, min (x.n + x.s) (y.o + y.s) - max x.n y.o⟩ : Pa) rest _ hsp rfl ([_, _, _, _] ++ Mi2) _ (fun φ h => hG2 _ (.tail _ (.tail _ (hG1 _ (.tail _ (.tail _ (hG φ h))))))))) ?_
        refine RL.not rfl rfl rfl ?_
        refine RL.pickT rfl rfl rfl rfl ?_
        refine RL.nil ?_
        refine NX.seq ?_
        refine TR.condF rfl ?_
        refine TR.skip ?_
        refine NX.off ?_
        exact fun aa w _ hw => by
          have h9 : St w (Pts l1 (.loop rc1) :: Box i 121 [I x.o, I x.n, I x.s] :: Box b1 136 [.func (.yield l) #[] #[]] :: (J ((bothL pre (keptL mid 0 0 b) ++ bothIn pre2 x) ++ [(⟨x.o + max x.n y.o - x.n, y.n + max x.n y.o - y.o, min (x.n + x.s) (y.o + y.s) - max x.n y.o⟩ : Pa)]) ++ Mi2)) G2 := hw.drop 0 rfl
          show St w (Pts l1 (.loop rc1) :: Box i 121 [I x.o, I x.n, I x.s] :: Box b1 136 [.func (.yield l) #[] #[]] :: (J (bothL pre (keptL mid 0 0 b) ++ bothIn (pre2 ++ [y]) x) ++ Mi2)) G2
          rw [bothIn_snoc, hpk, ← List.append_assoc]
          exact h9
      · skip
        have hlt := of_decide_eq_false h4
        have hpk : pick2 x y = none := by unfold pick2; rw [if_neg hlt]
        refine RL.skip rfl rfl rfl ?_
        refine RL.skip rfl rfl rfl ?_
        refine RL.skip rfl rfl rfl ?_
        refine RL.skip rfl rfl rfl ?_
        refine RL.skip rfl rfl rfl ?_
        refine RL.skip rfl rfl rfl ?_
        refine RL.skip rfl rfl rfl ?_
        refine RL.skip rfl rfl rfl ?_
        refine RL.skip rfl rfl rfl ?_
        refine RL.skip rfl rfl rfl ?_
        refine RL.skip rfl rfl rfl ?_
        refine RL.skip rfl rfl rfl ?_
        refine RL.skip rfl rfl rfl ?_
        refine RL.skip rfl rfl rfl ?_
        refine RL.skip rfl rfl rfl ?_
        refine RL.skip rfl rfl rfl ?_
        refine RL.skip rfl rfl rfl ?_
        refine RL.skip rfl rfl rfl ?_
        refine RL.skip rfl rfl rfl ?_
        refine RL.skip rfl rfl rfl ?_
        refine RL.skip rfl rfl rfl ?_
        refine RL.pickF rfl rfl rfl rfl ?_
        refine RL.nil ?_
        refine NX.seq ?_
        refine TR.condF rfl ?_
        refine TR.skip ?_
        refine NX.off ?_
        exact fun aa w _ hw => by
          have h9 : St w (Pts l1 (.loop rc1) :: Box i 121 [I x.o, I x.n, I x.s] :: Box b1 136 [.func (.yield l) #[] #[]] :: (J (bothL pre (keptL mid 0 0 b) ++ bothIn pre2 x) ++ Mi2)) G2 := hw.drop 0 rfl
          show St w (Pts l1 (.loop rc1) :: Box i 121 [I x.o, I x.n, I x.s] :: Box b1 136 [.func (.yield l) #[] #[]] :: (J (bothL pre (keptL mid 0 0 b) ++ bothIn (pre2 ++ [y]) x) ++ Mi2)) G2
          rw [bothIn_snoc, hpk, List.append_nil]
          exact h9
    case ki2 =>
      refine NX.off ?_
      refine NX.off ?_
      exact fun aa w _ hw => by
        have h9 : St w (Box i 121 [I x.o, I x.n, I x.s] :: Pts l1 (.loop rc1) :: Box b1 136 [.func (.yield l) #[] #[]] :: (J (bothL pre (keptL mid 0 0 b) ++ bothIn (keptL mid 0 0 b) x) ++ Mi1)) _ := hw.perm (.swap _ _ _)
        have h8 := ((h9.drop 0 rfl).facts (F' := G1) (fun φ h => .tail _ (.tail _ h)))
        rw [← bothL_snoc] at h8
        exact h8.perm pm2
  case ki0 =>
    intro D
    refine NX.off ?_
    exact NX.endM 0 () rfl rfl rfl (fun w hw => ((hw.drop 0 rfl).facts (fun φ h => .tail _ (.tail _ h))))
end Go.Proofs.Ytkdeopioelocnaa

namespace Go.GL
namespace Tree
end Tree
open Tree
theorem TreesAt.at {w K} : ∀ {ts : List Tree} {cs : List Value} {k : Nat} (h : k < ts.length), TreesAt w K ts cs → cs[k * 4]? = some (I ts[k].id)
  | t :: ts, cs, 0, h, ⟨a, len, cap, rest, h1, _, _⟩ => by rw [h1]; rfl
  | t :: ts, cs, k + 1, h, ⟨a, len, cap, rest, h1, _, h3⟩ => by
    have := TreesAt.at (k := k) (by simpa using h) h3
    rw [h1, show (k + 1) * 4 = 4 + k * 4 from by omega, List.getElem?_append_right (by simp)]
    simpa using this
namespace Tree
theorem Small.zero {d : Nat} (h : 1 ≤ d) : Small d (.node 0 0 [] []) := by
  cases d with
  | zero => omega
  | succ d => exact ⟨Nat.zero_le _, Nat.zero_le _, fun _ => rfl, fun k hk => by cases hk⟩
theorem Small.pos {d : Nat} {t : Tree} (h : Small d t) : 1 ≤ d := by
  cases d with
  | zero => exact h.elim
  | succ d => omega
theorem Small.get {d : Nat} : ∀ {is : List Int} {t : Tree} {p : Nat} {k : Tree} {q : Nat}, Small d t → t.get is p = some (k, q) → Small d k
  | [], t, p, k, q, h, e => by
    rw [Tree.get] at e
    simp only [Option.some.injEq, Prod.mk.injEq] at e
    rw [← e.1]; exact h
  | i :: is, t, p, k, q, h, e => by
    rw [Tree.get] at e
    split at e
    · cases e
    · split at e
      · rename_i u hu
        cases d with
        | zero => exact h.elim
        | succ d => exact (Small.get (h.kid (List.mem_of_getElem? hu)) e).mono (by omega)
      · cases e
end Tree
def isI64t (P : Program) (t : TypeId) : Bool := match P.underlying t with | some (.int .i64) => true | _ => false
theorem isI64t_is {P : Program} {t : TypeId} (h : isI64t P t = true) : P.underlying t = some (.int .i64) := by
  unfold isI64t at h
  split at h
  · rename_i he; exact he
  · cases h
theorem part_int {P : Program} {w : World} {t off : Nat} {cs : Array Value} {v : Value} (h : P.underlying t = some (.int .i64)) (hv : cs[off]? = some v) : (part t cs off).run P w = .ok v w := by
  simp [part, isAgg, run_underlying h, hv]
theorem part_str {P : Program} {w : World} {t off : Nat} {cs : Array Value} {v : Value} (h : P.underlying t = some .string) (hv : cs[off]? = some v) : (part t cs off).run P w = .ok v w := by
  simp [part, isAgg, run_underlying h, hv]
namespace Tree
end Tree
theorem CellsAt.sub {w : World} {K : List Nat} {b off o : Nat} {cs vs : List Value} (h : CellsAt w K b off cs) (hs : ∀ j v, vs[j]? = some v → cs[o + j]? = some v) : CellsAt w K b (off + o) vs :=
  ⟨h.1, h.2.1, fun j v hv => by rw [Nat.add_assoc]; exact h.2.2 _ v (hs j v hv)⟩
end Go.GL

namespace Go.GL
set_option linter.unusedVariables false
def edOk (P : Program) (t : Nat) : Bool := match (P.fieldsOf t).toList with
  | [f0, f1, f2] => (decide (f0.name ≠ "_") && decide (f1.name ≠ "_") && decide (f2.name ≠ "_")) && (Nat.beq f0.offset 0 && Nat.beq f1.offset 1 && Nat.beq f2.offset 2) && (isI64t P f0.type && isI64t P f1.type && tyStr P f2.type)
  | _ => false
theorem S_inj {a b : List UInt8} : ((⟨a.toArray⟩ : ByteArray).toList == (⟨b.toArray⟩ : ByteArray).toList) = decide (a = b) := by
  rw [S_toList, S_toList]
  by_cases h : a = b
  · subst h; simp
  · simp [h]
theorem run_equalIn_ed {P : Program} {t : Nat} (hf : edOk P t = true) (hu : P.underlying t = some (.struct (P.fieldsOf t))) (hh : P.stoodInHeld t = false) (w : World) (a b a' b' : Int) (c c' : List UInt8) :
    (Op.equalIn 10000 t (.agg #[I a, I b, S c]) (.agg #[I a', I b', S c'])).run P w = .ok (decide (a = a' ∧ b = b' ∧ c = c')) w := by
  rw [run_equalIn_agg w 9999 t _ _ hu hh]
  unfold edOk at hf
  split at hf
  · rename_i f0 f1 f2 he
    simp only [Bool.and_eq_true, decide_eq_true_eq] at hf
    obtain ⟨⟨⟨⟨n0, n1⟩, n2⟩, ⟨o0, o1⟩, o2⟩, ⟨t0, t1⟩, t2⟩ := hf
    have o0 := Nat.eq_of_beq_eq_true o0
    have o1 := Nat.eq_of_beq_eq_true o1
    have o2 := Nat.eq_of_beq_eq_true o2
    have t0 := isI64t_is t0
    have t1 := isI64t_is t1
    have t2 := tyStr_underlying t2
    have e0 : ∀ a a' : Int, ((Op.equalIn 9999 f0.type (I a) (I a')).run P w) = .ok (a == a') w := fun a a' => run_equalIn_int w 9998 f0.type .i64 .i64 a a' t0
    have e1 : ∀ b b' : Int, ((Op.equalIn 9999 f1.type (I b) (I b')).run P w) = .ok (b == b') w := fun b b' => run_equalIn_int w 9998 f1.type .i64 .i64 b b' t1
    have e2 : ∀ c c' : List UInt8, ((Op.equalIn 9999 f2.type (S c) (S c')).run P w) = .ok (decide (c = c')) w := fun c c' => by rw [← S_inj]; exact run_equalIn_string w 9998 f2.type _ _ t2
    have p0 : ∀ a b c, (part f0.type #[I a, I b, S c] f0.offset).run P w = .ok (I a) w := fun a b c => part_int t0 (by rw [o0]; rfl)
    have p1 : ∀ a b c, (part f1.type #[I a, I b, S c] f1.offset).run P w = .ok (I b) w := fun a b c => part_int t1 (by rw [o1]; rfl)
    have p2 : ∀ a b c, (part f2.type #[I a, I b, S c] f2.offset).run P w = .ok (S c) w := fun a b c => part_str t2 (by rw [o2]; rfl)
    rw [he]
    by_cases h0 : a = a' <;> by_cases h1 : b = b' <;> by_cases h2 : c = c' <;> simp [Op.eqFields, n0, n1, n2, p0, p1, p2, e0, e1, e2, h0, h1, h2]
  · cases hf
theorem BinV.neqEd {P : Program} {t : Nat} (hf : edOk P t = true) (hu : P.underlying t = some (.struct (P.fieldsOf t))) (hh : P.stoodInHeld t = false) (hg : P.eqGuardType P.depth t = false) (a b a' b' : Int) (c c' : List UInt8) :
    BinV P .neq t (.agg #[I a, I b, S c]) (.agg #[I a', I b', S c']) (.bool (!decide (a = a' ∧ b = b' ∧ c = c'))) := by
  refine ⟨fun w => ?_, fun ox oy w => run_eqGuard_agg w .neq t ox oy _ _ hg⟩
  rw [run_neq_struct, run_equalIn_ed hf hu hh]
  rfl
theorem edC_set (l : List Ed) (k : Nat) (h : k < l.length) (e : Ed) : edC (l.set k e) = (edC l).take (k * 3) ++ e.c ++ (edC l).drop (k * 3 + 3) := by
  induction l generalizing k with
  | nil => simp at h
  | cons a l ih =>
    cases k with
    | zero => simp [edC]
    | succ k =>
      rw [List.set_cons_succ, edC, ih k (by simpa using h), edC, show (k + 1) * 3 = k * 3 + 1 + 1 + 1 from by omega, show k * 3 + 1 + 1 + 1 + 3 = (k * 3 + 3) + 1 + 1 + 1 from by omega]
      simp [List.take_succ_cons]
theorem edC_split (l : List Ed) (k : Nat) (h : k < l.length) : edC l = (edC l).take (k * 3) ++ l[k].c ++ (edC l).drop (k * 3 + 3) := by
  have := edC_set l k h l[k]
  rwa [List.set_getElem_self] at this
theorem edC_setT (l : List Ed) (k : Nat) (h : k < l.length) (t : Int) : (edC l).take (0 + ((k : Nat) : Int).toNat * 3 + 1) ++ [I t] ++ (edC l).drop (0 + ((k : Nat) : Int).toNat * 3 + 1 + ([I t] : List Value).length) = edC (l.set k ⟨l[k].f, t, l[k].x⟩) := by
  have hl : ((edC l).take (k * 3)).length = k * 3 := by rw [List.length_take, edC_length]; omega
  rw [edC_set l k h, Nat.zero_add, Int.toNat_natCast]
  conv => lhs; rw [edC_split l k h]
  generalize (edC l).take (k * 3) = A at *
  generalize (edC l).drop (k * 3 + 3) = B
  rw [← hl]
  simp [List.take_append, List.drop_append, Ed.c]
  rw [List.take_of_length_le (l := A) (by omega), List.drop_of_length_le (l := A) (by omega), show A.length + 1 + 1 - A.length = 2 from by omega]
  rfl
theorem edC_setX (l : List Ed) (k : Nat) (h : k < l.length) (x : List UInt8) : (edC l).take (0 + ((k : Nat) : Int).toNat * 3 + 2) ++ [S x] ++ (edC l).drop (0 + ((k : Nat) : Int).toNat * 3 + 2 + ([S x] : List Value).length) = edC (l.set k ⟨l[k].f, l[k].t, x⟩) := by
  have hl : ((edC l).take (k * 3)).length = k * 3 := by rw [List.length_take, edC_length]; omega
  rw [edC_set l k h, Nat.zero_add, Int.toNat_natCast]
  conv => lhs; rw [edC_split l k h]
  generalize (edC l).take (k * 3) = A at *
  generalize (edC l).drop (k * 3 + 3) = B
  rw [← hl]
  simp [List.take_append, List.drop_append, Ed.c]
  rw [List.take_of_length_le (l := A) (by omega), List.drop_of_length_le (l := A) (by omega), show A.length + 2 + 1 - A.length = 3 from by omega]
  rfl
theorem edC_setX2 {l x2 : List Ed} {k : Nat} (h : k < l.length) {t : Int} (hx2 : x2 = l.set k ⟨l[k].f, t, l[k].x⟩) (x : List UInt8) : (edC x2).take (0 + ((k : Nat) : Int).toNat * 3 + 2) ++ [S x] ++ (edC x2).drop (0 + ((k : Nat) : Int).toNat * 3 + 2 + ([S x] : List Value).length) = edC (l.set k ⟨l[k].f, t, x⟩) := by
  have h2 : k < x2.length := by rw [hx2, List.length_set]; exact h
  rw [edC_setX x2 k h2 x]
  subst hx2
  rw [List.set_set, List.getElem_set_self]
theorem edC_at1 {l : List Ed} {k j : Nat} {v : Value} (h : k < l.length) (hv : (l[k].c)[j]? = some v) : (edC l)[0 + ((k : Nat) : Int).toNat * 3 + j]? = some v := by
  rw [Nat.zero_add, Int.toNat_natCast]; exact edC_at h hv
end Go.GL

namespace Go.Proofs.Ytkdeopioelocnaa
open Go.GL
set_option linter.unusedVariables false
theorem qe_bs26_1_0 (x00 : Int) (x01 : Int) (x02 : List UInt8) : BuildSV Try.prog 26 78 1 [(0, .agg #[.int .i64 x00, .int .i64 x01, S x02])] [.int .i64 x00, .int .i64 x01, S x02] := fun w => by kernel_rfl
theorem qe_bv78_0_1_2 (x0 : Int) (x1 : Int) (x2 : List UInt8) : BuildV Try.prog 78 [(0, .int .i64 x0), (1, .int .i64 x1), (2, S x2)] (.agg #[.int .i64 x0, .int .i64 x1, S x2]) := fun w => by kernel_rfl
theorem qe_ni26 : noInt Try.prog 26 = true := by kernel_rfl
theorem qe_ta78 : tyAgg Try.prog 78 3 = true := by kernel_rfl
theorem qe_te78 : tyElem Try.prog 78 3 32 = true := by kernel_rfl
theorem qe_tf78_0 : fieldOff Try.prog 78 0 0 = true := by kernel_rfl
theorem qe_tf78_1 : fieldOff Try.prog 78 1 1 = true := by kernel_rfl
theorem qe_tf78_2 : fieldOff Try.prog 78 2 2 = true := by kernel_rfl
theorem qe_tl26 : tySlice Try.prog 26 78 = true := by kernel_rfl
theorem qe_ts3 : tyScalar Try.prog 3 = true := by kernel_rfl
theorem qe_ts9 : tyScalar Try.prog 9 = true := by kernel_rfl
theorem qe_tstr9 : tyStr Try.prog 9 = true := by kernel_rfl
theorem qe_tz3 : tySize Try.prog 3 1 = true := by kernel_rfl
theorem qe_tz78 : tySize Try.prog 78 3 = true := by kernel_rfl
theorem qe_tz9 : tySize Try.prog 9 1 = true := by kernel_rfl
theorem edOk_ : edOk Try.prog 78 = true := by kernel_rfl
theorem edUnd_ : Try.prog.underlying 78 = some (.struct (Try.prog.fieldsOf 78)) := by kernel_rfl
theorem edHeld_ : Try.prog.stoodInHeld 78 = false := by kernel_rfl
theorem edGrd_ : Try.prog.eqGuardType Try.prog.depth 78 = false := by kernel_rfl
structure KjX where
  k : Nat
  l : List Ed
  oa : Option Addr
  c : Nat
theorem normal_spec {tx : List UInt8} {es : List Ed} {oa : Option Addr} {ca : Nat} {M : List HP} {F : List Fact} (ha : ArrF oa (edC es) ∈ F) (hin : ∀ e, e ∈ es → EdIn tx.length e) (hl : tx.length ≤ 1099511627776) (htm : txs es ≤ 1099511627776) (hel : es.length ≤ 2199023255552) : Ctr Try.prog 57 [S tx, .slice oa es.length ca] M F RdX (fun z => .slice z.oa (normE tx es).length z.c) (fun _ => M) (fun z => ArrF z.oa (edC (normE tx es)) :: F) := by
  refine Ctr.body Try.func57 rfl rfl ?_
  refine TR.seq ?_
  refine TR.region ?_
  refine RL.assign rfl rfl rfl ?_
  refine RL.nil ?_
  refine NX.seq ?_
  refine TR.seq ?_
  refine TR.region ?_
  refine RL.assign rfl rfl rfl ?_
  refine RL.weak (fun w hw => OwnSl.nil_new 78 3 hw) ?_
  refine RL.nil ?_
  refine NX.seq ?_
  refine TR.seq ?_
  refine TR.seq ?_
  refine TR.region ?_
  refine RL.move rfl rfl rfl ?_
  refine RL.lenSlice rfl qe_tl26 rfl rfl ?_
  refine RL.move rfl rfl rfl ?_
  refine RL.nil ?_
  refine NX.seq ?_
  refine TR.block ?_
  refine TR.loopP (ι := KjX) (fun x => x.k ≤ es.length ∧ x.l = joinL (es.take x.k)) (fun x => [(0, S tx), (5, .slice x.oa x.l.length x.c), (12, .slice oa es.length ca), (13, I (es.length : Nat)), (14, I (x.k : Nat))]) (fun x => OwnSl 78 3 x.oa x.l.length x.c (edC x.l) :: M) (fun x => F) (fun x => es.length - x.k) ⟨0, [], none, 0⟩ ⟨Nat.zero_le _, rfl⟩ ⟨rfl, rfl, rfl, rfl, rfl, trivial⟩ (fun w hw => (hw.to 1 [0] 0 [] rfl)) (fun x hx => ?_)
  refine TR.seq ?_
  refine TR.region ?_
  refine RL.bin rfl rfl rfl BinV.lss rfl ?_
  refine RL.nil ?_
  refine NX.seq ?_
  refine TR.seq ?_
  refine TR.cond rfl (fun h1 => ?_) (fun h1 => ?_)
  · skip
    have hk1 : x.k < es.length := by have := of_decide_eq_true h1; omega
    have hjo := joinL_ok (n := tx.length) (es := es.take x.k) (fun e he => hin e (List.mem_of_mem_take he))
    rw [← hx.2] at hjo
    have htk : txs (es.take x.k) ≤ txs es := txs_take es x.k
    have hll : x.l.length ≤ es.length := by have := hjo.2.2; rw [List.length_take] at this; omega
    obtain ⟨he1, he2, he3⟩ := hin _ (List.getElem_mem hk1)
    refine TR.openP (open_arr (oa := oa) (xs := edC es) ha (fun e => by have h8 := edC_length es; rw [e] at h8; simp at h8; omega)) (fun pq hpq => ?_)
    refine TR.skip ?_
    refine NX.seq ?_
    refine TR.seq ?_
    refine TR.block ?_
    refine TR.seq ?_
    refine TR.region ?_
    refine RL.indexAddr rfl qe_tl26 qe_tz78 (congrArg (fun a => some (Value.slice a _ _)) hpq) rfl (by omega) (by omega) rfl ?_
    refine RL.loadF rfl rfl (fun w K hF => run_ed (hF (CellsF pq.1 pq.2 (edC es)) (.head _)) qe_ta78 hk1) rfl ?_
    refine RL.allocA rfl (Try.zeroValue78) rfl (fun b2 => ?_)
    refine RL.storeA 0 rfl rfl rfl rfl qe_tz78 rfl rfl ?_
    refine RL.nil ?_
    refine NX.seq ?_
    refine TR.seq ?_
    refine TR.seq ?_
    refine TR.region ?_
    refine RL.move rfl rfl rfl ?_
    refine RL.lenSlice rfl qe_tl26 rfl rfl ?_
    refine RL.assign rfl rfl rfl ?_
    refine RL.nil ?_
    refine NX.seq ?_
    refine TR.seq ?_
    refine TR.sub (E' := [(0, _), (5, _), (7, _), (8, _), (12, _), (13, _), (14, _), (15, _), (16, _), (17, _), (18, _), (19, _)]) ⟨rfl, rfl, rfl, rfl, rfl, rfl, rfl, rfl, rfl, rfl, rfl, rfl, trivial⟩ ?_
    refine TR.draw mixed ?_
    cases h3 : decide ((0 : Int) < ((x.l.length : Nat) : Int))
    · skip
      have hz : x.l = [] := List.eq_nil_of_length_eq_zero (by have := of_decide_eq_false h3; omega)
      have hnj : ∀ y, x.l.getLast? = some y → y.t ≠ es[x.k].f := fun y hy => by rw [hz] at hy; cases hy
      apply AR.more [(0, _), (1, _), (2, .bool false), (3, undef), (4, undef), (5, undef), (6, undef), (7, undef), (8, undef), (9, undef), (10, undef), (11, undef), (12, .bool false)]
      refine AR.last [0, 1, 2, 3, 4, 5, 6, 7, 8, 9, 10, 11, 12] [0, 1, 2, 3, 4, 5, 6, 7, 8, 9, 10, 11, 12] ⟨QOne.yes rfl rfl rfl (PV.move rfl), QOne.yes rfl rfl rfl (PV.bin rfl rfl BinV.gtr), QOne.yes rfl rfl rfl (PV.cast (congrArg Value.bool h3) (PV.move rfl)), QOne.no rfl rfl rfl, QOne.no rfl rfl rfl, QOne.no rfl rfl rfl, QOne.no rfl rfl rfl, QOne.no rfl rfl rfl, QOne.no rfl rfl rfl, QOne.no rfl rfl rfl, QOne.no rfl rfl rfl, QOne.no rfl rfl rfl, QOne.yes rfl rfl rfl (PV.pickF rfl rfl), trivial⟩ rfl rfl rfl ?_
      refine NX.sub (E' := [(0, _), (5, _), (7, _), (8, _), (12, _), (13, _), (14, _), (15, _), (16, _), (17, _), (18, _), (19, _), (20, _), (21, _), (22, _), (23, _), (24, _), (25, _), (26, _), (27, _), (28, _), (29, _), (30, _), (31, _), (32, _)]) ⟨rfl, rfl, rfl, rfl, rfl, rfl, rfl, rfl, rfl, rfl, rfl, rfl, rfl, rfl, rfl, rfl, rfl, rfl, rfl, rfl, rfl, rfl, rfl, rfl, rfl, trivial⟩ ?_
      refine NX.seq ?_
      refine TR.condF rfl ?_
      refine TR.skip ?_
      refine NX.seq ?_
      refine TR.region ?_
      refine RL.move rfl rfl rfl ?_
      refine RL.loadA 0 rfl rfl rfl qe_ta78 rfl ?_
      refine RL.buildSlice rfl rfl (qe_bs26_1_0 _ _ _) rfl (fun b4 => ?_)
      refine RL.ofGV rfl rfl (GV.append (j := 2) qe_tl26 qe_ni26 qe_te78 rfl rfl rfl (src_box (i := 0) rfl rfl rfl) (by omega) (by omega)) (fun y => ?_)
      refine RL.assign rfl rfl rfl ?_
      refine RL.nil ?_
      refine NX.off ?_
      refine NX.seq ?_
      refine TR.region ?_
      refine RL.bin rfl rfl rfl (BinV.add _ rfl (by omega) (by omega)) rfl ?_
      refine RL.move rfl rfl rfl ?_
      refine RL.nil ?_
      refine NX.roundP ⟨x.k + 1, joinStep x.l es[x.k], y.1, y.2⟩ ⟨hk1, by show joinStep x.l es[x.k] = joinL (es.take (x.k + 1)); rw [List.take_succ_eq_append_getElem hk1, joinL_snoc, hx.2]⟩ (by show _ - (x.k + 1) < _ - x.k; omega) ⟨rfl, ?_, rfl, rfl, rfl, trivial⟩ (fun w hw => ?_)
      · show some (Value.slice y.1 (x.l.length + 1) y.2) = some (Value.slice y.1 (joinStep x.l es[x.k]).length y.2)
        rw [joinStep_new hnj, List.length_append]; rfl
      · have h9 := (hw.to 3 [2] 1 [] rfl)
        show St w (OwnSl 78 3 y.1 (joinStep x.l es[x.k]).length y.2 (edC (joinStep x.l es[x.k])) :: M) F
        rw [joinStep_new hnj, List.length_append, edC_append]
        exact h9
    · skip
      have hpos0 : 0 < x.l.length := by have := of_decide_eq_true h3; omega
      refine AR.openP (fun w hw => own_at (i := 1) rfl (fun e => by have h8 := edC_length x.l; rw [e] at h8; simp at h8; omega) hw) (fun g1 hg1 => ?_)
      apply AR.more [(0, _), (1, _), (2, .bool true), (3, _), (4, _), (5, _), (6, _), (7, _), (8, _), (9, _), (10, _), (11, _), (12, _)]
      refine AR.last [0, 1, 2, 3, 4, 5, 6, 7, 8, 9, 10, 11, 12] [0, 1, 2, 3, 4, 5, 6, 7, 8, 9, 10, 11, 12] ⟨QOne.yes rfl rfl rfl (PV.move rfl), QOne.yes rfl rfl rfl (PV.bin rfl rfl BinV.gtr), QOne.yes rfl rfl rfl (PV.cast (congrArg Value.bool h3) (PV.move rfl)), QOne.yes rfl rfl rfl (PV.move rfl), QOne.yes rfl rfl rfl (PV.move rfl), QOne.yes rfl rfl rfl (PV.bin rfl rfl (BinV.sub ((x.l.length - 1 : Nat) : Int) (by omega) (by omega) (by omega))), QOne.yes rfl rfl rfl (PV.indexAddr qe_tl26 qe_tz78 (congrArg (fun a => some (Value.slice a _ _)) hg1) rfl (by omega) (by omega)), QOne.yes rfl rfl rfl (PV.fieldAddr qe_tf78_1 rfl), QOne.yes rfl rfl rfl (PV.loadS rfl (own_one (i := 1) rfl hg1 qe_ts3 (show (edC x.l)[0 + ((x.l.length - 1 : Nat) : Int).toNat * 3 + 1]? = some (I (x.l[x.l.length - 1]'(by omega)).t) from edC_at1 (by omega) rfl))), QOne.yes rfl rfl rfl (PV.fieldAddr qe_tf78_0 rfl), QOne.yes rfl rfl rfl (PV.load1 0 qe_ts3 rfl rfl rfl), QOne.yes rfl rfl rfl (PV.bin rfl rfl BinV.eql), QOne.yes rfl rfl rfl (PV.pickT rfl rfl), trivial⟩ rfl rfl rfl ?_
      refine NX.sub (E' := [(0, _), (5, _), (7, _), (8, _), (12, _), (13, _), (14, _), (15, _), (16, _), (17, _), (18, _), (19, _), (20, _), (21, _), (22, _), (23, _), (24, _), (25, _), (26, _), (27, _), (28, _), (29, _), (30, _), (31, _), (32, _)]) ⟨rfl, rfl, rfl, rfl, rfl, rfl, rfl, rfl, rfl, rfl, rfl, rfl, rfl, rfl, rfl, rfl, rfl, rfl, rfl, rfl, rfl, rfl, rfl, rfl, rfl, trivial⟩ ?_
      refine NX.seq ?_
      refine TR.cond rfl (fun h6 => ?_) (fun h6 => ?_)
      · skip
        have hcj : (x.l[x.l.length - 1]'(by omega)).t = es[x.k].f := of_decide_eq_true h6
        have hpos : 0 < x.l.length := by omega
        refine TR.openP (fun w hw => own_at (i := 1) rfl (fun e => by have h8 := edC_length x.l; rw [e] at h8; simp at h8; omega) hw) (fun g1 hg1 => ?_)
        refine TR.seq ?_
        refine TR.region ?_
        refine RL.move rfl rfl rfl ?_
        refine RL.move rfl rfl rfl ?_
        refine RL.bin rfl rfl rfl (BinV.sub ((x.l.length - 1 : Nat) : Int) (by omega) (by omega) (by omega)) rfl ?_
        refine RL.fieldAddr rfl qe_tf78_1 rfl rfl ?_
        refine RL.load1 0 rfl qe_ts3 rfl rfl rfl rfl ?_
        refine RL.indexAddr rfl qe_tl26 qe_tz78 (congrArg (fun a => some (Value.slice a _ _)) hg1) rfl (by omega) (by omega) rfl ?_
        refine RL.fieldAddr rfl qe_tf78_1 rfl rfl ?_
        refine RL.ofEV rfl rfl (EV.storeO (vs := [I es[x.k].t]) (oa := x.oa) 1 rfl rfl rfl hg1 qe_tz3 rfl (by show 0 + ((x.l.length - 1 : Nat) : Int).toNat * 3 + 1 + 1 ≤ ( edC x.l).length; rw [edC_length, Int.toNat_natCast]; omega) rfl) ?_
        rw [edC_setT x.l (x.l.length - 1) (by omega) es[x.k].t]
        refine RL.nil ?_
        refine NX.seq ?_
        refine TR.seq ?_
        obtain ⟨x2, hx2⟩ : ∃ x2, x2 = x.l.set (x.l.length - 1) ⟨(x.l[x.l.length - 1]'(by omega)).f, es[x.k].t, (x.l[x.l.length - 1]'(by omega)).x⟩ := ⟨_, rfl⟩
        rw [← hx2]
        refine TR.sub (E' := [(0, _), (5, _), (7, _), (8, _), (12, _), (13, _), (14, _), (15, _), (16, _), (17, _), (18, _), (19, _), (20, _), (21, _), (22, _), (23, _), (24, _), (25, _), (26, _), (27, _), (28, _), (29, _), (30, _), (31, _), (32, _), (33, _), (34, _), (35, _), (36, _), (37, _), (38, _), (39, _)]) ⟨rfl, rfl, rfl, rfl, rfl, rfl, rfl, rfl, rfl, rfl, rfl, rfl, rfl, rfl, rfl, rfl, rfl, rfl, rfl, rfl, rfl, rfl, rfl, rfl, rfl, rfl, rfl, rfl, rfl, rfl, rfl, rfl, trivial⟩ ?_
        refine TR.draw mixed ?_
        apply AR.more [(0, _), (1, _), (2, _), (3, _), (4, _), (5, _), (6, _), (7, _), (8, _), (9, _), (10, _)]
        refine AR.eff [0, 1, 2, 3, 4, 5, 6, 7, 8, 9, 10] 11 [0, 1, 2, 3, 4, 5, 6, 7, 8, 9, 10, 11] ⟨QOne.yes rfl rfl rfl (PV.move rfl), QOne.yes rfl rfl rfl (PV.move rfl), QOne.yes rfl rfl rfl (PV.bin rfl rfl (BinV.sub ((x.l.length - 1 : Nat) : Int) (by omega) (by omega) (by omega))), QOne.yes rfl rfl rfl (PV.indexAddr qe_tl26 qe_tz78 (congrArg (fun a => some (Value.slice a _ _)) hg1) rfl (by omega) (by omega)), QOne.yes rfl rfl rfl (PV.fieldAddr qe_tf78_2 rfl), QOne.yes rfl rfl rfl (PV.loadS rfl (own_one (i := 1) rfl hg1 qe_ts9 (show (edC x2)[0 + ((x.l.length - 1 : Nat) : Int).toNat * 3 + 2]? = some (S (x.l[x.l.length - 1]'(by omega)).x) from by subst hx2; exact edC_at1 (by rw [List.length_set]; omega) (by rw [List.getElem_set_self]; rfl)))), QOne.yes rfl rfl rfl (PV.fieldAddr qe_tf78_2 rfl), QOne.yes rfl rfl rfl (PV.load1 0 qe_ts9 rfl rfl rfl), QOne.yes rfl rfl rfl (PV.bin rfl rfl (BinV.addS (by have := txs_mem (es := x.l) (List.getElem_mem (show x.l.length - 1 < x.l.length by omega)); have := txs_mem (es := es) (List.getElem_mem hk1); omega))), QOne.yes rfl rfl rfl (PV.indexAddr qe_tl26 qe_tz78 (congrArg (fun a => some (Value.slice a _ _)) hg1) rfl (by omega) (by omega)), QOne.yes rfl rfl rfl (PV.fieldAddr qe_tf78_2 rfl), trivial⟩ rfl rfl rfl rfl rfl rfl rfl (EV.storeO (vs := [S ((x.l[x.l.length - 1]'(by omega)).x ++ es[x.k].x)]) (oa := x.oa) (xs := edC x2) 1 rfl rfl rfl hg1 qe_tz9 rfl (by show 0 + ((x.l.length - 1 : Nat) : Int).toNat * 3 + 2 + 1 ≤ (edC x2).length; rw [edC_length, Int.toNat_natCast, hx2, List.length_set]; omega) rfl) (fun _ => ?_)
        refine AR.done [10, 8, 0, 1, 2, 3, 4, 5, 6, 7, 9] rfl ?_
        refine AR.last [] [0, 1, 2, 3, 4, 5, 6, 7, 8, 9, 10, 11] trivial rfl rfl rfl ?_
        refine NX.sub (E' := [(0, _), (5, _), (7, _), (8, _), (12, _), (13, _), (14, _), (15, _), (16, _), (17, _), (18, _), (19, _), (20, _), (21, _), (22, _), (23, _), (24, _), (25, _), (26, _), (27, _), (28, _), (29, _), (30, _), (31, _), (32, _), (33, _), (34, _), (35, _), (36, _), (37, _), (38, _), (39, _), (40, _), (41, _), (42, _), (43, _), (44, _), (45, _), (46, _), (47, _), (48, _), (49, _), (50, _)]) ⟨rfl, rfl, rfl, rfl, rfl, rfl, rfl, rfl, rfl, rfl, rfl, rfl, rfl, rfl, rfl, rfl, rfl, rfl, rfl, rfl, rfl, rfl, rfl, rfl, rfl, rfl, rfl, rfl, rfl, rfl, rfl, rfl, rfl, rfl, rfl, rfl, rfl, rfl, rfl, rfl, rfl, rfl, rfl, trivial⟩ ?_
        refine NX.seq ?_
        refine TR.exit ?_
        refine NX.exitThen ?_
        refine NX.exitHere ?_
        refine NX.seq ?_
        refine TR.region ?_
        refine RL.bin rfl rfl rfl (BinV.add _ rfl (by omega) (by omega)) rfl ?_
        refine RL.move rfl rfl rfl ?_
        refine RL.nil ?_
        refine NX.roundP ⟨x.k + 1, joinStep x.l es[x.k], x.oa, x.c⟩ ⟨hk1, by show joinStep x.l es[x.k] = joinL (es.take (x.k + 1)); rw [List.take_succ_eq_append_getElem hk1, joinL_snoc, hx.2]⟩ (by show _ - (x.k + 1) < _ - x.k; omega) ⟨rfl, ?_, rfl, rfl, rfl, trivial⟩ (fun w hw => ?_)
        · show some (Value.slice x.oa x.l.length x.c) = some (Value.slice x.oa (joinStep x.l es[x.k]).length x.c)
          rw [joinStep_old hpos hcj, List.length_set]
        · have h9 := (hw.to 2 [1] 1 [] rfl)
          show St w (OwnSl 78 3 x.oa (joinStep x.l es[x.k]).length x.c (edC (joinStep x.l es[x.k])) :: M) F
          rw [joinStep_old hpos hcj, List.length_set]
          rw [← edC_setX2 (by omega) hx2]
          exact h9
      · skip
        have hcj : ¬ (x.l[x.l.length - 1]'(by omega)).t = es[x.k].f := of_decide_eq_false h6
        have hnj : ∀ y, x.l.getLast? = some y → y.t ≠ es[x.k].f := fun y hy => by rw [last_of (by omega)] at hy; rw [← Option.some.inj hy]; exact hcj
        refine TR.skip ?_
        refine NX.seq ?_
        refine TR.region ?_
        refine RL.move rfl rfl rfl ?_
        refine RL.loadA 0 rfl rfl rfl qe_ta78 rfl ?_
        refine RL.buildSlice rfl rfl (qe_bs26_1_0 _ _ _) rfl (fun b7 => ?_)
        refine RL.ofGV rfl rfl (GV.append (j := 2) qe_tl26 qe_ni26 qe_te78 rfl rfl rfl (src_box (i := 0) rfl rfl rfl) (by omega) (by omega)) (fun y => ?_)
        refine RL.assign rfl rfl rfl ?_
        refine RL.nil ?_
        refine NX.off ?_
        refine NX.seq ?_
        refine TR.region ?_
        refine RL.bin rfl rfl rfl (BinV.add _ rfl (by omega) (by omega)) rfl ?_
        refine RL.move rfl rfl rfl ?_
        refine RL.nil ?_
        refine NX.roundP ⟨x.k + 1, joinStep x.l es[x.k], y.1, y.2⟩ ⟨hk1, by show joinStep x.l es[x.k] = joinL (es.take (x.k + 1)); rw [List.take_succ_eq_append_getElem hk1, joinL_snoc, hx.2]⟩ (by show _ - (x.k + 1) < _ - x.k; omega) ⟨rfl, ?_, rfl, rfl, rfl, trivial⟩ (fun w hw => ?_)
        · show some (Value.slice y.1 (x.l.length + 1) y.2) = some (Value.slice y.1 (joinStep x.l es[x.k]).length y.2)
          rw [joinStep_new hnj, List.length_append]; rfl
        · have h9 := (hw.to 3 [2] 1 [] rfl)
          show St w (OwnSl 78 3 y.1 (joinStep x.l es[x.k]).length y.2 (edC (joinStep x.l es[x.k])) :: M) F
          rw [joinStep_new hnj, List.length_append, edC_append]
          exact h9
  · skip
    have hk2 : x.k = es.length := by have := of_decide_eq_false h1; have := hx.1; omega
    have hjl : x.l = joinL es := by rw [hx.2, hk2, List.take_length]
    have hjo := joinL_ok (n := tx.length) (es := es) hin
    rw [← hjl] at hjo
    refine TR.weak (fun w hw => hw.keepSl) ?_
    refine TR.exit ?_
    refine NX.exitThen ?_
    refine NX.exitThen ?_
    refine NX.exitHere ?_
    refine NX.seq ?_
    refine TR.seq ?_
    refine TR.region ?_
    refine RL.assign rfl rfl rfl ?_
    refine RL.weak (fun w hw => OwnSl.nil_new 78 3 hw) ?_
    refine RL.nil ?_
    refine NX.seq ?_
    refine TR.seq ?_
    refine TR.seq ?_
    refine TR.region ?_
    refine RL.move rfl rfl rfl ?_
    refine RL.lenSlice rfl qe_tl26 rfl rfl ?_
    refine RL.move rfl rfl rfl ?_
    refine RL.nil ?_
    refine NX.seq ?_
    refine TR.block ?_
    refine TR.loopP (ι := KjX) (fun i => i.k ≤ x.l.length ∧ i.l = (x.l.take i.k).filter (fun e : Ed => !decide (e.x = cutI tx e.f e.t))) (fun i => [(0, S tx), (9, .slice i.oa i.l.length i.c), (56, .slice x.oa x.l.length x.c), (57, I (x.l.length : Nat)), (58, I (i.k : Nat))]) (fun i => OwnSl 78 3 i.oa i.l.length i.c (edC i.l) :: M) (fun i => ArrF x.oa (edC x.l) :: F) (fun i => x.l.length - i.k) ⟨0, [], none, 0⟩ ⟨Nat.zero_le _, rfl⟩ ⟨rfl, rfl, rfl, rfl, rfl, trivial⟩ (fun w hw => (hw.to 1 [0] 1 [0] rfl)) (fun i hi => ?_)
    refine TR.seq ?_
    refine TR.region ?_
    refine RL.bin rfl rfl rfl BinV.lss rfl ?_
    refine RL.nil ?_
    refine NX.seq ?_
    refine TR.seq ?_
    refine TR.cond rfl (fun h9 => ?_) (fun h9 => ?_)
    · skip
      have hi1 : i.k < x.l.length := by have := of_decide_eq_true h9; omega
      have hil : i.l.length ≤ i.k := by rw [hi.2]; exact Nat.le_trans (List.length_filter_le _ _) (by rw [List.length_take]; omega)
      obtain ⟨he1, he2, he3⟩ := hjo.1 _ (List.getElem_mem hi1)
      refine TR.openP (open_arr (oa := x.oa) (xs := edC x.l) (.head _) (fun e => by have h8 := edC_length x.l; rw [e] at h8; simp at h8; omega)) (fun pj hpj => ?_)
      refine TR.skip ?_
      refine NX.seq ?_
      refine TR.seq ?_
      refine TR.block ?_
      refine TR.seq ?_
      refine TR.region ?_
      refine RL.indexAddr rfl qe_tl26 qe_tz78 (congrArg (fun a => some (Value.slice a _ _)) hpj) rfl (by omega) (by omega) rfl ?_
      refine RL.loadF rfl rfl (fun w K hF => run_ed (hF (CellsF pj.1 pj.2 (edC x.l)) (.head _)) qe_ta78 hi1) rfl ?_
      refine RL.allocA rfl (Try.zeroValue78) rfl (fun b10 => ?_)
      refine RL.storeA 0 rfl rfl rfl rfl qe_tz78 rfl rfl ?_
      refine RL.nil ?_
      refine NX.seq ?_
      refine TR.seq ?_
      refine TR.sub (E' := [(0, _), (9, _), (11, _), (56, _), (57, _), (58, _), (59, _), (60, _), (61, _)]) ⟨rfl, rfl, rfl, rfl, rfl, rfl, rfl, rfl, rfl, trivial⟩ ?_
      refine TR.draw mixed ?_
      apply AR.more [(0, _), (1, _), (2, _), (3, _), (4, _), (5, _), (6, _), (7, _), (8, _), (9, _), (10, _), (11, _), (12, _)]
      refine AR.last [0, 1, 2, 3, 4, 5, 6, 7, 8, 9, 10, 11, 12] [0, 1, 2, 3, 4, 5, 6, 7, 8, 9, 10, 11, 12] ⟨QOne.yes rfl rfl rfl (PV.loadA 0 rfl rfl qe_ta78), QOne.yes rfl rfl rfl (PV.fieldAddr qe_tf78_0 rfl), QOne.yes rfl rfl rfl (PV.load1 0 qe_ts3 rfl rfl rfl), QOne.yes rfl rfl rfl (PV.fieldAddr qe_tf78_1 rfl), QOne.yes rfl rfl rfl (PV.load1 0 qe_ts3 rfl rfl rfl), QOne.yes rfl rfl rfl (PV.move rfl), QOne.yes rfl rfl rfl (PV.fieldAddr qe_tf78_0 rfl), QOne.yes rfl rfl rfl (PV.load1 0 qe_ts3 rfl rfl rfl), QOne.yes rfl rfl rfl (PV.fieldAddr qe_tf78_1 rfl), QOne.yes rfl rfl rfl (PV.load1 0 qe_ts3 rfl rfl rfl), QOne.yes rfl rfl rfl (PV.sliceS qe_tstr9 rfl rfl rfl (by omega) (by omega) (by omega)), QOne.yes rfl rfl rfl (PV.build rfl (qe_bv78_0_1_2 _ _ _)), QOne.yes rfl rfl rfl (PV.bin rfl rfl (BinV.neqEd edOk_ edUnd_ edHeld_ edGrd_ _ _ _ _ _ _)), trivial⟩ rfl rfl rfl ?_
      refine NX.sub (E' := [(0, _), (9, _), (11, _), (56, _), (57, _), (58, _), (59, _), (60, _), (61, _), (62, _), (63, _), (64, _), (65, _), (66, _), (67, _), (68, _), (69, _), (70, _), (71, _), (72, _), (73, _), (74, _)]) ⟨rfl, rfl, rfl, rfl, rfl, rfl, rfl, rfl, rfl, rfl, rfl, rfl, rfl, rfl, rfl, rfl, rfl, rfl, rfl, rfl, rfl, rfl, trivial⟩ ?_
      refine NX.seq ?_
      refine TR.cond rfl (fun h11 => ?_) (fun h11 => ?_)
      · skip
        have hne : ¬ x.l[i.k].x = cutI tx x.l[i.k].f x.l[i.k].t := by simpa [cutI] using h11
        refine TR.region ?_
        refine RL.move rfl rfl rfl ?_
        refine RL.loadA 0 rfl rfl rfl qe_ta78 rfl ?_
        refine RL.buildSlice rfl rfl (qe_bs26_1_0 _ _ _) rfl (fun b12 => ?_)
        refine RL.ofGV rfl rfl (GV.append (j := 2) qe_tl26 qe_ni26 qe_te78 rfl rfl rfl (src_box (i := 0) rfl rfl rfl) (by omega) (by omega)) (fun y => ?_)
        refine RL.assign rfl rfl rfl ?_
        refine RL.nil ?_
        refine NX.off ?_
        refine NX.seq ?_
        refine TR.region ?_
        refine RL.bin rfl rfl rfl (BinV.add _ rfl (by omega) (by omega)) rfl ?_
        refine RL.move rfl rfl rfl ?_
        refine RL.nil ?_
        refine NX.roundP ⟨i.k + 1, i.l ++ [x.l[i.k]], y.1, y.2⟩ ⟨hi1, by show i.l ++ [x.l[i.k]] = (x.l.take (i.k + 1)).filter (fun e : Ed => !decide (e.x = cutI tx e.f e.t)); rw [List.take_succ_eq_append_getElem hi1, List.filter_append, ← hi.2]; congr 1; exact (List.filter_cons_of_pos (p := (fun e : Ed => !decide (e.x = cutI tx e.f e.t))) (l := []) (by simpa using hne)).symm⟩ (by show _ - (i.k + 1) < _ - i.k; omega) ⟨rfl, ?_, rfl, rfl, rfl, trivial⟩ (fun w hw => ?_)
        · show some (Value.slice y.1 (i.l.length + 1) y.2) = some (Value.slice y.1 (i.l ++ [_]).length y.2)
          rw [List.length_append]; rfl
        · have h9 := (hw.to 3 [2] 2 [1] rfl)
          show St w (OwnSl 78 3 y.1 (i.l ++ [_]).length y.2 (edC (i.l ++ [_])) :: M) _
          rw [List.length_append, edC_append]
          exact h9
      · skip
        have hne : x.l[i.k].x = cutI tx x.l[i.k].f x.l[i.k].t := by simpa [cutI] using h11
        refine TR.skip ?_
        refine NX.off ?_
        refine NX.seq ?_
        refine TR.region ?_
        refine RL.bin rfl rfl rfl (BinV.add _ rfl (by omega) (by omega)) rfl ?_
        refine RL.move rfl rfl rfl ?_
        refine RL.nil ?_
        refine NX.roundP ⟨i.k + 1, i.l, i.oa, i.c⟩ ⟨hi1, by show i.l = (x.l.take (i.k + 1)).filter (fun e : Ed => !decide (e.x = cutI tx e.f e.t)); rw [List.take_succ_eq_append_getElem hi1, List.filter_append, ← hi.2, List.filter_cons_of_neg (by simpa using hne)]; simp⟩ (by show _ - (i.k + 1) < _ - i.k; omega) ⟨rfl, rfl, rfl, rfl, rfl, trivial⟩ (fun w hw => (hw.to 2 [1] 2 [1] rfl))
    · skip
      have hi2 : i.k = x.l.length := by have := of_decide_eq_false h9; have := hi.1; omega
      refine TR.exit ?_
      refine NX.exitThen ?_
      refine NX.exitThen ?_
      refine NX.exitHere ?_
      refine NX.seq ?_
      refine TR.seq ?_
      refine TR.region ?_
      refine RL.move rfl rfl rfl ?_
      refine RL.assign rfl rfl rfl ?_
      refine RL.nil ?_
      refine NX.seq ?_
      refine TR.ret ?_
      have hlf : i.l = normE tx es := by rw [hi.2, hi2, List.take_length, hjl]; rfl
      refine NX.ret1 (⟨i.oa, i.c⟩ : RdX) rfl rfl (by rw [← hlf]) (fun w hw => ?_)
      rw [← hlf]
      exact ((hw.to 1 [0] 1 [] rfl) : St w _ _).keepSl
theorem normal_specN {tx : List UInt8} {es : List Ed} {n : Nat} {oa : Option Addr} {ca : Nat} {M : List HP} {F : List Fact} (hn : es.length = n) (ha : ArrF oa (edC es) ∈ F) (hin : ∀ e, e ∈ es → EdIn tx.length e) (hl : tx.length ≤ 1099511627776) (htm : txs es ≤ 1099511627776) (hel : es.length ≤ 2199023255552) : Ctr Try.prog 57 [S tx, .slice oa n ca] M F RdX (fun z => .slice z.oa (normE tx es).length z.c) (fun _ => M) (fun z => ArrF z.oa (edC (normE tx es)) :: F) := by
  subst hn; exact normal_spec ha hin hl htm hel
end Go.Proofs.Ytkdeopioelocnaa

namespace Go.Proofs.Ytkdeopioelocnaa
open Go.GL
set_option linter.unusedVariables false
theorem qf_bs26_1_0 (x00 : Int) (x01 : Int) (x02 : List UInt8) : BuildSV Try.prog 26 78 1 [(0, .agg #[.int .i64 x00, .int .i64 x01, S x02])] [.int .i64 x00, .int .i64 x01, S x02] := fun w => by kernel_rfl
theorem qf_bv78_0_1_2 (x0 : Int) (x1 : Int) (x2 : List UInt8) : BuildV Try.prog 78 [(0, .int .i64 x0), (1, .int .i64 x1), (2, S x2)] (.agg #[.int .i64 x0, .int .i64 x1, S x2]) := fun w => by kernel_rfl
theorem qf_ni26 : noInt Try.prog 26 = true := by kernel_rfl
theorem qf_te78 : tyElem Try.prog 78 3 32 = true := by kernel_rfl
theorem qf_tf121_0 : fieldOff Try.prog 121 0 0 = true := by kernel_rfl
theorem qf_tf121_1 : fieldOff Try.prog 121 1 1 = true := by kernel_rfl
theorem qf_tf121_2 : fieldOff Try.prog 121 2 2 = true := by kernel_rfl
theorem qf_tl26 : tySlice Try.prog 26 78 = true := by kernel_rfl
theorem qf_ts26 : tyScalar Try.prog 26 = true := by kernel_rfl
theorem qf_ts3 : tyScalar Try.prog 3 = true := by kernel_rfl
theorem qf_ts9 : tyScalar Try.prog 9 = true := by kernel_rfl
theorem qf_tstr9 : tyStr Try.prog 9 = true := by kernel_rfl
theorem qf_tz121 : tySize Try.prog 121 3 = true := by kernel_rfl
theorem apply_err {s : List UInt8} {es : List Ed} {oa : Option Addr} {ca : Nat} {M : List HP} {F : List Fact} (ha : ArrF oa (edC es) ∈ F) (hl : es.length ≤ 4611686018427387904) (hb : soundE s.length es = 0 → (applyGo s 0 es).length ≤ 140737488355328) :
    Ctr Try.prog 30 [S s, .slice oa es.length ca] M F Unit (fun _ => .tuple #[S (applyE s es).1, I (soundE s.length es)]) (fun _ => M) (fun _ => F) := by
  have h := apply_spec (s := s) (ca := ca) (M := M) ha hl hb
  rw [applyE_err] at h
  exact h
set_option maxHeartbeats 1000000 in
theorem compose_spec {tx : List UInt8} {a b : List Ed} {oa ob : Option Addr} {ca cb : Nat} {M : List HP} {F : List Fact} (ha : ArrF oa (edC a) ∈ F) (hb : ArrF ob (edC b) ∈ F) (hl : tx.length ≤ 1099511627776) (hal : a.length ≤ 1099511627776) (hbl : b.length ≤ 1099511627776) (hq1 : soundE tx.length a = 0 → (applyGo tx 0 a).length ≤ 1099511627776) (hq2 : soundE tx.length a = 0 → soundE (applyGo tx 0 a).length b = 0 → (applyGo (applyGo tx 0 a) 0 b).length ≤ 1099511627776) : Ctr Try.prog 54 [S tx, .slice oa a.length ca, .slice ob b.length cb] M F RdX (fun z => .tuple #[.slice z.oa (composeE tx a b).1.length z.c, I (composeE tx a b).2]) (fun _ => M) (fun z => ArrF z.oa (edC (composeE tx a b).1) :: F) := by
  refine Ctr.bodyM Try.func54 rfl rfl ?_
  refine TR.seq ?_
  refine TR.region ?_
  refine RL.assign rfl rfl rfl ?_
  refine RL.assign rfl rfl rfl ?_
  refine RL.nil ?_
  refine NX.seq ?_
  refine TR.seq ?_
  refine TR.region ?_
  refine RL.move rfl rfl rfl ?_
  refine RL.move rfl rfl rfl ?_
  refine RL.call rfl rfl Try.call30 rfl (apply_err (s := tx) (es := a) ha (by omega) (fun h => Nat.le_trans (hq1 h) (by decide))) (fun _ => ?_)
  refine RL.move rfl rfl rfl ?_
  refine RL.extract rfl rfl rfl rfl ?_
  refine RL.extract rfl rfl rfl rfl ?_
  refine RL.assign rfl rfl rfl ?_
  refine RL.assign rfl rfl rfl ?_
  refine RL.nil ?_
  refine NX.seq ?_
  refine TR.seq ?_
  refine TR.seq ?_
  refine TR.region ?_
  refine RL.move rfl rfl rfl ?_
  refine RL.bin rfl rfl rfl BinV.neq rfl ?_
  refine RL.nil ?_
  refine NX.seq ?_
  refine TR.cond rfl (fun h1 => ?_) (fun h1 => ?_)
  · skip
    have hz1 : ¬ soundE tx.length a = 0 := of_decide_eq_true h1
    refine TR.seq ?_
    refine TR.region ?_
    refine RL.move rfl rfl rfl ?_
    refine RL.assign rfl rfl rfl ?_
    refine RL.assign rfl rfl rfl ?_
    refine RL.nil ?_
    refine NX.seq ?_
    refine TR.ret ?_
    refine NX.retThen ?_
    have hce : composeE tx a b = ([], soundE tx.length a) := if_neg hz1
    refine NX.ret2K (⟨none, 0⟩ : RdX) rfl rfl rfl (by rw [hce]; rfl) (fun w hw => ?_)
    rw [hce]
    exact ((hw.to 0 [] 0 [] rfl) : St w M F).arr0
  · skip
    have hz1 : soundE tx.length a = 0 := by have := of_decide_eq_false h1; omega
    rw [applyE_ok hz1]
    obtain ⟨t, ht⟩ : ∃ t, t = applyGo tx 0 a := ⟨_, rfl⟩
    rw [← ht]
    have hs1 := soundE_sound1 hz1
    have htl := hq1 hz1
    rw [← ht] at htl
    have hta := (apply_sum (s := tx) (q := 0) (Nat.zero_le _) hs1).2
    rw [← ht] at hta
    refine TR.skip ?_
    refine NX.seq ?_
    refine TR.seq ?_
    refine TR.region ?_
    refine RL.move rfl rfl rfl ?_
    refine RL.move rfl rfl rfl ?_
    refine RL.call rfl rfl Try.call30 rfl (apply_err (s := t) (es := b) hb (by omega) (fun h => by have := hq2 hz1 (by rw [← ht]; exact h); rw [← ht] at this; omega)) (fun _ => ?_)
    refine RL.move rfl rfl rfl ?_
    refine RL.extract rfl rfl rfl rfl ?_
    refine RL.extract rfl rfl rfl rfl ?_
    refine RL.alloc1 rfl (Try.zeroValue9) rfl rfl (fun b2 => ?_)
    refine RL.store1 0 rfl qf_ts9 rfl rfl rfl rfl rfl ?_
    refine RL.assign rfl rfl rfl ?_
    refine RL.nil ?_
    refine NX.seq ?_
    refine TR.seq ?_
    refine TR.seq ?_
    refine TR.region ?_
    refine RL.move rfl rfl rfl ?_
    refine RL.bin rfl rfl rfl BinV.neq rfl ?_
    refine RL.nil ?_
    refine NX.seq ?_
    refine TR.cond rfl (fun h3 => ?_) (fun h3 => ?_)
    · skip
      have hz2 : ¬ soundE (applyGo tx 0 a).length b = 0 := by rw [← ht]; exact of_decide_eq_true h3
      subst ht
      refine TR.seq ?_
      refine TR.region ?_
      refine RL.move rfl rfl rfl ?_
      refine RL.assign rfl rfl rfl ?_
      refine RL.assign rfl rfl rfl ?_
      refine RL.nil ?_
      refine NX.seq ?_
      refine TR.ret ?_
      refine NX.retThen ?_
      have hce : composeE tx a b = ([], soundE (applyGo tx 0 a).length b) := (if_pos hz1).trans (if_neg hz2)
      refine NX.ret2K (⟨none, 0⟩ : RdX) rfl rfl rfl (by rw [hce]; rfl) (fun w hw => ?_)
      rw [hce]
      exact ((hw.to 1 [] 0 [] rfl) : St w M F).arr0
    · skip
      have hz2' : soundE t.length b = 0 := by have := of_decide_eq_false h3; omega
      have hz2 : soundE (applyGo tx 0 a).length b = 0 := by rw [← ht]; exact hz2'
      rw [applyE_ok hz2']
      obtain ⟨u, hu⟩ : ∃ u, u = applyGo t 0 b := ⟨_, rfl⟩
      rw [← hu]
      have hs2 := soundE_sound1 hz2'
      have hul := hq2 hz1 hz2
      rw [← ht, ← hu] at hul
      have htb := (apply_sum (s := t) (q := 0) (Nat.zero_le _) hs2).2
      rw [← hu] at htb
      obtain ⟨hB1, hB2, hB3, hB4⟩ := both_ok hs1 ht hs2 hu
      refine TR.skip ?_
      refine NX.seq ?_
      refine TR.seq ?_
      refine TR.region ?_
      refine RL.alloc1 rfl (Try.zeroValue26) rfl rfl (fun b4 => ?_)
      refine RL.weak (fun w hw => St.edbNew (e := 78) hw) ?_
      refine RL.nil ?_
      refine NX.seq ?_
      refine TR.seq ?_
      refine TR.region ?_
      refine RL.alloc1 rfl (Try.zeroValue3) rfl rfl (fun b5 => ?_)
      refine RL.alloc1 rfl (Try.zeroValue3) rfl rfl (fun b6 => ?_)
      refine RL.store1 1 rfl qf_ts3 rfl rfl rfl rfl rfl ?_
      refine RL.store1 0 rfl qf_ts3 rfl rfl rfl rfl rfl ?_
      refine RL.nil ?_
      refine NX.seq ?_
      refine TR.seq ?_
      refine TR.seq ?_
      refine TR.region ?_
      refine RL.move rfl rfl rfl ?_
      refine RL.lenStr rfl qf_tstr9 rfl rfl ?_
      refine RL.move rfl rfl rfl ?_
      refine RL.lenStr rfl qf_tstr9 rfl rfl ?_
      refine RL.move rfl rfl rfl ?_
      refine RL.move rfl rfl rfl ?_
      refine RL.call rfl rfl Try.call80 rfl (both_spec (size := (tx.length : Int)) (mid := (t.length : Int)) (oa := oa) (na := a.length) (ca := ca) (ob := ob) (nb := b.length) (cb := cb)) (fun bz => ?_)
      refine RL.nil ?_
      refine NX.seq ?_
      refine TR.block ?_
      refine TR.rangeFunc (κ := Nat) (xs := (bothL (keptL tx.length 0 0 a) (keptL t.length 0 0 b))) rfl Try.call92 (by simp) partEnc_len (both_iter (n := 0) (k := (u.length : Int)) (.head _) (.tail _ (.tail _ (.head _))) (.tail _ (.head _)) (.tail _ (.tail _ (.tail _ (.head _)))) (.tail _ (.tail _ (.tail _ (.tail _ ha)))) (.tail _ (.tail _ (.tail _ (.tail _ hb)))) (by omega) (by omega) (by omega) (by omega) (by omega) (by omega) (by omega) (by omega) (by omega) hs1 hs2 hB1 hB2) (fun pre => [EdB 26 78 b4 (gapSt u pre).1, Box b5 3 [I (gapSt u pre).2.1], Box b6 3 [I (gapSt u pre).2.2], Box b2 9 [S u]]) M (fun w hw => (hw.to 4 [2, 1, 0, 3] 4 [0, 1, 2, 3] rfl)) (fun pre x args i => [(10, .pointer (some ⟨b2, 0, none⟩)), (11, .pointer (some ⟨b4, 0, none⟩)), (12, .pointer (some ⟨b5, 0, none⟩)), (13, .pointer (some ⟨b6, 0, none⟩)), (14, .pointer (some ⟨i, 0, none⟩))]) (fun pre x args i => [EdB 26 78 b4 (gapSt u pre).1, Box i 121 [I x.o, I x.n, I x.s], Box b5 3 [I (gapSt u pre).2.1], Box b6 3 [I (gapSt u pre).2.2], Box b2 9 [S u]]) ?as0 ?bd0 ?ki0
      case as0 =>
        intro l pre x suf args hx he Mi G hG
        obtain rfl : args = [.agg #[I x.o, I x.n, I x.s]] := he
        obtain ⟨⟨g1, g2, g3, g4, g5, g6, g7⟩, gx1, gx2, ⟨x1, x2, x3, x4, x5⟩⟩ := gap_at (n := (tx.length : Int)) (by omega) hB3 hB4 hx
        refine TR.region ?_
        refine RL.allocA rfl (Try.zeroValue121) rfl (fun b7 => ?_)
        refine RL.storeA 0 rfl rfl rfl rfl qf_tz121 rfl rfl ?_
        refine RL.nil ?_
        exact NX.meet b7 ⟨rfl, rfl, rfl, rfl, rfl, trivial⟩ (fun w hw => hw.swap)
      case bd0 =>
        intro l pre x suf args i hx he Mi G hG
        obtain rfl : args = [.agg #[I x.o, I x.n, I x.s]] := he
        obtain ⟨⟨g1, g2, g3, g4, g5, g6, g7⟩, gx1, gx2, ⟨x1, x2, x3, x4, x5⟩⟩ := gap_at (n := (tx.length : Int)) (by omega) hB3 hB4 hx
        refine TR.open (fun w hw => (St.exOpen (show St w (Ex _ :: _) G from hw))) (fun ie => ?_)
        refine TR.block ?_
        refine TR.seq ?_
        refine TR.sub (E' := [(10, _), (11, _), (12, _), (13, _), (14, _)]) ⟨rfl, rfl, rfl, rfl, rfl, trivial⟩ ?_
        refine TR.draw mixed ?_
        apply AR.more [(0, _), (1, _), (2, _), (3, _), (4, _), (5, _), (6, _), (7, _), (8, _), (9, _)]
        refine AR.eff [0, 1, 2, 3, 4, 5, 6, 7, 8, 9] 10 [0, 1, 2, 3, 4, 5, 6, 7, 8, 9, 10, 11, 12] ⟨QOne.yes rfl rfl rfl (PV.load1 0 qf_ts26 rfl rfl rfl), QOne.yes rfl rfl rfl (PV.load1 3 qf_ts3 rfl rfl rfl), QOne.yes rfl rfl rfl (PV.fieldAddr qf_tf121_0 rfl), QOne.yes rfl rfl rfl (PV.load1 2 qf_ts3 rfl rfl rfl), QOne.yes rfl rfl rfl (PV.load1 5 qf_ts9 rfl rfl rfl), QOne.yes rfl rfl rfl (PV.load1 4 qf_ts3 rfl rfl rfl), QOne.yes rfl rfl rfl (PV.fieldAddr qf_tf121_1 rfl), QOne.yes rfl rfl rfl (PV.load1 2 qf_ts3 rfl rfl rfl), QOne.yes rfl rfl rfl (PV.sliceS qf_tstr9 rfl rfl rfl (by omega) (by omega) (by omega)), QOne.yes rfl rfl rfl (PV.build rfl (qf_bv78_0_1_2 _ _ _)), trivial⟩ rfl rfl rfl rfl rfl rfl rfl (EV.buildSlice rfl (qf_bs26_1_0 _ _ _)) (fun b8 => ?_)
        refine AR.done [9, 1, 3, 8, 4, 5, 7, 2, 6] rfl ?_
        refine AR.eff [0] 11 [0, 1, 2, 3, 4, 5, 6, 7, 8, 9, 10, 11, 12] ⟨QOne.yes rfl rfl rfl (PV.load1 1 qf_ts26 rfl rfl rfl), trivial⟩ rfl rfl rfl rfl rfl rfl rfl (EV.ofGV (GV.append (j := 2) qf_tl26 qf_ni26 qf_te78 rfl rfl rfl (src_box (i := 0) rfl rfl rfl) (by omega) (by omega))) (fun y8 => ?_)
        refine AR.done [0] rfl ?_
        refine AR.eff [] 12 [0, 1, 2, 3, 4, 5, 6, 7, 8, 9, 10, 11, 12] trivial rfl rfl rfl rfl rfl rfl rfl (EV.store1 1 qf_ts26 rfl rfl rfl rfl rfl) (fun _ => ?_)
        refine AR.last [] [0, 1, 2, 3, 4, 5, 6, 7, 8, 9, 10, 11, 12] trivial rfl rfl rfl ?_
        refine NX.sub (E' := [(12, _), (13, _), (14, _)]) ⟨rfl, rfl, rfl, trivial⟩ ?_
        refine NX.seq ?_
        refine TR.sub (E' := [(12, _), (13, _), (14, _)]) ⟨rfl, rfl, rfl, trivial⟩ ?_
        refine TR.draw mixed ?_
        apply AR.more [(0, _), (1, _), (2, _), (3, _), (4, _), (5, _), (6, _), (7, _), (8, _), (9, _)]
        refine AR.eff [0, 1, 2, 3, 4, 5, 6, 7, 8, 9] 10 [0, 1, 2, 3, 4, 5, 6, 7, 8, 9, 10, 11] ⟨QOne.yes rfl rfl rfl (PV.fieldAddr qf_tf121_0 rfl), QOne.yes rfl rfl rfl (PV.load1 3 qf_ts3 rfl rfl rfl), QOne.yes rfl rfl rfl (PV.fieldAddr qf_tf121_2 rfl), QOne.yes rfl rfl rfl (PV.load1 3 qf_ts3 rfl rfl rfl), QOne.yes rfl rfl rfl (PV.bin rfl rfl (BinV.add _ rfl (by omega) (by omega))), QOne.yes rfl rfl rfl (PV.fieldAddr qf_tf121_1 rfl), QOne.yes rfl rfl rfl (PV.load1 3 qf_ts3 rfl rfl rfl), QOne.yes rfl rfl rfl (PV.fieldAddr qf_tf121_2 rfl), QOne.yes rfl rfl rfl (PV.load1 3 qf_ts3 rfl rfl rfl), QOne.yes rfl rfl rfl (PV.bin rfl rfl (BinV.add _ rfl (by omega) (by omega))), trivial⟩ rfl rfl rfl rfl rfl rfl rfl (EV.store1 4 qf_ts3 rfl rfl rfl rfl rfl) (fun _ => ?_)
        refine AR.done [4, 0, 1, 2, 3] rfl ?_
        refine AR.eff [5, 6, 7, 8, 9] 11 [0, 1, 2, 3, 4, 5, 6, 7, 8, 9, 10, 11] ⟨QOne.yes rfl rfl rfl (PV.fieldAddr qf_tf121_1 rfl), QOne.yes rfl rfl rfl (PV.load1 3 qf_ts3 rfl rfl rfl), QOne.yes rfl rfl rfl (PV.fieldAddr qf_tf121_2 rfl), QOne.yes rfl rfl rfl (PV.load1 3 qf_ts3 rfl rfl rfl), QOne.yes rfl rfl rfl (PV.bin rfl rfl (BinV.add _ rfl (by omega) (by omega))), trivial⟩ rfl rfl rfl rfl rfl rfl rfl (EV.store1 5 qf_ts3 rfl rfl rfl rfl rfl) (fun _ => ?_)
        refine AR.done [9, 5, 6, 7, 8] rfl ?_
        refine AR.last [] [0, 1, 2, 3, 4, 5, 6, 7, 8, 9, 10, 11] trivial rfl rfl rfl ?_
        refine NX.sub (E' := []) trivial ?_
        refine NX.off ?_
        exact fun aa w _ hw => by
          have h8 := (hw.drop 0 rfl).drop 2 rfl
          have h9 : St w (EdB 26 78 b4 ((gapSt u pre).1 ++ [(⟨(gapSt u pre).2.1, x.o, cutI u (gapSt u pre).2.2 x.n⟩ : Ed)]) :: Box b5 3 [I (x.o + x.s)] :: Box b6 3 [I (x.n + x.s)] :: Box b2 9 [S u] :: Mi) G := St.exClose (M0 := fun i : Option Addr × Nat => [Box b4 26 [.slice i.1 ((gapSt u pre).1 ++ [(⟨(gapSt u pre).2.1, x.o, cutI u (gapSt u pre).2.2 x.n⟩ : Ed)]).length i.2], OwnSl 78 3 i.1 ((gapSt u pre).1 ++ [(⟨(gapSt u pre).2.1, x.o, cutI u (gapSt u pre).2.2 x.n⟩ : Ed)]).length i.2 (edC ((gapSt u pre).1 ++ [(⟨(gapSt u pre).2.1, x.o, cutI u (gapSt u pre).2.2 x.n⟩ : Ed)]))]) y8 (by rw [List.length_append, edC_append]; exact h8)
          show St w (EdB 26 78 b4 (gapSt u (pre ++ [x])).1 :: Box b5 3 [I (gapSt u (pre ++ [x])).2.1] :: Box b6 3 [I (gapSt u (pre ++ [x])).2.2] :: _) G
          rw [gapSt_snoc]
          exact h9
      case ki0 =>
        intro D
        refine NX.off ?_
        refine NX.seq ?_
        refine TR.seq ?_
        obtain ⟨g1, g2, g3, g4, g5, g6, g7⟩ := (gap_ok (u := u) (n := (tx.length : Int)) (by omega) hB3 hB4).1
        refine TR.pick 2 [1, 0] rfl ?_
        refine TR.open (fun w hw => (St.exOpen (show St w (Ex _ :: _) _ from hw))) (fun oc => ?_)
        have hlen : ((gapSt u (bothL (keptL tx.length 0 0 a) (keptL t.length 0 0 b))).1 ++ [(⟨(gapSt u (bothL (keptL tx.length 0 0 a) (keptL t.length 0 0 b))).2.1, tx.length, u.drop (gapSt u (bothL (keptL tx.length 0 0 a) (keptL t.length 0 0 b))).2.2.toNat⟩ : Ed)]).length = (gapSt u (bothL (keptL tx.length 0 0 a) (keptL t.length 0 0 b))).1.length + 1 := by rw [List.length_append]; rfl
        refine TR.sub (E' := [(0, _), (6, _), (7, _), (10, _), (11, _), (12, _), (13, _)]) ⟨rfl, rfl, rfl, rfl, rfl, rfl, rfl, trivial⟩ ?_
        refine TR.draw mixed ?_
        apply AR.more [(0, _), (1, _), (2, _), (3, _), (4, _), (5, _), (6, _), (7, _), (8, _)]
        refine AR.eff [0, 1, 2, 3, 4, 5, 6, 7, 8] 9 [0, 1, 2, 3, 4, 5, 6, 7, 8, 9, 10, 11, 12] ⟨QOne.yes rfl rfl rfl (PV.move rfl), QOne.yes rfl rfl rfl (PV.load1 0 qf_ts26 rfl rfl rfl), QOne.yes rfl rfl rfl (PV.load1 3 qf_ts3 rfl rfl rfl), QOne.yes rfl rfl rfl (PV.move rfl), QOne.yes rfl rfl rfl (PV.lenStr qf_tstr9 rfl), QOne.yes rfl rfl rfl (PV.load1 5 qf_ts9 rfl rfl rfl), QOne.yes rfl rfl rfl (PV.load1 4 qf_ts3 rfl rfl rfl), QOne.yes rfl rfl rfl (PV.sliceSfrom qf_tstr9 rfl rfl  (by omega) (by omega)), QOne.yes rfl rfl rfl (PV.build rfl (qf_bv78_0_1_2 _ _ _)), trivial⟩ rfl rfl rfl rfl rfl rfl rfl (EV.buildSlice rfl (qf_bs26_1_0 _ _ _)) (fun b10 => ?_)
        refine AR.done [8, 2, 4, 7, 5, 6, 3] rfl ?_
        refine AR.eff [0, 1] 10 [0, 1, 2, 3, 4, 5, 6, 7, 8, 9, 10, 11, 12] ⟨QOne.yes rfl rfl rfl (PV.move rfl), QOne.yes rfl rfl rfl (PV.load1 1 qf_ts26 rfl rfl rfl), trivial⟩ rfl rfl rfl rfl rfl rfl rfl (EV.ofGV (GV.append (j := 2) qf_tl26 qf_ni26 qf_te78 rfl rfl rfl (src_box (i := 0) rfl rfl rfl) (by omega) (by omega))) (fun y9 => ?_)
        refine AR.weak (F' := ArrF y9.1 (edC ((gapSt u (bothL (keptL tx.length 0 0 a) (keptL t.length 0 0 b))).1 ++ [(⟨(gapSt u (bothL (keptL tx.length 0 0 a) (keptL t.length 0 0 b))).2.1, tx.length, u.drop (gapSt u (bothL (keptL tx.length 0 0 a) (keptL t.length 0 0 b))).2.2.toNat⟩ : Ed)])) :: _) (fun w hw => by have h9 := (hw.front (i := 2) rfl).keepSl; rw [edC_append]; exact h9) ?_
        refine AR.done [1] rfl ?_
        refine AR.eff [0] 11 [0, 1, 2, 3, 4, 5, 6, 7, 8, 9, 10, 11, 12] ⟨QOne.yes rfl rfl rfl (PV.move rfl), trivial⟩ rfl rfl rfl rfl rfl rfl rfl (EV.call rfl Try.call57 (normal_specN (tx := tx) (es := ((gapSt u (bothL (keptL tx.length 0 0 a) (keptL t.length 0 0 b))).1 ++ [(⟨(gapSt u (bothL (keptL tx.length 0 0 a) (keptL t.length 0 0 b))).2.1, tx.length, u.drop (gapSt u (bothL (keptL tx.length 0 0 a) (keptL t.length 0 0 b))).2.2.toNat⟩ : Ed)])) (oa := y9.1) (ca := y9.2) hlen (.head _) (mem_snoc_all g3 ⟨g4, g5, Int.le_refl _⟩) (by omega) (by rw [txs_snoc]; show txs _ + (u.drop (gapSt u (bothL (keptL tx.length 0 0 a) (keptL t.length 0 0 b))).2.2.toNat).length ≤ _; rw [List.length_drop]; omega) (by rw [hlen]; omega))) (fun z => ?_)
        refine AR.done [0] rfl ?_
        refine AR.eff [] 12 [0, 1, 2, 3, 4, 5, 6, 7, 8, 9, 10, 11, 12] trivial rfl rfl rfl rfl rfl rfl rfl (EV.store1 1 qf_ts26 rfl rfl rfl rfl rfl) (fun _ => ?_)
        refine AR.last [] [0, 1, 2, 3, 4, 5, 6, 7, 8, 9, 10, 11, 12] trivial rfl rfl rfl ?_
        refine NX.sub (E' := [(6, _), (7, _), (11, _)]) ⟨rfl, rfl, rfl, trivial⟩ ?_
        refine NX.seq ?_
        refine TR.seq ?_
        refine TR.seq ?_
        refine TR.region ?_
        refine RL.load1 1 rfl qf_ts26 rfl rfl rfl rfl ?_
        refine RL.lenSlice rfl qf_tl26 rfl rfl ?_
        refine RL.bin rfl rfl rfl BinV.gtr rfl ?_
        refine RL.nil ?_
        refine NX.seq ?_
        refine TR.cond rfl (fun h12 => ?_) (fun h12 => ?_)
        · skip
          have h64 : 64 < (composeL tx t u a b).length := by have := of_decide_eq_true h12; exact Int.ofNat_lt.1 this
          refine TR.seq ?_
          refine TR.region ?_
          refine RL.assign rfl rfl rfl ?_
          refine RL.assign rfl rfl rfl ?_
          refine RL.nil ?_
          refine NX.seq ?_
          refine TR.ret ?_
          refine NX.retThen ?_
          have hce : composeE tx a b = ([], 4) := (if_pos hz1).trans ((if_pos hz2).trans (if_pos (by rw [← ht, ← hu]; exact h64)))
          refine NX.retM2 2 (⟨none, 0⟩ : RdX) rfl rfl rfl rfl (by rw [hce]; rfl) (fun w hw => ?_)
          rw [hce]
          exact ((hw.to 5 [] 6 [] rfl) : St w M F).arr0
        · skip
          have h64 : ¬ 64 < (composeL tx t u a b).length := by have := of_decide_eq_false h12; exact fun e => this (Int.ofNat_lt.2 e)
          refine TR.skip ?_
          refine NX.seq ?_
          refine TR.seq ?_
          refine TR.region ?_
          refine RL.load1 1 rfl qf_ts26 rfl rfl rfl rfl ?_
          refine RL.assign rfl rfl rfl ?_
          refine RL.assign rfl rfl rfl ?_
          refine RL.nil ?_
          refine NX.seq ?_
          refine TR.ret ?_
          have hce : composeE tx a b = (composeL tx t u a b, 0) := (if_pos hz1).trans ((if_pos hz2).trans ((if_neg (by rw [← ht, ← hu]; exact h64)).trans (by rw [← ht, ← hu])))
          refine NX.retM2 2 z rfl rfl rfl rfl (by rw [hce]; rfl) (fun w hw => ?_)
          rw [hce]
          exact (hw.to 5 [] 6 [0] rfl)
end Go.Proofs.Ytkdeopioelocnaa

namespace Go.GL
open Go.ChangeMaps (setBlock)
open Go.Maps (Keyed)
set_option linter.unusedVariables false
abbrev KV := List (Int × Value)
def tyMap (P : Program) (t k e : TypeId) : Bool := match P.underlying t, P.underlying k with | some (.map k' e'), some (.int .i64) => decide (k' = k ∧ e' = e) | _, _ => false
theorem tyMap_is {P : Program} {t k e : TypeId} (h : tyMap P t k e = true) : P.underlying t = some (.map k e) ∧ P.underlying k = some (.int .i64) := by
  unfold tyMap at h
  split at h
  · rename_i k' e' h1 h2
    have := of_decide_eq_true h
    obtain ⟨rfl, rfl⟩ := this
    exact ⟨h1, h2⟩
  · cases h
theorem tyMap_keyed {P : Program} {t k e : TypeId} (h : tyMap P t k e = true) : Keyed P k := Maps.int_keyed (tyMap_is h).2
def I64 (n : Int) : Prop := -9223372036854775808 ≤ n ∧ n ≤ 9223372036854775807
theorem i64_wf {n : Int} (h : I64 n) : (Lit.int .i64 n).wf = true := by
  simp [Lit.wf, IntKind.min, IntKind.max, IntKind.signed, IntKind.bits]
  exact ⟨h.1, h.2⟩
def kvGet : KV → Int → Option Value
  | [], _ => none
  | p :: l, k => if p.1 = k then some p.2 else kvGet l k
def kvSet : KV → Int → Value → KV
  | [], k, v => [(k, v)]
  | p :: l, k, v => if p.1 = k then (k, v) :: l else p :: kvSet l k v
def kvDel : KV → Int → KV
  | [], _ => []
  | p :: l, k => if p.1 = k then l else p :: kvDel l k
theorem kvGet_none : ∀ {l : KV} {k : Int}, (∀ p, p ∈ l → p.1 ≠ k) → kvGet l k = none
  | [], _, _ => rfl
  | p :: l, k, h => by rw [kvGet, if_neg (h p (.head _))]; exact kvGet_none fun q hq => h q (.tail _ hq)
theorem kvSet_new : ∀ {l : KV} {k : Int} {v : Value}, (∀ p, p ∈ l → p.1 ≠ k) → kvSet l k v = l ++ [(k, v)]
  | [], _, _, _ => rfl
  | p :: l, k, v, h => by rw [kvSet, if_neg (h p (.head _)), kvSet_new fun q hq => h q (.tail _ hq)]; rfl
theorem kvDel_none : ∀ {l : KV} {k : Int}, (∀ p, p ∈ l → p.1 ≠ k) → kvDel l k = l
  | [], _, _ => rfl
  | p :: l, k, h => by rw [kvDel, if_neg (h p (.head _)), kvDel_none fun q hq => h q (.tail _ hq)]
theorem kv_at : ∀ {l : KV} {k : Int} {j : Nat} {v0 : Value}, (l.map Prod.fst).Nodup → l[j]? = some (k, v0) → kvGet l k = some v0 ∧ (∀ v, kvSet l k v = l.set j (k, v)) ∧ kvDel l k = l.eraseIdx j
  | [], _, _, _, _, h => by simp at h
  | p :: l, k, 0, v0, _, h => by
    simp at h; subst h
    exact ⟨by rw [kvGet, if_pos rfl], fun v => by rw [kvSet, if_pos rfl]; rfl, by rw [kvDel, if_pos rfl]; rfl⟩
  | p :: l, k, j + 1, v0, hn, h => by
    have h1 : l[j]? = some (k, v0) := by simpa using h
    rw [List.map_cons, List.nodup_cons] at hn
    have hne : p.1 ≠ k := fun e => hn.1 (e ▸ List.mem_map_of_mem (f := Prod.fst) (List.mem_of_getElem? h1))
    obtain ⟨a, b, c⟩ := kv_at hn.2 h1
    exact ⟨by rw [kvGet, if_neg hne, a], fun v => by rw [kvSet, if_neg hne, b]; rfl, by rw [kvDel, if_neg hne, c]; rfl⟩
structure MpOk (es : Array MapEntry) (clock : Nat) (kvs : KV) : Prop where
  kv : es.toList.map (fun e => (e.key, e.val)) = kvs.map fun p => (Value.int .i64 p.1, p.2)
  keys : (kvs.map Prod.fst).Nodup
  fits : ∀ p, p ∈ kvs → I64 p.1
  born : (es.toList.map (·.born)).Nodup
  past : ∀ e, e ∈ es.toList → e.born < clock
def MpB (b : Nat) (kvs : KV) : HP := Ex (ι := {z : Array MapEntry × Nat // MpOk z.1 z.2 kvs}) fun z => [Pts b (.map z.1.1 z.1.2)]
theorem MpOk.len {es : Array MapEntry} {clock : Nat} {kvs : KV} (h : MpOk es clock kvs) : es.size = kvs.length := by
  have := congrArg List.length h.kv
  simpa using this
theorem MpOk.at {es : Array MapEntry} {clock : Nat} {kvs : KV} (h : MpOk es clock kvs) {j : Nat} {e : MapEntry} (he : es.toList[j]? = some e) : ∃ n, e.key = .int .i64 n ∧ kvs[j]? = some (n, e.val) := by
  have h1 := congrArg (fun l : List (Value × Value) => l[j]?) h.kv
  simp only [List.getElem?_map, he, Option.map_some] at h1
  cases hk : kvs[j]? with
  | none => rw [hk] at h1; cases h1
  | some p =>
    rw [hk] at h1
    simp only [Option.map_some, Option.some.injEq, Prod.mk.injEq] at h1
    exact ⟨p.1, h1.1, by rw [h1.2]⟩
theorem MpOk.back {es : Array MapEntry} {clock : Nat} {kvs : KV} (h : MpOk es clock kvs) {p : Int × Value} (hp : p ∈ kvs) : ∃ e, e ∈ es.toList ∧ e.key = .int .i64 p.1 ∧ e.val = p.2 := by
  have h1 : (Value.int .i64 p.1, p.2) ∈ es.toList.map (fun e => (e.key, e.val)) := by rw [h.kv]; exact List.mem_map_of_mem (f := fun p : Int × Value => (Value.int .i64 p.1, p.2)) hp
  obtain ⟨e, he, h2⟩ := List.mem_map.1 h1
  simp only [Prod.mk.injEq] at h2
  exact ⟨e, he, h2.1, h2.2⟩
theorem MpOk.find {P : Program} {w : World} {t k e : TypeId} {es : Array MapEntry} {clock : Nat} {kvs : KV} (h : MpOk es clock kvs) (ht : tyMap P t k e = true) {n : Int} (hn : I64 n) :
    ((Instr.findKey k (.int .i64 n) es.toList).run P w = .ok none w ∧ ∀ p, p ∈ kvs → p.1 ≠ n) ∨ ∃ j e0, (Instr.findKey k (.int .i64 n) es.toList).run P w = .ok (some (j, e0.val)) w ∧ es.toList[j]? = some e0 ∧ e0.key = .int .i64 n ∧ kvs[j]? = some (n, e0.val) := by
  obtain ⟨hm, hk⟩ := tyMap_is ht
  have hx := Maps.keyOf_int_mk hk (i64_wf hn)
  have hes : ∀ e ∈ es.toList, ∃ l, keyOf P k e.key = some l := by
    intro e0 he
    obtain ⟨j, hj⟩ := List.mem_iff_getElem?.1 he
    obtain ⟨m, h1, h2⟩ := h.at hj
    exact ⟨_, by rw [h1]; exact Maps.keyOf_int_mk hk (i64_wf (h.fits _ (List.mem_of_getElem? h2)))⟩
  rcases (tyMap_keyed ht).find w hx es.toList hes with ⟨h1, h2⟩ | ⟨j, e0, h1, h2, h3⟩
  · refine .inl ⟨h1, fun p hp e => ?_⟩
    obtain ⟨e0, he, h3, _⟩ := h.back hp
    exact h2 e0 he (by rw [h3, e])
  · obtain ⟨m, h4, h5⟩ := h.at h2
    have : m = n := by rw [h3] at h4; cases h4; rfl
    subst this
    exact .inr ⟨j, e0, h1, h2, h3, h5⟩
theorem MpOk.nil : MpOk #[] 0 [] := ⟨rfl, List.nodup_nil, fun p hp => absurd hp (by simp), List.nodup_nil, fun e he => absurd he (by simp)⟩
theorem MpOk.push {es : Array MapEntry} {clock : Nat} {kvs : KV} (h : MpOk es clock kvs) {n : Int} {v : Value} (hn : I64 n) (hnew : ∀ p, p ∈ kvs → p.1 ≠ n) : MpOk (es.push ⟨.int .i64 n, v, clock⟩) (clock + 1) (kvSet kvs n v) := by
  rw [kvSet_new hnew]
  refine ⟨by rw [Array.toList_push, List.map_append, List.map_append, h.kv]; rfl, ?_, ?_, ?_, ?_⟩
  · rw [List.map_append, List.nodup_append]
    refine ⟨h.keys, by simp, fun a ha b hb => ?_⟩
    obtain ⟨p, hp, rfl⟩ := List.mem_map.1 ha
    simp at hb; subst hb
    exact hnew p hp
  · intro p hp
    rcases List.mem_append.1 hp with h1 | h1
    · exact h.fits p h1
    · simp at h1; subst h1; exact hn
  · rw [Array.toList_push, List.map_append, List.nodup_append]
    refine ⟨h.born, by simp, fun a ha b hb => ?_⟩
    obtain ⟨x, hx, rfl⟩ := List.mem_map.1 ha
    simp at hb; subst hb
    have := h.past x hx; omega
  · intro e he
    rw [Array.toList_push] at he
    rcases List.mem_append.1 he with h1 | h1
    · have := h.past e h1; omega
    · simp at h1; subst h1; show clock < clock + 1; omega
theorem map_set_fst {l : KV} {j : Nat} {n : Int} {v0 v : Value} (h : l[j]? = some (n, v0)) : (l.set j (n, v)).map Prod.fst = l.map Prod.fst := by
  rw [List.map_set]
  refine List.ext_getElem? fun i => ?_
  rw [List.getElem?_set]
  split
  · rename_i e; subst e
    split
    · rw [List.getElem?_map, h]; rfl
    · rename_i h2; rw [List.getElem?_eq_none (by omega)]
  · rfl
theorem MpOk.modify {es : Array MapEntry} {clock : Nat} {kvs : KV} (h : MpOk es clock kvs) {j : Nat} {e0 : MapEntry} {n : Int} {v : Value} (hj : es.toList[j]? = some e0) (hk : e0.key = .int .i64 n) (hkv : kvs[j]? = some (n, e0.val)) :
    (es.modify j fun e => { e with key := .int .i64 n, val := v }).toList = es.toList.set j ⟨.int .i64 n, v, e0.born⟩ ∧ MpOk (es.modify j fun e => { e with key := .int .i64 n, val := v }) clock (kvSet kvs n v) := by
  have hl : (es.modify j fun e => { e with key := .int .i64 n, val := v }).toList = es.toList.set j ⟨.int .i64 n, v, e0.born⟩ := by
    rw [Array.toList_modify]
    refine List.ext_getElem? fun i => ?_
    rw [List.getElem?_modify, List.getElem?_set]
    by_cases e : j = i
    · subst e
      rw [hj, if_pos rfl, if_pos (List.getElem?_eq_some_iff.1 hj).1]; simp
    · simp [e]
  have hs := (kv_at h.keys hkv).2.1 v
  refine ⟨hl, ⟨?_, ?_, ?_, ?_, ?_⟩⟩
  · rw [hl, hs, List.map_set, List.map_set, h.kv]
  · rw [hs, map_set_fst hkv]; exact h.keys
  · intro p hp
    rw [hs] at hp
    rcases List.mem_or_eq_of_mem_set hp with h1 | h1
    · exact h.fits p h1
    · subst h1; exact h.fits (n, e0.val) (List.mem_of_getElem? hkv)
  · rw [hl]
    have : (es.toList.set j ⟨.int .i64 n, v, e0.born⟩).map (·.born) = es.toList.map (·.born) := by
      rw [List.map_set]
      refine List.ext_getElem? fun i => ?_
      rw [List.getElem?_set]
      split
      · rename_i e; subst e
        split
        · rw [List.getElem?_map, hj]; rfl
        · rename_i h2; rw [List.getElem?_eq_none (by omega)]
      · rfl
    rw [this]; exact h.born
  · intro e he
    rw [hl] at he
    rcases List.mem_or_eq_of_mem_set he with h1 | h1
    · exact h.past e h1
    · subst h1; exact h.past e0 (List.mem_of_getElem? hj)
theorem MpOk.erase {es : Array MapEntry} {clock : Nat} {kvs : KV} (h : MpOk es clock kvs) {j : Nat} {e0 : MapEntry} {n : Int} (hj : es.toList[j]? = some e0) (hkv : kvs[j]? = some (n, e0.val)) : MpOk (es.eraseIdxIfInBounds j) clock (kvDel kvs n) := by
  have hl : (es.eraseIdxIfInBounds j).toList = es.toList.eraseIdx j := by
    have hlt := (List.getElem?_eq_some_iff.1 hj).1
    simp at hlt
    simp [Array.eraseIdxIfInBounds, hlt]
  have hs := (kv_at h.keys hkv).2.2
  rw [hs]
  refine ⟨?_, ?_, fun p hp => h.fits p (List.mem_of_mem_eraseIdx hp), ?_, ?_⟩
  · rw [hl, ChangeMaps.map_eraseIdx, ChangeMaps.map_eraseIdx, h.kv]
  · rw [ChangeMaps.map_eraseIdx]; exact h.keys.sublist (List.eraseIdx_sublist _ _)
  · rw [hl, ChangeMaps.map_eraseIdx]; exact h.born.sublist (List.eraseIdx_sublist _ _)
  · intro e he; rw [hl] at he; exact h.past e (List.mem_of_mem_eraseIdx he)
end Go.GL

namespace Go.GL
open Go.ChangeMaps (setBlock)
open Go.Maps (Keyed)
set_option linter.unusedVariables false
theorem mp_at {w : World} {M : List HP} {F : List Fact} {b i : Nat} {kvs : KV} (hw : St w M F) (hi : M[i]? = some (MpB b kvs)) : ∃ es clock, MpOk es clock kvs ∧ w.heap[b]? = some (.map es clock) := by
  obtain ⟨z, h⟩ := (hw.front hi).exOpen
  exact ⟨z.1.1, z.1.2, z.2, h.heap (i := 0) rfl⟩
theorem mp_turn {w : World} {M : List HP} {F : List Fact} {b i : Nat} {kvs kvs' : KV} {es' : Array MapEntry} {clock' : Nat} (hw : St w M F) (hi : M[i]? = some (MpB b kvs)) (h : MpOk es' clock' kvs') : St (setBlock w b (.map es' clock')) (M.set i (MpB b kvs')) F := by
  obtain ⟨z, h1⟩ := (hw.front hi).exOpen
  have hb : w.heap[b]? = some (.map z.1.1 z.1.2) := h1.heap (i := 0) rfl
  have hset := MapKept.heap_set (o' := .map es' clock') hb
  have h2 : St (setBlock w b (.map es' clock')) (Pts b (.map es' clock') :: M.eraseIdx i) F := St.putHeap (i := 0) (b := b) (o := .map z.1.1 z.1.2) h1 rfl rfl rfl rfl (by simp [setBlock]) hset.1 hset.2
  exact St.back hi (St.exClose (⟨(es', clock'), h⟩ : {z : Array MapEntry × Nat // MpOk z.1 z.2 kvs'}) h2)
theorem run_mapUpdate_ok {P : Program} {w : World} {t k e : TypeId} {es : Array MapEntry} {clock b : Nat} {kvs : KV} (h : MpOk es clock kvs) (hb : w.heap[b]? = some (.map es clock)) (ht : tyMap P t k e = true) {n : Int} (hn : I64 n) (v : Value) :
    ∃ es' clock', (Instr.mapUpdate t (.map (some b)) (.int .i64 n) v).run P w = .ok () (setBlock w b (.map es' clock')) ∧ MpOk es' clock' (kvSet kvs n v) ∧ ((∃ p, p ∈ kvs ∧ p.1 = n) → ∃ j e0, es.toList[j]? = some e0 ∧ e0.key = .int .i64 n ∧ es'.toList = es.toList.set j ⟨.int .i64 n, v, e0.born⟩ ∧ clock' = clock) := by
  obtain ⟨hm, hk⟩ := tyMap_is ht
  have hx := Maps.keyOf_int_mk hk (i64_wf hn)
  have K := tyMap_keyed ht
  rcases h.find (w := w) ht hn with ⟨h1, h2⟩ | ⟨j, e0, h1, h2, h3, h4⟩
  · refine ⟨es.push ⟨.int .i64 n, v, clock⟩, clock + 1, ?_, h.push hn h2, fun ⟨p, hp, e⟩ => absurd e (h2 p hp)⟩
    simp [Instr.mapUpdate, run_underlying hm, MapKept.run_getObj_map hb, K.check w false hx, h1, MapKept.run_setObj_map _ hb, Result.andThen, setBlock]
  · have hj : es[j]? = some e0 := by simpa using h2
    obtain ⟨hl, hok⟩ := h.modify (v := v) h2 h3 h4
    refine ⟨_, clock, ?_, hok, fun _ => ⟨j, e0, h2, h3, hl, rfl⟩⟩
    simp [Instr.mapUpdate, run_underlying hm, MapKept.run_getObj_map hb, K.check w false hx, h1, hj, h3, K.stays w hx, MapKept.run_setObj_map _ hb, Result.andThen, setBlock]
theorem run_delete_ok {P : Program} {w : World} {t k e : TypeId} {es : Array MapEntry} {clock b : Nat} {kvs : KV} (h : MpOk es clock kvs) (hb : w.heap[b]? = some (.map es clock)) (ht : tyMap P t k e = true) {n : Int} (hn : I64 n) (ts : Array TypeId) (hts : ts[0]? = some t) (ty : TypeId) :
    ∃ es', (Builtin.delete_ ts ty #[.map (some b), .int .i64 n]).run P w = .ok (.tuple #[]) (setBlock w b (.map es' clock)) ∧ MpOk es' clock (kvDel kvs n) := by
  obtain ⟨hm, hk⟩ := tyMap_is ht
  have hx := Maps.keyOf_int_mk hk (i64_wf hn)
  have K := tyMap_keyed ht
  rcases h.find (w := w) ht hn with ⟨h1, h2⟩ | ⟨j, e0, h1, h2, h3, h4⟩
  · refine ⟨es, ?_, by rw [kvDel_none h2]; exact h⟩
    simp [Builtin.delete_, hts, run_underlying hm, MapKept.run_getObj_map hb, K.check w _ hx, h1, MapKept.run_setObj_map _ hb, Result.andThen, setBlock]
  · refine ⟨_, ?_, h.erase h2 h4⟩
    simp [Builtin.delete_, hts, run_underlying hm, MapKept.run_getObj_map hb, K.check w _ hx, h1, MapKept.run_setObj_map _ hb, Result.andThen, setBlock]
theorem run_lookup_ok {P : Program} {w : World} {t k e : TypeId} {es : Array MapEntry} {clock b : Nat} {kvs : KV} (h : MpOk es clock kvs) (hb : w.heap[b]? = some (.map es clock)) (ht : tyMap P t k e = true) {n : Int} (hn : I64 n) {z : Value} (hz : (zeroValue e).run P w = .ok z w) :
    (Instr.lookup t (.map (some b)) (.int .i64 n) false).run P w = .ok ((kvGet kvs n).getD z) w := by
  obtain ⟨hm, hk⟩ := tyMap_is ht
  have hx := Maps.keyOf_int_mk hk (i64_wf hn)
  have K := tyMap_keyed ht
  rcases h.find (w := w) ht hn with ⟨h1, h2⟩ | ⟨j, e0, h1, h2, h3, h4⟩
  · rw [kvGet_none h2]
    simp [Instr.lookup, run_underlying hm, MapKept.run_getObj_map hb, K.check w _ hx, h1, hz, Result.andThen]
  · rw [(kv_at h.keys h4).1]
    simp [Instr.lookup, run_underlying hm, MapKept.run_getObj_map hb, K.check w _ hx, h1, Result.andThen]
structure RgOk (es : Array MapEntry) (clock since : Nat) (seen : Array Nat) (c0 : Nat) (kvs : KV) (left : List Int) (cur : Option Int) : Prop where
  ok : MpOk es clock kvs
  old : ∀ e, e ∈ es.toList → e.born < since
  sc : since ≤ c0
  sk : since ≤ clock
  rest : (leftOf es seen).toList.map (·.key) = left.map (Value.int .i64 ·)
  now : ∀ k, cur = some k → ∃ (e : MapEntry) (seen0 : Array Nat), e ∈ es.toList ∧ e.key = .int .i64 k ∧ seen = seen0.push e.born ∧ c0 = clock
structure RgX where
  es : Array MapEntry
  clock : Nat
  since : Nat
  seen : Array Nat
  c0 : Nat
def RgB (b r : Nat) (kvs : KV) (left : List Int) (cur : Option Int) : HP := Ex (ι := {z : RgX // RgOk z.es z.clock z.since z.seen z.c0 kvs left cur}) fun z => [Pts b (.map z.1.es z.1.clock), Pts r (.mapIter (some b) z.1.since z.1.seen z.1.c0)]
theorem rg_at {w : World} {M : List HP} {F : List Fact} {b r i : Nat} {kvs : KV} {left : List Int} {cur : Option Int} (hw : St w M F) (hi : M[i]? = some (RgB b r kvs left cur)) :
    ∃ z : RgX, RgOk z.es z.clock z.since z.seen z.c0 kvs left cur ∧ w.heap[b]? = some (.map z.es z.clock) ∧ w.heap[r]? = some (.mapIter (some b) z.since z.seen z.c0) ∧ St w (Pts b (.map z.es z.clock) :: Pts r (.mapIter (some b) z.since z.seen z.c0) :: M.eraseIdx i) F := by
  obtain ⟨z, h⟩ := (hw.front hi).exOpen
  exact ⟨z.1, z.2, h.heap (i := 0) rfl, h.heap (i := 1) rfl, h⟩
theorem rg_close {w : World} {M : List HP} {F : List Fact} {b r i : Nat} {p : HP} {kvs : KV} {left : List Int} {cur : Option Int} {z : RgX} (hi : M[i]? = some p) (hz : RgOk z.es z.clock z.since z.seen z.c0 kvs left cur) (h : St w (Pts b (.map z.es z.clock) :: Pts r (.mapIter (some b) z.since z.seen z.c0) :: M.eraseIdx i) F) : St w (M.set i (RgB b r kvs left cur)) F :=
  St.back hi (St.exClose (⟨z, hz⟩ : {z : RgX // RgOk z.es z.clock z.since z.seen z.c0 kvs left cur}) h)
theorem born_key {es : Array MapEntry} {clock : Nat} {kvs : KV} (h : MpOk es clock kvs) {x y : MapEntry} (hx : x ∈ es.toList) (hy : y ∈ es.toList) : x.born = y.born ↔ x.key = y.key := by
  obtain ⟨i, hi⟩ := List.mem_iff_getElem?.1 hx
  obtain ⟨j, hj⟩ := List.mem_iff_getElem?.1 hy
  constructor
  · intro e
    have h1 : (es.toList.map (·.born))[i]? = some x.born := by rw [List.getElem?_map, hi]; rfl
    have h2 : (es.toList.map (·.born))[j]? = some y.born := by rw [List.getElem?_map, hj]; rfl
    have := (List.getElem?_inj (List.getElem?_eq_some_iff.1 h1).1 h.born).1 (h1.trans ((congrArg some e).trans h2.symm))
    subst this
    rw [hi] at hj; cases hj; rfl
  · intro e
    obtain ⟨n, a1, a2⟩ := h.at hi
    obtain ⟨m, b1, b2⟩ := h.at hj
    have : n = m := by rw [a1, b1] at e; cases e; rfl
    subst this
    have h1 : (kvs.map Prod.fst)[i]? = some n := by rw [List.getElem?_map, a2]; rfl
    have h2 : (kvs.map Prod.fst)[j]? = some n := by rw [List.getElem?_map, b2]; rfl
    have := (List.getElem?_inj (List.getElem?_eq_some_iff.1 h1).1 h.keys).1 (h1.trans h2.symm)
    subst this
    rw [hi] at hj; cases hj; rfl
theorem mem_leftOf {es : Array MapEntry} {seen : Array Nat} {e : MapEntry} : e ∈ (leftOf es seen).toList ↔ e ∈ es.toList ∧ seen.contains e.born = false := by
  unfold leftOf
  rw [Array.toList_filter, List.mem_filter]
  simp
def keyIs (n : Int) : Value → Bool
  | .int .i64 m => decide (m = n)
  | _ => false
theorem keyIs_iff {n : Int} {v : Value} : keyIs n v = true ↔ v = .int .i64 n := by
  unfold keyIs
  split
  · simp
  · rename_i h
    simp only [Bool.false_eq_true, false_iff]
    exact fun e => h n e
theorem left_push {es : Array MapEntry} {clock : Nat} {kvs : KV} (h : MpOk es clock kvs) {seen : Array Nat} {e : MapEntry} {left : List Int} {n : Int} (he : e ∈ (leftOf es seen).toList) (hn : e.key = .int .i64 n) (hl : (leftOf es seen).toList.map (·.key) = left.map (Value.int .i64 ·)) :
    (leftOf es (seen.push e.born)).toList.map (·.key) = (left.filter fun x => !decide (x = n)).map (Value.int .i64 ·) := by
  have e1 : (leftOf es (seen.push e.born)).toList = (leftOf es seen).toList.filter fun x => !keyIs n x.key := by
    unfold leftOf
    rw [Array.toList_filter, Array.toList_filter, List.filter_filter]
    refine List.filter_congr fun x hx => ?_
    have hk := born_key h hx (mem_leftOf.1 he).1
    rw [hn, ← keyIs_iff] at hk
    have hc : (seen.push e.born).contains x.born = (seen.contains x.born || (x.born == e.born)) := by
      rw [Bool.eq_iff_iff]
      simp [Array.mem_push]
    rw [hc]
    have hb : (x.born == e.born) = keyIs n x.key := by
      rw [Bool.eq_iff_iff, ← hk]; simp
    rw [hb]
    cases seen.contains x.born <;> cases keyIs n x.key <;> rfl
  rw [e1]
  have e2 : ((leftOf es seen).toList.filter fun x => !keyIs n x.key).map (·.key) = ((leftOf es seen).toList.map (·.key)).filter fun v => !keyIs n v := by
    rw [List.filter_map]; rfl
  rw [e2, hl, List.filter_map]
  rfl
end Go.GL

namespace Go.GL
open Go.ChangeMaps (setBlock)
set_option linter.unusedVariables false
theorem rg_next {P : Program} {w : World} {M : List HP} {F : List Fact} {b r i : Nat} {kvs : KV} {left : List Int} {cur : Option Int} (ty : TypeId) (hw : St w M F) (hi : M[i]? = some (RgB b r kvs left cur)) :
    ∃ (o : {o : Option (Int × Value) // match o with | none => left = [] | some p => p.1 ∈ left ∧ p ∈ kvs}) (w' : World), (Instr.next (.pointer (some ⟨r, 0, none⟩)) false ty).run P w = .ok (match o.1 with | none => .tuple #[.bool false] | some p => .tuple #[.bool true, .int .i64 p.1, p.2]) w' ∧
      St w' (M.set i (match o.1 with | none => MpB b kvs | some p => RgB b r kvs (left.filter fun x => !decide (x = p.1)) (some p.1))) F := by
  obtain ⟨z, hz, hb, hr, hst⟩ := rg_at hw hi
  rcases run_next_at (P := P) w ty r b z.since z.c0 z.seen z.es z.clock hr hb hz.old hz.sc with ⟨h0, hrun⟩ | ⟨e, he, w1, hal, hrun⟩
  · have hl : left = [] := by
      have h1 := congrArg List.length hz.rest
      rw [List.length_map, List.length_map, Array.length_toList, h0] at h1
      exact List.eq_nil_of_length_eq_zero h1.symm
    refine ⟨⟨none, hl⟩, w, hrun, ?_⟩
    exact St.back hi (St.exClose (⟨(z.es, z.clock), hz.ok⟩ : {z : Array MapEntry × Nat // MpOk z.1 z.2 kvs}) (hst.drop 1 rfl))
  · have hem := (mem_leftOf.1 he).1
    obtain ⟨j, hj⟩ := List.mem_iff_getElem?.1 hem
    obtain ⟨n, hk, hkv⟩ := hz.ok.at hj
    have hnl : n ∈ left := by
      have h1 : e.key ∈ (leftOf z.es z.seen).toList.map (·.key) := List.mem_map_of_mem (f := fun x : MapEntry => x.key) he
      rw [hz.rest, hk] at h1
      obtain ⟨m, hm, e1⟩ := List.mem_map.1 h1
      simp only [Value.int.injEq, true_and] at e1
      exact e1 ▸ hm
    refine ⟨⟨some (n, e.val), hnl, List.mem_of_getElem? hkv⟩, _, by rw [hk] at hrun; exact hrun, ?_⟩
    have hst1 : St w1 (Pts b (.map z.es z.clock) :: Pts r (.mapIter (some b) z.since z.seen z.c0) :: M.eraseIdx i) F := by
      rcases hal with rfl | rfl
      · exact hst
      · exact hst.drew
    have hr1 : w1.heap[r]? = some (.mapIter (some b) z.since z.seen z.c0) := hst1.heap (i := 1) rfl
    have hset := MapKept.heap_set (o' := .mapIter (some b) z.since (z.seen.push e.born) z.clock) hr1
    have h2 : St (setBlock w1 r (.mapIter (some b) z.since (z.seen.push e.born) z.clock)) (Pts b (.map z.es z.clock) :: Pts r (.mapIter (some b) z.since (z.seen.push e.born) z.clock) :: M.eraseIdx i) F :=
      St.putHeap (i := 1) (b := r) (o := .mapIter (some b) z.since z.seen z.c0) hst1 rfl rfl rfl rfl (by simp [setBlock]) hset.1 hset.2
    exact rg_close (z := ⟨z.es, z.clock, z.since, z.seen.push e.born, z.clock⟩) hi ⟨hz.ok, hz.old, hz.sk, hz.sk, left_push hz.ok he hk hz.rest, fun k hk2 => by cases hk2; exact ⟨e, z.seen, hem, hk, rfl, rfl⟩⟩ h2
theorem rg_entry {P : Program} {w : World} {M : List HP} {F : List Fact} {b r i : Nat} {kvs : KV} {left : List Int} {n : Int} {v : Value} (hw : St w M F) (hi : M[i]? = some (RgB b r kvs left (some n))) (hv : (n, v) ∈ kvs) :
    (Instr.entry (.pointer (some ⟨r, 0, none⟩))).run P w = .ok (.tuple #[.int .i64 n, v]) w := by
  obtain ⟨z, hz, hb, hr, _⟩ := rg_at hw hi
  obtain ⟨e, seen0, he, hk, hs, hc⟩ := hz.now n rfl
  rw [hs, hc] at hr
  have h1 := run_entry_at (P := P) w r b z.since seen0 z.es z.clock e hr hb he hz.ok.born
  have hval : e.val = v := by
    obtain ⟨j, hj⟩ := List.mem_iff_getElem?.1 he
    obtain ⟨m, a1, a2⟩ := hz.ok.at hj
    have : m = n := by rw [hk] at a1; cases a1; rfl
    subst this
    obtain ⟨j2, hj2⟩ := List.mem_iff_getElem?.1 hv
    have e1 := (kv_at hz.ok.keys a2).1
    have e2 := (kv_at hz.ok.keys hj2).1
    rw [e1] at e2
    exact Option.some.inj e2
  rw [hk, hval] at h1
  exact h1
section
variable {P : Program} {r : Option Nat} {N : Nat} {ops : Array Oper} {rest : List Oper} {Q : Exit → Act → World → Prop} {E : Env} {ds : List Deferred} {M : List HP} {F : List Fact}
variable {d : Nat} {ty : TypeId} {pos : String} {aft : Array Edge} {gd : Option (Nat × Bool)}
theorem GV.makeMap {t : TypeId} : GV P E M F ⟨some d, .makeMap t none, ty, pos, aft, gd⟩ Nat (fun b => .map (some b)) (fun b => MpB b [] :: M) (fun _ => F) := ⟨rfl, fun ρ hρ w hw => by
  have hrun : (Instr.makeMap t none).run P w = .ok (.map (some w.heap.size)) (w.alloc (.map #[] 0)) := rfl
  refine ⟨w.heap.size, w.alloc (.map #[] 0), by simp [execOp, hrun], ?_⟩
  exact St.exClose (⟨(#[], 0), MpOk.nil⟩ : {z : Array MapEntry × Nat // MpOk z.1 z.2 []}) (hw.alloc (.map #[] 0))⟩
theorem PV.lookup {t k e : TypeId} {x y : Operand} {b : Nat} {n : Int} {z : Value} {kvs : KV} (i : Nat) (ht : tyMap P t k e = true) (hx : evalO E x = some (.map (some b))) (hy : evalO E y = some (I n)) (hn : I64 n) (hi : M[i]? = some (MpB b kvs)) (hz : ∀ w, (zeroValue e).run P w = .ok z w) :
    PV P E M F ⟨some d, .lookup t x y false, ty, pos, aft, gd⟩ ((kvGet kvs n).getD z) := ⟨rfl, fun ρ hρ w hw => by
  obtain ⟨es, clock, h, hb⟩ := mp_at hw hi
  have h1 := run_lookup_ok h hb ht hn (hz w)
  simp [execOp, hρ _ _ hx, hρ _ _ hy, h1]⟩
theorem RL.lookup {t k e : TypeId} {x y : Operand} {b : Nat} {n : Int} {z : Value} {kvs : KV} (i : Nat) (hg : wantedG ops E gd = some true) (ht : tyMap P t k e = true) (hx : evalO E x = some (.map (some b))) (hy : evalO E y = some (I n)) (hn : I64 n) (hi : M[i]? = some (MpB b kvs)) (hz : ∀ w, (zeroValue e).run P w = .ok z w) (hN : Nat.ble (d + 1) N = true)
    (k : RL P r N ops rest Q ((d, (kvGet kvs n).getD z) :: E) ds M F) : RL P r N ops (⟨some d, .lookup t x y false, ty, pos, aft, gd⟩ :: rest) Q E ds M F :=
  RL.val rfl hg hN (PV.lookup i ht hx hy hn hi hz).2 k
theorem EV.mapUpdate {t k e : TypeId} {x y u : Operand} {b : Nat} {n : Int} {v : Value} {kvs : KV} (i : Nat) (ht : tyMap P t k e = true) (hx : evalO E x = some (.map (some b))) (hy : evalO E y = some (I n)) (hu : evalO E u = some v) (hn : I64 n) (hi : M[i]? = some (MpB b kvs)) :
    EV P r Q E M F ⟨none, .mapUpdate t x y u, ty, pos, aft, gd⟩ Unit (fun _ => undef) (fun _ => M.set i (MpB b (kvSet kvs n v))) (fun _ => F) :=
  EV.of_eff rfl fun ρ hρ w hw => by
    obtain ⟨es, clock, h, hb⟩ := mp_at hw hi
    obtain ⟨es', clock', hrun, hok, _⟩ := run_mapUpdate_ok h hb ht hn v
    exact ⟨_, by simp [execOp, hρ _ _ hx, hρ _ _ hy, hρ _ _ hu, hrun], mp_turn hw hi hok⟩
theorem EV.delete {t k e : TypeId} {aty : Array TypeId} {x y : Operand} {b : Nat} {n : Int} {kvs : KV} (i : Nat) (ht : tyMap P t k e = true) (hx : evalO E x = some (.map (some b))) (hy : evalO E y = some (I n)) (hn : I64 n) (hi : M[i]? = some (MpB b kvs)) (hT : aty[0]? = some t := by rfl) :
    EV P r Q E M F ⟨none, .call ⟨.builtin .delete, #[x, y], aty⟩, ty, pos, aft, gd⟩ Unit (fun _ => .tuple #[]) (fun _ => M.set i (MpB b (kvDel kvs n))) (fun _ => F) :=
  EV.of_gen rfl fun ρ hρ w hw => by
    obtain ⟨es, clock, h, hb⟩ := mp_at hw hi
    obtain ⟨es', hrun, hok⟩ := run_delete_ok h hb ht hn aty hT ty
    exact ⟨(), _, by simp [execOp, resolve, hρ _ _ hx, hρ _ _ hy, invoke, builtin, hrun], mp_turn hw hi hok⟩
theorem GV.range {t k e : TypeId} {x : Operand} {b : Nat} {kvs : KV} (i : Nat) (ht : tyMap P t k e = true) (hx : evalO E x = some (.map (some b))) (hi : M[i]? = some (MpB b kvs)) :
    GV P E M F ⟨some d, .range t x, ty, pos, aft, gd⟩ Nat (fun q => .pointer (some ⟨q, 0, none⟩)) (fun q => M.set i (RgB b q kvs (kvs.map Prod.fst) none)) (fun _ => F) := ⟨rfl, fun ρ hρ w hw => by
  obtain ⟨z, h1⟩ := (hw.front hi).exOpen
  have hb : w.heap[b]? = some (.map z.1.1 z.1.2) := h1.heap (i := 0) rfl
  have hrun := run_range_map (P := P) w t k e b z.1.1 z.1.2 (tyMap_is ht).1 hb
  refine ⟨w.heap.size, w.alloc (.mapIter (some b) z.1.2 #[] z.1.2), by simp [execOp, hρ _ _ hx, hrun], ?_⟩
  have h2 := h1.alloc (.mapIter (some b) z.1.2 #[] z.1.2)
  have h3 : St _ (Pts b (.map z.1.1 z.1.2) :: Pts w.heap.size (.mapIter (some b) z.1.2 #[] z.1.2) :: M.eraseIdx i) F := h2.perm (.swap _ _ _)
  refine rg_close (z := ⟨z.1.1, z.1.2, z.1.2, #[], z.1.2⟩) hi ⟨z.2, z.2.past, Nat.le_refl _, Nat.le_refl _, ?_, fun k hk => by cases hk⟩ h3
  have e1 : (leftOf z.1.1 #[]).toList = z.1.1.toList := by unfold leftOf; simp
  have e2 := congrArg (List.map Prod.fst) z.2.kv
  rw [List.map_map, List.map_map] at e2
  rw [e1, List.map_map]
  exact e2⟩
theorem GV.next {x : Operand} {b q : Nat} {kvs : KV} {left : List Int} {cur : Option Int} (i : Nat) (hx : evalO E x = some (.pointer (some ⟨q, 0, none⟩))) (hi : M[i]? = some (RgB b q kvs left cur)) :
    GV P E M F ⟨some d, .next x false, ty, pos, aft, gd⟩ {o : Option (Int × Value) // match o with | none => left = [] | some p => p.1 ∈ left ∧ p ∈ kvs} (fun o => match o.1 with | none => .tuple #[.bool false] | some p => .tuple #[.bool true, .int .i64 p.1, p.2])
      (fun o => M.set i (match o.1 with | none => MpB b kvs | some p => RgB b q kvs (left.filter fun x => !decide (x = p.1)) (some p.1))) (fun _ => F) := ⟨rfl, fun ρ hρ w hw => by
  obtain ⟨o, w', hrun, hst⟩ := rg_next (P := P) ty hw hi
  exact ⟨o, w', by simp [execOp, hρ _ _ hx, hrun], hst⟩⟩
theorem RL.entry {x : Operand} {b q : Nat} {kvs : KV} {left : List Int} {n : Int} {v : Value} (i : Nat) (hg : wantedG ops E gd = some true) (hx : evalO E x = some (.pointer (some ⟨q, 0, none⟩))) (hi : M[i]? = some (RgB b q kvs left (some n))) (hv : (n, v) ∈ kvs) (hN : Nat.ble (d + 1) N = true)
    (k : RL P r N ops rest Q ((d, .tuple #[I n, v]) :: E) ds M F) : RL P r N ops (⟨some d, .entry x, ty, pos, aft, gd⟩ :: rest) Q E ds M F :=
  RL.val rfl hg hN (fun ρ hρ w hw => by
    have h1 := rg_entry (P := P) hw hi hv
    simp [execOp, hρ _ _ hx, h1]) k
end
end Go.GL

namespace Go.GL
set_option linter.unusedVariables false
def cb (l : List UInt8) (i : Nat) : Nat := (l.getD i 0).toNat
def btw (l : List UInt8) (i lo hi : Nat) : Prop := i < l.length ∧ lo ≤ cb l i ∧ cb l i ≤ hi
instance (l : List UInt8) (i lo hi : Nat) : Decidable (btw l i lo hi) := by unfold btw; exact inferInstance
def secB (c : Nat) : Nat × Nat := if c = 224 then (160, 191) else if c = 237 then (128, 159) else if c = 240 then (144, 191) else if c = 244 then (128, 143) else (128, 191)
def charL (l : List UInt8) : Nat × Nat :=
  if 194 ≤ cb l 0 ∧ cb l 0 ≤ 223 ∧ btw l 1 128 191 then (2, 1)
  else if 224 ≤ cb l 0 ∧ cb l 0 ≤ 239 ∧ btw l 1 (secB (cb l 0)).1 (secB (cb l 0)).2 ∧ btw l 2 128 191 then (3, 1)
  else if 240 ≤ cb l 0 ∧ cb l 0 ≤ 244 ∧ btw l 1 (secB (cb l 0)).1 (secB (cb l 0)).2 ∧ btw l 2 128 191 ∧ btw l 3 128 191 then (4, 2)
  else (1, 1)
theorem charL_pos (l : List UInt8) : 1 ≤ (charL l).1 ∧ 1 ≤ (charL l).2 ∧ (charL l).2 ≤ (charL l).1 := by
  unfold charL; repeat' split
  all_goals simp
theorem charL_le {l : List UInt8} (h : 0 < l.length) : (charL l).1 ≤ l.length := by
  unfold charL; repeat' split
  · rename_i h1; have := h1.2.2.1; show 2 ≤ _; omega
  · rename_i h1; have := h1.2.2.2.1; show 3 ≤ _; omega
  · rename_i h1; have := h1.2.2.2.2.1; show 4 ≤ _; omega
  · show 1 ≤ _; omega
theorem cb_lt (l : List UInt8) (i : Nat) : cb l i < 256 := (l.getD i 0).toNat_lt
theorem get_cb (l : List UInt8) (pos k : Nat) : ((⟨l.toArray⟩ : ByteArray).get! (pos + k)).toNat = cb (l.drop pos) k := by
  unfold cb
  congr 1
  rw [List.getD_eq_getElem?_getD, List.getElem?_drop]
  show (l.toArray[pos + k]!) = _
  by_cases h : pos + k < l.length
  · rw [getElem!_pos _ _ (by simpa using h), List.getElem?_eq_getElem h]; simp
  · rw [getElem!_neg _ _ (by simpa using h), List.getElem?_eq_none (by omega)]; rfl
set_option maxRecDepth 20000 in
set_option maxHeartbeats 4000000 in
theorem dec_char (l : List UInt8) (pos : Nat) : (Utf8.decode ⟨l.toArray⟩ pos).2 = (charL (l.drop pos)).1 ∧ (if 65536 ≤ (Utf8.decode ⟨l.toArray⟩ pos).1 then 2 else 1) = (charL (l.drop pos)).2 ∧ ((Utf8.decode ⟨l.toArray⟩ pos).1 = 10 ↔ cb (l.drop pos) 0 = 10) ∧ (Utf8.decode ⟨l.toArray⟩ pos).1 ≤ 2147483647 := by
  refine ⟨?_, ?_, ?_, decode_le _ _⟩
  all_goals
    have e0 := get_cb l pos 0; have e1 := get_cb l pos 1; have e2 := get_cb l pos 2; have e3 := get_cb l pos 3
    have hs : (⟨l.toArray⟩ : ByteArray).size = l.length := by simp [ByteArray.size]
    have hd : (l.drop pos).length = l.length - pos := List.length_drop
    have b0 := cb_lt (l.drop pos) 0; have b1 := cb_lt (l.drop pos) 1; have b2 := cb_lt (l.drop pos) 2; have b3 := cb_lt (l.drop pos) 3
    unfold Utf8.decode
    try unfold charL btw
    dsimp only
    simp only [e0, e1, e2, e3, hs, hd]
    generalize cb (l.drop pos) 0 = c0 at *
    generalize cb (l.drop pos) 1 = c1 at *
    generalize cb (l.drop pos) 2 = c2 at *
    generalize cb (l.drop pos) 3 = c3 at *
    clear e0 e1 e2 e3 hs hd
    try unfold secB
    unfold Utf8.valid Utf8.runeError
    simp only [Bool.and_eq_true, decide_eq_true_eq, beq_iff_eq, Bool.or_eq_true]
    repeat' split
    all_goals omega
section
variable {P : Program} {r : Option Nat} {N : Nat} {ops : Array Oper} {rest : List Oper} {Q : Exit → Act → World → Prop} {E : Env} {ds : List Deferred} {M : List HP} {F : List Fact}
variable {d : Nat} {ty : TypeId} {pos : String} {aft : Array Edge} {gd : Option (Nat × Bool)}
theorem GV.rangeS {t : TypeId} {x : Operand} {l : List UInt8} (ht : tyStr P t = true) (hx : evalO E x = some (S l)) :
    GV P E M F ⟨some d, .range t x, ty, pos, aft, gd⟩ Nat (fun q => .pointer (some ⟨q, 0, none⟩)) (fun q => Pts q (.stringIter ⟨l.toArray⟩ 0) :: M) (fun _ => F) := ⟨rfl, fun ρ hρ w hw => by
  refine ⟨w.heap.size, w.iter ⟨l.toArray⟩ 0, ?_, hw.alloc _⟩
  have := run_range_string (P := P) w t ⟨l.toArray⟩ (tyStr_underlying ht)
  simp [execOp, hρ _ _ hx, this]⟩
theorem GV.nextOn {x : Operand} {q p : Nat} {l : List UInt8} (i : Nat) (hx : evalO E x = some (.pointer (some ⟨q, 0, none⟩))) (hi : M[i]? = some (Pts q (.stringIter ⟨l.toArray⟩ p))) (hp : p < l.length) :
    GV P E M F ⟨some d, .next x true, ty, pos, aft, gd⟩ Unit (fun _ => .tuple #[.bool true, I (p : Nat), .int .i32 ((Utf8.decode ⟨l.toArray⟩ p).1 : Nat)]) (fun _ => M.set i (Pts q (.stringIter ⟨l.toArray⟩ (p + (charL (l.drop p)).1)))) (fun _ => F) := ⟨rfl, fun ρ hρ w hw => by
  have hb := hw.heap hi
  have hs : (⟨l.toArray⟩ : ByteArray).size = l.length := by simp [ByteArray.size]
  have e := (dec_char l p).1
  refine ⟨(), w.putObj q (.stringIter ⟨l.toArray⟩ (p + (charL (l.drop p)).1)), ?_, hw.putObj hi⟩
  have hrun : (Instr.next (.pointer (some ⟨q, 0, none⟩)) true ty).run P w = .ok (.tuple #[.bool true, I (p : Nat), .int .i32 ((Utf8.decode ⟨l.toArray⟩ p).1 : Nat)]) (w.putObj q (.stringIter ⟨l.toArray⟩ (p + (charL (l.drop p)).1))) := by
    have hlt : q < w.heap.size := (Array.getElem?_eq_some_iff.1 hb).1
    simp only [Instr.next, getObj, setObj, Sem.run_bind, Sem.run, hb, Result.andThen, hs, hp, if_true, e]
    simp [goInt, World.putObj]
    try rfl
  simp [execOp, hρ _ _ hx, hrun]⟩
theorem GV.nextEnd {x : Operand} {q p : Nat} {l : List UInt8} (i : Nat) (hx : evalO E x = some (.pointer (some ⟨q, 0, none⟩))) (hi : M[i]? = some (Pts q (.stringIter ⟨l.toArray⟩ p))) (hp : ¬ p < l.length) :
    GV P E M F ⟨some d, .next x true, ty, pos, aft, gd⟩ Unit (fun _ => .tuple #[.bool false]) (fun _ => M) (fun _ => F) := ⟨rfl, fun ρ hρ w hw => by
  have hb := hw.heap hi
  have hs : (⟨l.toArray⟩ : ByteArray).size = l.length := by simp [ByteArray.size]
  refine ⟨(), w, ?_, hw⟩
  have hrun : (Instr.next (.pointer (some ⟨q, 0, none⟩)) true ty).run P w = .ok (.tuple #[.bool false]) w := by
    simp [Instr.next, getObj, Sem.run, hb, hs, hp]
  simp [execOp, hρ _ _ hx, hrun]⟩
end
end Go.GL

namespace Go.GL
set_option linter.unusedVariables false
structure Po where
  l : Int
  u : Int
structure PE where
  s : Po
  e : Po
  x : List UInt8
abbrev Po.c (p : Po) : List Value := [I p.l, I p.u]
abbrev PE.c (p : PE) : List Value := [I p.s.l, I p.s.u, I p.e.l, I p.e.u, S p.x]
def peC : List PE → List Value
  | [] => []
  | e :: es => e.c ++ peC es
theorem peC_length : ∀ es : List PE, (peC es).length = es.length * 5
  | [] => rfl
  | e :: es => by rw [peC, List.length_append, peC_length es]; simp; omega
theorem peC_at : ∀ {es : List PE} {k j : Nat} {v : Value} (h : k < es.length), (es[k].c)[j]? = some v → (peC es)[k * 5 + j]? = some v
  | e :: es, 0, j, v, h, hv => by
    rw [peC, Nat.zero_mul, Nat.zero_add, List.getElem?_append_left (by have := (List.getElem?_eq_some_iff.1 hv).1; simpa using this)]
    exact hv
  | e :: es, k + 1, j, v, h, hv => by
    rw [peC, List.getElem?_append_right (by simp; omega)]
    have := peC_at (es := es) (k := k) (j := j) (v := v) (by simpa using h) hv
    rw [← this]
    congr 1
    simp; omega
theorem peC_one : ∀ es : List PE, (peC es).all Value.oneCell' = true
  | [] => rfl
  | e :: es => by rw [peC, List.all_append, peC_one es]; rfl
theorem peC_append : ∀ a b : List PE, peC (a ++ b) = peC a ++ peC b
  | [], b => rfl
  | e :: es, b => by rw [List.cons_append, peC, peC, peC_append es b, List.append_assoc]
theorem run_pe {P : Program} {w : World} {K : List Nat} {b off T k : Nat} {es : List PE} (h : CellsAt w K b off (peC es)) (ht : tyAgg P T 5 = true) (hk : k < es.length) : Reads P w T ⟨b, off + (k : Int).toNat * 5, none⟩ (.agg (es[k].c).toArray) := by
  refine run_loadVar_agg ht rfl fun j v hv => ?_
  rw [addr_add, Nat.add_assoc]
  exact h.2.2 _ v (peC_at hk hv)
def linesGo : Nat → List UInt8 → List Int
  | _, [] => []
  | i, c :: cs => if c.toNat = 10 then ((i + 1 : Nat) : Int) :: linesGo (i + 1) cs else linesGo (i + 1) cs
def linesL (s : List UInt8) : List Int := 0 :: linesGo 0 s
theorem linesGo_append : ∀ (a b : List UInt8) (i : Nat), linesGo i (a ++ b) = linesGo i a ++ linesGo (i + a.length) b
  | [], b, i => by simp [linesGo]
  | c :: a, b, i => by
    rw [List.cons_append, linesGo, linesGo, linesGo_append a b (i + 1), List.length_cons, show i + 1 + a.length = i + (a.length + 1) from by omega]
    split <;> rfl
theorem lines_step {s : List UInt8} {k : Nat} (h : k < s.length) : linesL (s.take (k + 1)) = linesL (s.take k) ++ (if s[k].toNat = 10 then [((k + 1 : Nat) : Int)] else []) := by
  unfold linesL
  rw [List.take_succ_eq_append_getElem h, linesGo_append, List.length_take, Nat.zero_add, Nat.min_eq_left (by omega), List.cons_append]
  congr 2
theorem linesGo_in : ∀ {s : List UInt8} {i : Nat} {x : Int}, x ∈ linesGo i s → (i : Int) < x ∧ x ≤ (i + s.length : Nat)
  | [], i, x, h => by rw [linesGo] at h; cases h
  | c :: s, i, x, h => by
    rw [linesGo] at h
    have h2 : x = ((i + 1 : Nat) : Int) ∨ x ∈ linesGo (i + 1) s := by
      split at h
      · exact List.mem_cons.1 h
      · exact .inr h
    rcases h2 with rfl | h2
    · rw [List.length_cons]; omega
    · have := linesGo_in h2
      rw [List.length_cons]; omega
theorem lines_in {s : List UInt8} {x : Int} (h : x ∈ linesL s) : 0 ≤ x ∧ x ≤ s.length := by
  rcases List.mem_cons.1 h with rfl | h
  · omega
  · have := linesGo_in h; omega
theorem linesGo_len : ∀ (s : List UInt8) (i : Nat), (linesGo i s).length ≤ s.length
  | [], i => by simp [linesGo]
  | c :: s, i => by
    have := linesGo_len s (i + 1)
    rw [linesGo, List.length_cons]
    split
    · rw [List.length_cons]; omega
    · omega
theorem lines_len (s : List UInt8) : (linesL s).length ≤ s.length + 1 := by
  unfold linesL; rw [List.length_cons]; have := linesGo_len s 0; omega
def offGo (u : Int) (l : List UInt8) (i n : Int) : Int × Int :=
  if h : 0 < l.length then
    if n = u then (i, 0) else if u < n then (0, 1) else if cb l 0 = 10 then (0, 5)
    else offGo u (l.drop (charL l).1) (i + (charL l).1) (n + (charL l).2)
  else if n = u then (i, 0) else if u < n then (0, 1) else (0, 5)
termination_by l.length
decreasing_by
  have := (charL_pos l).1
  rw [List.length_drop]; omega
def offM (s : List UInt8) (p : Po) : Int × Int :=
  if p.l < 0 ∨ (linesL s).length ≤ p.l ∨ p.u < 0 then (0, 5)
  else offGo p.u (s.drop ((linesL s).getD p.l.toNat 0).toNat) ((linesL s).getD p.l.toNat 0) 0
theorem offGo_hit {u : Int} {l : List UInt8} {i n : Int} (h : n = u) : offGo u l i n = (i, 0) := by
  unfold offGo
  by_cases hl : 0 < l.length
  · rw [dif_pos hl, if_pos h]
  · rw [dif_neg hl, if_pos h]
theorem offGo_far {u : Int} {l : List UInt8} {i n : Int} (h : u < n) : offGo u l i n = (0, 1) := by
  unfold offGo
  by_cases hl : 0 < l.length
  · rw [dif_pos hl, if_neg (by omega), if_pos h]
  · rw [dif_neg hl, if_neg (by omega), if_pos h]
theorem offGo_nl {u : Int} {l : List UInt8} {i n : Int} (h : n < u) (hl : 0 < l.length) (h10 : cb l 0 = 10) : offGo u l i n = (0, 5) := by
  unfold offGo; rw [dif_pos hl, if_neg (by omega), if_neg (by omega), if_pos h10]
theorem offGo_on {u : Int} {l : List UInt8} {i n : Int} (h : n < u) (hl : 0 < l.length) (h10 : ¬ cb l 0 = 10) : offGo u l i n = offGo u (l.drop (charL l).1) (i + (charL l).1) (n + (charL l).2) := by
  conv => lhs; unfold offGo
  rw [dif_pos hl, if_neg (by omega), if_neg (by omega), if_neg h10]
theorem offGo_end {u : Int} {l : List UInt8} {i n : Int} (h : n < u) (hl : ¬ 0 < l.length) : offGo u l i n = (0, 5) := by
  unfold offGo; rw [dif_neg hl, if_neg (by omega), if_neg (by omega)]
theorem offGo_in {u : Int} : ∀ (m : Nat) {l : List UInt8} {i n : Int}, l.length ≤ m → 0 ≤ i → 0 ≤ (offGo u l i n).1 ∧ (offGo u l i n).1 ≤ i + l.length
  | m, l, i, n, hm, hi => by
    by_cases h1 : n = u
    · rw [offGo_hit h1]; show 0 ≤ i ∧ i ≤ _; omega
    · by_cases h2 : u < n
      · rw [offGo_far h2]; show (0 : Int) ≤ 0 ∧ (0 : Int) ≤ _; omega
      · by_cases h3 : 0 < l.length
        · by_cases h4 : cb l 0 = 10
          · rw [offGo_nl (by omega) h3 h4]; show (0 : Int) ≤ 0 ∧ (0 : Int) ≤ _; omega
          · rw [offGo_on (by omega) h3 h4]
            have h5 := (charL_pos l).1
            have h6 := charL_le h3
            have hd : (l.drop (charL l).1).length = l.length - (charL l).1 := List.length_drop
            cases m with
            | zero => omega
            | succ m =>
              have := offGo_in (u := u) m (l := l.drop (charL l).1) (i := i + (charL l).1) (n := n + (charL l).2) (by omega) (by omega)
              omega
        · rw [offGo_end (by omega) h3]; show (0 : Int) ≤ 0 ∧ (0 : Int) ≤ _; omega
theorem offM_in (s : List UInt8) (p : Po) : 0 ≤ (offM s p).1 ∧ (offM s p).1 ≤ s.length := by
  unfold offM
  split
  · show (0 : Int) ≤ 0 ∧ (0 : Int) ≤ _; omega
  · rename_i h
    have hlt : p.l.toNat < (linesL s).length := by omega
    have hm : (linesL s).getD p.l.toNat 0 ∈ linesL s := by rw [List.getD_eq_getElem?_getD, List.getElem?_eq_getElem hlt]; exact List.getElem_mem hlt
    have h1 := lines_in hm
    have hd : (s.drop ((linesL s).getD p.l.toNat 0).toNat).length = s.length - ((linesL s).getD p.l.toNat 0).toNat := List.length_drop
    have := offGo_in (u := p.u) _ (l := s.drop ((linesL s).getD p.l.toNat 0).toNat) (i := (linesL s).getD p.l.toNat 0) (n := 0) (Nat.le_refl _) h1.1
    omega
def firstNZ : List Int → Int
  | [] => 0
  | x :: xs => if x = 0 then firstNZ xs else x
def posGo (s : List UInt8) : List PE → List Ed → List Ed × Int
  | [], acc => (acc, 0)
  | x :: xs, acc =>
    if firstNZ [(offM s x.s).2, (offM s x.e).2] ≠ 0 then ([], firstNZ [(offM s x.s).2, (offM s x.e).2])
    else if (offM s x.e).1 < (offM s x.s).1 then ([], 1)
    else posGo s xs (acc ++ [⟨(offM s x.s).1, (offM s x.e).1, x.x⟩])
def posM (s : List UInt8) (l : List PE) : List Ed × Int := if 64 < l.length then ([], 4) else posGo s l []
theorem posGo_cons (s : List UInt8) (x : PE) (xs : List PE) (acc : List Ed) : posGo s (x :: xs) acc = if firstNZ [(offM s x.s).2, (offM s x.e).2] ≠ 0 then ([], firstNZ [(offM s x.s).2, (offM s x.e).2]) else if (offM s x.e).1 < (offM s x.s).1 then ([], 1) else posGo s xs (acc ++ [⟨(offM s x.s).1, (offM s x.e).1, x.x⟩]) := rfl
def txsP (l : List PE) : Nat := (l.map fun e => e.x.length).sum
theorem posGo_len (s : List UInt8) : ∀ (l : List PE) (acc : List Ed), (posGo s l acc).1.length ≤ acc.length + l.length ∧ txs (posGo s l acc).1 ≤ txs acc + txsP l
  | [], acc => by show acc.length ≤ _ ∧ txs acc ≤ _; simp [txsP]
  | x :: xs, acc => by
    rw [posGo_cons]
    have e1 : txsP (x :: xs) = x.x.length + txsP xs := by simp [txsP]
    split
    · exact ⟨Nat.zero_le _, Nat.zero_le _⟩
    · split
      · exact ⟨Nat.zero_le _, Nat.zero_le _⟩
      · obtain ⟨h1, h2⟩ := posGo_len s xs (acc ++ [⟨(offM s x.s).1, (offM s x.e).1, x.x⟩])
        rw [List.length_append, List.length_singleton] at h1
        rw [txs_snoc] at h2
        rw [List.length_cons, e1]
        simp only at h2
        omega
theorem posM_len (s : List UInt8) (l : List PE) : (posM s l).1.length ≤ l.length := by
  unfold posM; split
  · exact Nat.zero_le _
  · have := (posGo_len s l []).1; simp at this; exact this
theorem posM_txs (s : List UInt8) (l : List PE) : txs (posM s l).1 ≤ txsP l := by
  unfold posM; split
  · exact Nat.zero_le _
  · have := (posGo_len s l []).2; simpa [txs] using this
theorem apply_from {s : List UInt8} : ∀ {es : List Ed} {q : Nat}, q ≤ s.length → sound1 s.length q es = 0 → (applyGo s q es).length ≤ s.length - q + txs es
  | [], q, hq, _ => by simp [applyGo, txs]
  | e :: es, q, hq, hs => by
    obtain ⟨h1, h2, h3, h4, h5⟩ := sound1_cons hs
    have ht : ((e.t.toNat : Nat) : Int) = e.t := Int.toNat_of_nonneg (by omega)
    have e1 : txs (e :: es) = e.x.length + txs es := by simp [txs]
    have ih := apply_from (s := s) (es := es) (q := e.t.toNat) (by omega) (by rw [ht]; exact h5)
    have hl : ((s.take e.f.toNat).drop q).length = e.f.toNat - q := by rw [List.length_drop, List.length_take]; omega
    rw [applyGo, e1]
    simp only [List.length_append]
    omega
theorem apply_le {s : List UInt8} : ∀ {es : List Ed} {q : Nat}, sound1 s.length q es = 0 → (applyGo s q es).length ≤ s.length + txs es
  | [], q, _ => by simp [applyGo, txs]
  | e :: es, q, hs => by
    obtain ⟨h1, h2, h3, h4, h5⟩ := sound1_cons hs
    have ht : ((e.t.toNat : Nat) : Int) = e.t := Int.toNat_of_nonneg (by omega)
    have e1 : txs (e :: es) = e.x.length + txs es := by simp [txs]
    have hq : applyGo s e.t.toNat es = applyGo s e.t.toNat es := rfl
    have ih := apply_from (s := s) (es := es) (q := e.t.toNat) (by omega) (by rw [ht]; exact h5)
    have hl : ((s.take e.f.toNat).drop q).length ≤ e.f.toNat := by rw [List.length_drop, List.length_take]; omega
    rw [applyGo, e1]
    simp only [List.length_append]
    omega
structure OfX where
  k : Nat
  n : Nat
structure PbX where
  k : Nat
  es : List Ed
  oa : Option Addr
  c : Nat
end Go.GL

namespace Go.Proofs.Ytkdeopioelocnaa
open Go.GL
set_option linter.unusedVariables false
theorem qg_bs22_1_0 (x0 : Int) : BuildSV Try.prog 22 3 1 [(0, .int .i64 x0)] [.int .i64 x0] := fun w => by kernel_rfl
theorem qg_ni22 : noInt Try.prog 22 = true := by kernel_rfl
theorem qg_te3 : tyElem Try.prog 3 1 8 = true := by kernel_rfl
theorem qg_tf61_0 : fieldOff Try.prog 61 0 0 = true := by kernel_rfl
theorem qg_tf61_1 : fieldOff Try.prog 61 1 1 = true := by kernel_rfl
theorem qg_tl22 : tySlice Try.prog 22 3 = true := by kernel_rfl
theorem qg_ts3 : tyScalar Try.prog 3 = true := by kernel_rfl
theorem qg_tstr9 : tyStr Try.prog 9 = true := by kernel_rfl
theorem qg_tz3 : tySize Try.prog 3 1 = true := by kernel_rfl
theorem units_spec {r : Nat} {M : List HP} {F : List Fact} : Ctr Try.prog 79 [.int .i32 (r : Int)] M F Unit (fun _ => I (((if 65536 ≤ r then 2 else 1 : Nat)) : Int)) (fun _ => M) (fun _ => F) := by
  refine Ctr.body Try.func79 rfl rfl ?_
  refine TR.seq ?_
  refine TR.region ?_
  refine RL.assign rfl rfl rfl ?_
  refine RL.nil ?_
  refine NX.seq ?_
  refine TR.seq ?_
  refine TR.seq ?_
  refine TR.region ?_
  refine RL.move rfl rfl rfl ?_
  refine RL.bin rfl rfl rfl BinV.geq rfl ?_
  refine RL.nil ?_
  refine NX.seq ?_
  refine TR.cond rfl (fun h1 => ?_) (fun h1 => ?_)
  · skip
    have hu : 65536 ≤ r := by have := of_decide_eq_true h1; omega
    refine TR.seq ?_
    refine TR.region ?_
    refine RL.assign rfl rfl rfl ?_
    refine RL.nil ?_
    refine NX.seq ?_
    refine TR.ret ?_
    refine NX.retThen ?_
    exact NX.ret1 () rfl rfl (by rw [if_pos hu]; rfl) (fun w hw => hw)
  · skip
    have hu : ¬ 65536 ≤ r := by have := of_decide_eq_false h1; omega
    refine TR.skip ?_
    refine NX.seq ?_
    refine TR.seq ?_
    refine TR.region ?_
    refine RL.assign rfl rfl rfl ?_
    refine RL.nil ?_
    refine NX.seq ?_
    refine TR.ret ?_
    exact NX.ret1 () rfl rfl (by rw [if_neg hu]; rfl) (fun w hw => hw)
theorem lines_spec {tx : List UInt8} {M : List HP} {F : List Fact} (hl : tx.length ≤ 1099511627776) : Ctr Try.prog 78 [S tx] M F (Option Addr × Nat) (fun z => .slice z.1 (linesL tx).length z.2) (fun _ => M) (fun z => ArrF z.1 (ints (linesL tx)) :: F) := by
  refine Ctr.body Try.func78 rfl rfl ?_
  refine TR.seq ?_
  refine TR.region ?_
  refine RL.assign rfl rfl rfl ?_
  refine RL.nil ?_
  refine NX.seq ?_
  refine TR.seq ?_
  refine TR.region ?_
  refine RL.buildSlice rfl rfl (qg_bs22_1_0 _) rfl (fun b1 => ?_)
  refine RL.weak (fun w hw => St.boxSl (n := 1) (size := 1) rfl (by decide) hw) ?_
  refine RL.assign rfl rfl rfl ?_
  refine RL.nil ?_
  refine NX.seq ?_
  refine TR.seq ?_
  refine TR.seq ?_
  refine TR.region ?_
  refine RL.move rfl rfl rfl ?_
  refine RL.lenStr rfl qg_tstr9 rfl rfl ?_
  refine RL.move rfl rfl rfl ?_
  refine RL.nil ?_
  refine NX.seq ?_
  refine TR.block ?_
  refine TR.loopP (ι := PbX) (fun x => x.k ≤ tx.length) (fun x => [(0, S tx), (3, .slice x.oa (linesL (tx.take x.k)).length x.c), (7, I (tx.length : Nat)), (8, I (x.k : Nat))]) (fun x => OwnSl 3 1 x.oa (linesL (tx.take x.k)).length x.c (ints (linesL (tx.take x.k))) :: M) (fun x => F) (fun x => tx.length - x.k) ⟨0, [], some ⟨b1, 0, none⟩, 1⟩ (Nat.zero_le _) ⟨rfl, rfl, rfl, rfl, trivial⟩ (fun w hw => (hw.to 1 [0] 0 [] rfl)) (fun x hx => ?_)
  refine TR.seq ?_
  refine TR.region ?_
  refine RL.bin rfl rfl rfl BinV.lss rfl ?_
  refine RL.nil ?_
  refine NX.seq ?_
  refine TR.seq ?_
  refine TR.cond rfl (fun h2 => ?_) (fun h2 => ?_)
  · skip
    have hk : x.k < tx.length := by have := of_decide_eq_true h2; omega
    have hst := lines_step hk
    have hll := lines_len (tx.take x.k)
    rw [List.length_take] at hll
    refine TR.skip ?_
    refine NX.seq ?_
    refine TR.seq ?_
    refine TR.block ?_
    refine TR.seq ?_
    refine TR.region ?_
    refine RL.move rfl rfl rfl ?_
    refine RL.assign rfl rfl rfl ?_
    refine RL.nil ?_
    refine NX.seq ?_
    refine TR.seq ?_
    refine TR.region ?_
    refine RL.move rfl rfl rfl ?_
    refine RL.move rfl rfl rfl ?_
    refine RL.indexS rfl qg_tstr9 rfl rfl (by omega) (List.getElem?_eq_getElem (show ((x.k : Nat) : Int).toNat < tx.length by omega)) rfl ?_
    refine RL.bin rfl rfl rfl BinV.eql rfl ?_
    refine RL.nil ?_
    refine NX.seq ?_
    refine TR.cond rfl (fun h3 => ?_) (fun h3 => ?_)
    · skip
      have h10 : tx[x.k].toNat = 10 := by have := of_decide_eq_true h3; simp only [Int.toNat_natCast] at this; omega
      rw [if_pos h10] at hst
      refine TR.region ?_
      refine RL.move rfl rfl rfl ?_
      refine RL.move rfl rfl rfl ?_
      refine RL.bin rfl rfl rfl (BinV.add ((x.k + 1 : Nat) : Int) (by omega) (by omega) (by omega)) rfl ?_
      refine RL.buildSlice rfl rfl (qg_bs22_1_0 _) rfl (fun b4 => ?_)
      refine RL.ofGV rfl rfl (GV.append (j := 1) qg_tl22 qg_ni22 qg_te3 rfl rfl rfl (src_box (i := 0) rfl rfl rfl) (by omega) (by omega)) (fun y => ?_)
      refine RL.assign rfl rfl rfl ?_
      refine RL.nil ?_
      refine NX.off ?_
      refine NX.seq ?_
      refine TR.region ?_
      refine RL.bin rfl rfl rfl (BinV.add _ rfl (by omega) (by omega)) rfl ?_
      refine RL.move rfl rfl rfl ?_
      refine RL.nil ?_
      refine NX.roundP ⟨x.k + 1, [], y.1, y.2⟩ hk (by show _ - (x.k + 1) < _ - x.k; omega) ⟨rfl, ?_, rfl, rfl, trivial⟩ (fun w hw => ?_)
      · show some (Value.slice y.1 ((linesL (tx.take x.k)).length + 1) y.2) = some (Value.slice y.1 (linesL (tx.take (x.k + 1))).length y.2)
        rw [hst, List.length_append]; rfl
      · have h9 := (hw.to 2 [1] 0 [] rfl)
        show St w (OwnSl 3 1 y.1 (linesL (tx.take (x.k + 1))).length y.2 (ints (linesL (tx.take (x.k + 1)))) :: M) F
        rw [hst, List.length_append, show ∀ a b : List Int, ints (a ++ b) = ints a ++ ints b from fun a b => List.map_append]
        exact h9
    · skip
      have h10 : ¬ tx[x.k].toNat = 10 := by have := of_decide_eq_false h3; simp only [Int.toNat_natCast] at this; omega
      rw [if_neg h10, List.append_nil] at hst
      refine TR.skip ?_
      refine NX.off ?_
      refine NX.seq ?_
      refine TR.region ?_
      refine RL.bin rfl rfl rfl (BinV.add _ rfl (by omega) (by omega)) rfl ?_
      refine RL.move rfl rfl rfl ?_
      refine RL.nil ?_
      refine NX.roundP ⟨x.k + 1, [], x.oa, x.c⟩ hk (by show _ - (x.k + 1) < _ - x.k; omega) ⟨rfl, ?_, rfl, rfl, trivial⟩ (fun w hw => ?_)
      · show some (Value.slice x.oa (linesL (tx.take x.k)).length x.c) = some (Value.slice x.oa (linesL (tx.take (x.k + 1))).length x.c)
        rw [hst]
      · have h9 := (hw.to 1 [0] 0 [] rfl)
        show St w (OwnSl 3 1 x.oa (linesL (tx.take (x.k + 1))).length x.c (ints (linesL (tx.take (x.k + 1)))) :: M) F
        rw [hst]
        exact h9
  · skip
    have hk2 : x.k = tx.length := by have := of_decide_eq_false h2; have := hx; omega
    refine TR.exit ?_
    refine NX.exitThen ?_
    refine NX.exitThen ?_
    refine NX.exitHere ?_
    refine NX.seq ?_
    refine TR.seq ?_
    refine TR.region ?_
    refine RL.move rfl rfl rfl ?_
    refine RL.assign rfl rfl rfl ?_
    refine RL.nil ?_
    refine NX.seq ?_
    refine TR.ret ?_
    rw [hk2, List.take_length]
    exact NX.ret1 (x.oa, x.c) rfl rfl rfl (fun w hw => ((hw.to 1 [0] 0 [] rfl) : St w _ _).keepSl)
theorem offset_spec {tx : List UInt8} {q : Po} {M : List HP} {F : List Fact} (hl : tx.length ≤ 1099511627776) : Ctr Try.prog 50 [S tx, .agg (q.c).toArray] M F Unit (fun _ => .tuple #[I (offM tx q).1, I (offM tx q).2]) (fun _ => M) (fun _ => F) := by
  refine Ctr.body Try.func50 rfl rfl ?_
  refine TR.seq ?_
  refine TR.region ?_
  refine RL.boxA rfl rfl rfl (fun b1 => ?_)
  refine RL.assign rfl rfl rfl ?_
  refine RL.assign rfl rfl rfl ?_
  refine RL.nil ?_
  refine NX.seq ?_
  refine TR.seq ?_
  refine TR.region ?_
  refine RL.move rfl rfl rfl ?_
  refine RL.call rfl rfl Try.call78 rfl (lines_spec hl) (fun z => ?_)
  refine RL.assign rfl rfl rfl ?_
  refine RL.nil ?_
  refine NX.seq ?_
  refine TR.seq ?_
  refine TR.seq ?_
  refine TR.region ?_
  refine RL.fieldAddr rfl qg_tf61_0 rfl rfl ?_
  refine RL.load1 0 rfl qg_ts3 rfl rfl rfl rfl ?_
  refine RL.bin rfl rfl rfl BinV.lss rfl ?_
  refine RL.move rfl rfl rfl ?_
  refine RL.part (fun h2 => ?_) (fun h2 => ?_)
  · skip
    have hbad : q.l < 0 ∨ (linesL tx).length ≤ q.l ∨ q.u < 0 := .inl (of_decide_eq_true h2)
    refine RL.skip rfl rfl rfl ?_
    refine RL.skip rfl rfl rfl ?_
    refine RL.skip rfl rfl rfl ?_
    refine RL.skip rfl rfl rfl ?_
    refine RL.skip rfl rfl rfl ?_
    refine RL.pickT rfl rfl rfl rfl ?_
    refine RL.move rfl rfl rfl ?_
    refine RL.skip rfl rfl rfl ?_
    refine RL.skip rfl rfl rfl ?_
    refine RL.skip rfl rfl rfl ?_
    refine RL.pickT rfl rfl rfl rfl ?_
    refine RL.nil ?_
    refine NX.seq ?_
    refine TR.condT rfl ?_
    refine TR.seq ?_
    refine TR.region ?_
    refine RL.assign rfl rfl rfl ?_
    refine RL.assign rfl rfl rfl ?_
    refine RL.nil ?_
    refine NX.seq ?_
    refine TR.ret ?_
    refine NX.retThen ?_
    refine NX.ret2 () rfl rfl rfl (by rw [show offM tx q = (0, 5) from if_pos hbad]) (fun w hw => (hw.to 1 [] 1 [] rfl))
  · skip
    have hb1 := of_decide_eq_false h2
    refine RL.fieldAddr rfl qg_tf61_0 rfl rfl ?_
    refine RL.load1 0 rfl qg_ts3 rfl rfl rfl rfl ?_
    refine RL.move rfl rfl rfl ?_
    refine RL.lenSlice rfl qg_tl22 rfl rfl ?_
    refine RL.bin rfl rfl rfl BinV.geq rfl ?_
    refine RL.pickF rfl rfl rfl rfl ?_
    refine RL.move rfl rfl rfl ?_
    refine RL.part (fun h3 => ?_) (fun h3 => ?_)
    · skip
      have hbad : q.l < 0 ∨ (linesL tx).length ≤ q.l ∨ q.u < 0 := .inr (.inl (of_decide_eq_true h3))
      refine RL.skip rfl rfl rfl ?_
      refine RL.skip rfl rfl rfl ?_
      refine RL.skip rfl rfl rfl ?_
      refine RL.pickT rfl rfl rfl rfl ?_
      refine RL.nil ?_
      refine NX.seq ?_
      refine TR.condT rfl ?_
      refine TR.seq ?_
      refine TR.region ?_
      refine RL.assign rfl rfl rfl ?_
      refine RL.assign rfl rfl rfl ?_
      refine RL.nil ?_
      refine NX.seq ?_
      refine TR.ret ?_
      refine NX.retThen ?_
      refine NX.ret2 () rfl rfl rfl (by rw [show offM tx q = (0, 5) from if_pos hbad]) (fun w hw => (hw.to 1 [] 1 [] rfl))
    · skip
      have hb2 := of_decide_eq_false h3
      refine RL.fieldAddr rfl qg_tf61_1 rfl rfl ?_
      refine RL.load1 0 rfl qg_ts3 rfl rfl rfl rfl ?_
      refine RL.bin rfl rfl rfl BinV.lss rfl ?_
      refine RL.pickF rfl rfl rfl rfl ?_
      refine RL.nil ?_
      refine NX.seq ?_
      refine TR.cond rfl (fun h4 => ?_) (fun h4 => ?_)
      · skip
        have hbad : q.l < 0 ∨ (linesL tx).length ≤ q.l ∨ q.u < 0 := .inr (.inr (of_decide_eq_true h4))
        refine TR.seq ?_
        refine TR.region ?_
        refine RL.assign rfl rfl rfl ?_
        refine RL.assign rfl rfl rfl ?_
        refine RL.nil ?_
        refine NX.seq ?_
        refine TR.ret ?_
        refine NX.retThen ?_
        refine NX.ret2 () rfl rfl rfl (by rw [show offM tx q = (0, 5) from if_pos hbad]) (fun w hw => (hw.to 1 [] 1 [] rfl))
      · skip
        have hb3 := of_decide_eq_false h4
        have hq : q.l.toNat < (linesL tx).length := by omega
        have hat := lines_in (List.getElem_mem hq)
        obtain ⟨rest, hrest⟩ : ∃ rest, rest = tx.drop (((linesL tx)[q.l.toNat]'hq)).toNat := ⟨_, rfl⟩
        have hrl : rest.length = tx.length - (((linesL tx)[q.l.toNat]'hq)).toNat := by rw [hrest, List.length_drop]
        have hoff : offM tx q = offGo q.u rest ((linesL tx)[q.l.toNat]'hq) 0 := by
          have e1 : (linesL tx).getD q.l.toNat 0 = ((linesL tx)[q.l.toNat]'hq) := by rw [List.getD_eq_getElem?_getD, List.getElem?_eq_getElem hq]; rfl
          unfold offM
          rw [if_neg (by omega), e1, ← hrest]
        refine TR.openP (open_arr (oa := z.1) (xs := ints (linesL tx)) (.head _) (ints_ne (by omega))) (fun pl hpl => ?_)
        refine TR.skip ?_
        refine NX.seq ?_
        refine TR.seq ?_
        refine TR.region ?_
        refine RL.move rfl rfl rfl ?_
        refine RL.fieldAddr rfl qg_tf61_0 rfl rfl ?_
        refine RL.load1 0 rfl qg_ts3 rfl rfl rfl rfl ?_
        refine RL.indexAddr rfl qg_tl22 qg_tz3 (congrArg (fun a => some (Value.slice a _ _)) hpl) rfl (by omega) (by omega) rfl ?_
        refine RL.loadF rfl rfl (fun w K hF => run_loadCell1 (j := q.l.toNat * 1) (v := I ((linesL tx)[q.l.toNat]'hq)) (hF (CellsF pl.1 pl.2 (ints (linesL tx))) (.head _)) qg_ts3 (by rw [Nat.mul_one]; exact ints_get hq)) rfl ?_
        refine RL.assign rfl rfl rfl ?_
        refine RL.nil ?_
        refine NX.seq ?_
        refine TR.seq ?_
        refine TR.region ?_
        refine RL.assign rfl rfl rfl ?_
        refine RL.nil ?_
        refine NX.seq ?_
        refine TR.seq ?_
        refine TR.seq ?_
        refine TR.region ?_
        refine RL.move rfl rfl rfl ?_
        refine RL.move rfl rfl rfl ?_
        refine RL.sliceSfrom rfl qg_tstr9 rfl rfl (by omega) (by omega) rfl ?_
        rw [← hrest]
        refine RL.ofGV rfl rfl (GV.rangeS qg_tstr9 rfl) (fun it => ?_)
        refine RL.nil ?_
        refine NX.seq ?_
        refine TR.block ?_
        refine TR.loopP (ι := OfX) (fun x => x.k ≤ rest.length ∧ x.n ≤ x.k ∧ offGo q.u (rest.drop x.k) (((linesL tx)[q.l.toNat]'hq) + (x.k : Nat)) (x.n : Nat) = offGo q.u rest ((linesL tx)[q.l.toNat]'hq) 0 ∧ True) (fun x => [(0, S tx), (3, .pointer (some ⟨b1, 0, none⟩)), (7, I ((linesL tx)[q.l.toNat]'hq)), (8, I (x.n : Nat)), (36, .pointer (some ⟨it, 0, none⟩))]) (fun x => Pts it (.stringIter ⟨rest.toArray⟩ x.k) :: Box b1 61 q.c :: M) (fun x => F) (fun x => rest.length - x.k) ⟨0, 0⟩ ⟨Nat.zero_le _, Nat.zero_le _, by show offGo q.u rest (((linesL tx)[q.l.toNat]'hq) + ((0 : Nat) : Int)) _ = _; rw [show ((linesL tx)[q.l.toNat]'hq) + ((0 : Nat) : Int) = ((linesL tx)[q.l.toNat]'hq) from Int.add_zero _]; rfl, trivial⟩ ⟨rfl, rfl, rfl, rfl, rfl, trivial⟩ (fun w hw => (hw.to 2 [0, 1] 2 [] rfl)) (fun x hx => ?_)
        refine TR.seq ?_
        refine TR.region ?_
        by_cases hk : x.k < rest.length
        · skip
          refine RL.ofGV rfl rfl (GV.nextOn 0 rfl rfl hk) (fun _ => ?_)
          refine RL.extract rfl rfl rfl rfl ?_
          refine RL.nil ?_
          refine NX.seq ?_
          refine TR.seq ?_
          refine TR.condT rfl ?_
          refine TR.skip ?_
          refine NX.seq ?_
          refine TR.block ?_
          refine TR.seq ?_
          refine TR.region ?_
          have hdc := dec_char rest x.k
          have hlr : 0 < (rest.drop x.k).length := by rw [List.length_drop]; omega
          have hcp := charL_pos (rest.drop x.k)
          have hcl := charL_le hlr
          rw [List.length_drop] at hcl
          refine RL.extract rfl rfl rfl rfl ?_
          refine RL.extract rfl rfl rfl rfl ?_
          refine RL.assign rfl rfl rfl ?_
          refine RL.assign rfl rfl rfl ?_
          refine RL.nil ?_
          refine NX.seq ?_
          refine TR.seq ?_
          refine TR.seq ?_
          refine TR.region ?_
          refine RL.move rfl rfl rfl ?_
          refine RL.fieldAddr rfl qg_tf61_1 rfl rfl ?_
          refine RL.load1 1 rfl qg_ts3 rfl rfl rfl rfl ?_
          refine RL.bin rfl rfl rfl BinV.eql rfl ?_
          refine RL.nil ?_
          refine NX.seq ?_
          refine TR.cond rfl (fun h5 => ?_) (fun h5 => ?_)
          · skip
            have hn : (x.n : Int) = q.u := of_decide_eq_true h5
            refine TR.seq ?_
            refine TR.region ?_
            refine RL.move rfl rfl rfl ?_
            refine RL.move rfl rfl rfl ?_
            refine RL.bin rfl rfl rfl (BinV.add _ rfl (by omega) (by omega)) rfl ?_
            refine RL.assign rfl rfl rfl ?_
            refine RL.assign rfl rfl rfl ?_
            refine RL.nil ?_
            refine NX.seq ?_
            refine TR.ret ?_
            refine NX.retThen ?_
            refine NX.retBlock ?_
            refine NX.retThen ?_
            refine NX.retBlock ?_
            refine NX.retThen ?_
            refine NX.ret2 () rfl rfl rfl (by rw [hoff, ← hx.2.2.1, offGo_hit hn]) (fun w hw => (hw.to 2 [] 0 [] rfl))
          · skip
            have hn : ¬ (x.n : Int) = q.u := of_decide_eq_false h5
            refine TR.skip ?_
            refine NX.seq ?_
            refine TR.seq ?_
            refine TR.seq ?_
            refine TR.region ?_
            refine RL.move rfl rfl rfl ?_
            refine RL.fieldAddr rfl qg_tf61_1 rfl rfl ?_
            refine RL.load1 1 rfl qg_ts3 rfl rfl rfl rfl ?_
            refine RL.bin rfl rfl rfl BinV.gtr rfl ?_
            refine RL.nil ?_
            refine NX.seq ?_
            refine TR.cond rfl (fun h6 => ?_) (fun h6 => ?_)
            · skip
              have hn2 : q.u < (x.n : Int) := of_decide_eq_true h6
              refine TR.seq ?_
              refine TR.region ?_
              refine RL.assign rfl rfl rfl ?_
              refine RL.assign rfl rfl rfl ?_
              refine RL.nil ?_
              refine NX.seq ?_
              refine TR.ret ?_
              refine NX.retThen ?_
              refine NX.retBlock ?_
              refine NX.retThen ?_
              refine NX.retBlock ?_
              refine NX.retThen ?_
              refine NX.ret2 () rfl rfl rfl (by rw [hoff, ← hx.2.2.1, offGo_far hn2]) (fun w hw => (hw.to 2 [] 0 [] rfl))
            · skip
              have hn2 : ¬ q.u < (x.n : Int) := of_decide_eq_false h6
              refine TR.skip ?_
              refine NX.seq ?_
              refine TR.seq ?_
              refine TR.seq ?_
              refine TR.region ?_
              refine RL.move rfl rfl rfl ?_
              refine RL.bin rfl rfl rfl BinV.eql rfl ?_
              refine RL.nil ?_
              refine NX.seq ?_
              refine TR.cond rfl (fun h7 => ?_) (fun h7 => ?_)
              · skip
                have h10 : cb (rest.drop x.k) 0 = 10 := hdc.2.2.1.1 (by have := of_decide_eq_true h7; omega)
                refine TR.seq ?_
                refine TR.region ?_
                refine RL.assign rfl rfl rfl ?_
                refine RL.assign rfl rfl rfl ?_
                refine RL.nil ?_
                refine NX.seq ?_
                refine TR.ret ?_
                refine NX.retThen ?_
                refine NX.retBlock ?_
                refine NX.retThen ?_
                refine NX.retBlock ?_
                refine NX.retThen ?_
                refine NX.ret2 () rfl rfl rfl (by rw [hoff, ← hx.2.2.1, offGo_nl (by omega) hlr h10]) (fun w hw => (hw.to 2 [] 0 [] rfl))
              · skip
                have h10 : ¬ cb (rest.drop x.k) 0 = 10 := fun e => by have h7e := hdc.2.2.1.2 e; have := of_decide_eq_false h7; omega
                refine TR.skip ?_
                refine NX.seq ?_
                refine TR.region ?_
                refine RL.move rfl rfl rfl ?_
                refine RL.move rfl rfl rfl ?_
                refine RL.call rfl rfl Try.call79 rfl (units_spec) (fun _ => ?_)
                refine RL.bin rfl rfl rfl (BinV.add ((x.n + (charL (rest.drop x.k)).2 : Nat) : Int) (by rw [hdc.2.1]; omega) (by omega) (by omega)) rfl ?_
                refine RL.assign rfl rfl rfl ?_
                refine RL.nil ?_
                refine NX.off ?_
                refine NX.roundP ⟨x.k + (charL (rest.drop x.k)).1, x.n + (charL (rest.drop x.k)).2⟩ ⟨by show x.k + _ ≤ _; omega, by show x.n + _ ≤ x.k + _; omega, by rw [← hx.2.2.1, offGo_on (by omega) hlr h10, List.drop_drop]; show offGo q.u (rest.drop (x.k + _)) (((linesL tx)[q.l.toNat]'hq) + ((x.k + _ : Nat) : Int)) ((x.n + _ : Nat) : Int) = _; congr 1; omega, trivial⟩ (by show _ - (x.k + (charL (rest.drop x.k)).1) < _ - x.k; omega) ⟨rfl, rfl, rfl, rfl, rfl, trivial⟩ (fun w hw => (hw.to 2 [0, 1] 0 [] rfl))
        · skip
          refine RL.ofGV rfl rfl (GV.nextEnd 0 rfl rfl hk) (fun _ => ?_)
          refine RL.extract rfl rfl rfl rfl ?_
          refine RL.nil ?_
          refine NX.seq ?_
          refine TR.seq ?_
          refine TR.condF rfl ?_
          refine TR.exit ?_
          refine NX.exitThen ?_
          refine NX.exitThen ?_
          refine NX.exitHere ?_
          refine NX.seq ?_
          refine TR.seq ?_
          refine TR.block ?_
          refine TR.seq ?_
          refine TR.region ?_
          refine RL.move rfl rfl rfl ?_
          refine RL.fieldAddr rfl qg_tf61_1 rfl rfl ?_
          refine RL.load1 1 rfl qg_ts3 rfl rfl rfl rfl ?_
          refine RL.bin rfl rfl rfl BinV.eql rfl ?_
          refine RL.assign rfl rfl rfl ?_
          refine RL.nil ?_
          refine NX.seq ?_
          refine TR.cond rfl (fun h8 => ?_) (fun h8 => ?_)
          · skip
            have hn : (x.n : Int) = q.u := of_decide_eq_true h8
            have hxk := hx.1
            refine TR.seq ?_
            refine TR.region ?_
            refine RL.move rfl rfl rfl ?_
            refine RL.lenStr rfl qg_tstr9 rfl rfl ?_
            refine RL.assign rfl rfl rfl ?_
            refine RL.assign rfl rfl rfl ?_
            refine RL.nil ?_
            refine NX.seq ?_
            refine TR.ret ?_
            refine NX.retBlock ?_
            refine NX.retThen ?_
            refine NX.ret2 () rfl rfl rfl (by have e9 : (tx.length : Int) = ((linesL tx)[q.l.toNat]'hq) + (x.k : Nat) := (by omega); rw [hoff, ← hx.2.2.1, offGo_hit hn, e9]) (fun w hw => (hw.to 2 [] 0 [] rfl))
          · skip
            have hn : ¬ (x.n : Int) = q.u := of_decide_eq_false h8
            have hlr : ¬ 0 < (rest.drop x.k).length := by rw [List.length_drop]; omega
            refine TR.seq ?_
            refine TR.region ?_
            refine RL.move rfl rfl rfl ?_
            refine RL.fieldAddr rfl qg_tf61_1 rfl rfl ?_
            refine RL.load1 1 rfl qg_ts3 rfl rfl rfl rfl ?_
            refine RL.bin rfl rfl rfl BinV.gtr rfl ?_
            refine RL.assign rfl rfl rfl ?_
            refine RL.nil ?_
            refine NX.seq ?_
            refine TR.cond rfl (fun h9 => ?_) (fun h9 => ?_)
            · skip
              have hn2 : q.u < (x.n : Int) := of_decide_eq_true h9
              refine TR.seq ?_
              refine TR.region ?_
              refine RL.assign rfl rfl rfl ?_
              refine RL.assign rfl rfl rfl ?_
              refine RL.nil ?_
              refine NX.seq ?_
              refine TR.ret ?_
              refine NX.retBlock ?_
              refine NX.retThen ?_
              refine NX.ret2 () rfl rfl rfl (by rw [hoff, ← hx.2.2.1, offGo_far hn2]) (fun w hw => (hw.to 2 [] 0 [] rfl))
            · skip
              have hn2 : ¬ q.u < (x.n : Int) := of_decide_eq_false h9
              refine TR.skip ?_
              refine NX.off ?_
              refine NX.seq ?_
              refine TR.seq ?_
              refine TR.region ?_
              refine RL.assign rfl rfl rfl ?_
              refine RL.assign rfl rfl rfl ?_
              refine RL.nil ?_
              refine NX.seq ?_
              refine TR.ret ?_
              refine NX.ret2 () rfl rfl rfl (by rw [hoff, ← hx.2.2.1, offGo_end (by omega) hlr]) (fun w hw => (hw.to 2 [] 0 [] rfl))
end Go.Proofs.Ytkdeopioelocnaa

namespace Go.GL
theorem box_part {P : Program} {M : List HP} {F : List Fact} {b bt off t i : Nat} {cs vs : List Value} (hi : M[i]? = some (Box b bt cs)) (ht : tyAgg P t vs.length = true) (hv : ∀ j v, vs[j]? = some v → cs[off + j]? = some v) : ∀ w, St w M F → Reads P w t ⟨b, off, none⟩ (.agg vs.toArray) := fun w hw =>
  run_loadVar_agg ht rfl fun j v hj => by rw [addr_add, cell_of_box (hw.heap hi)]; exact hv j v hj
theorem part2 {a b : Value} {cs : List Value} {off : Nat} (h0 : cs[off]? = some a) (h1 : cs[off + 1]? = some b) : ∀ j v, [a, b][j]? = some v → cs[off + j]? = some v
  | 0, v, h => by simp at h; subst h; exact h0
  | 1, v, h => by simp at h; subst h; exact h1
  | j + 2, v, h => by simp at h
section
variable {P : Program} {r : Option Nat} {N : Nat} {ops : Array Oper} {rest : List Oper} {Q : Exit → Act → World → Prop} {E : Env} {ds : List Deferred} {M : List HP} {F : List Fact}
variable {d : Nat} {ty : TypeId} {pos : String} {aft : Array Edge} {gd : Option (Nat × Bool)}
theorem GV.boxA {d : Nat} {t : TypeId} {x : Operand} {cs : List Value} (hx : evalO E x = some (.agg cs.toArray)) : GV P E M F ⟨some d, .box t x, ty, pos, aft, gd⟩ Nat (fun b => .pointer (some ⟨b, 0, none⟩)) (fun b => Box b t cs :: M) (fun _ => F) := ⟨rfl, fun ρ hρ w hw =>
  ⟨w.heap.size, _, by simp [execOp, Instr.box, hρ _ _ hx, newVar, newRow, Value.cells], hw.alloc _⟩⟩
end
end Go.GL

namespace Go.Proofs.Ytkdeopioelocnaa
open Go.GL
set_option linter.unusedVariables false
theorem qh_bs26_1_0 (x00 : Int) (x01 : Int) (x02 : List UInt8) : BuildSV Try.prog 26 78 1 [(0, .agg #[.int .i64 x00, .int .i64 x01, S x02])] [.int .i64 x00, .int .i64 x01, S x02] := fun w => by kernel_rfl
theorem qh_bs90_2_0_1 (x0 : Int) (x1 : Int) : BuildSV Try.prog 90 32 2 [(0, .int .i64 x0), (1, .int .i64 x1)] [.int .i64 x0, .int .i64 x1] := fun w => by kernel_rfl
theorem qh_bv78_0_1_2 (x0 : Int) (x1 : Int) (x2 : List UInt8) : BuildV Try.prog 78 [(0, .int .i64 x0), (1, .int .i64 x1), (2, S x2)] (.agg #[.int .i64 x0, .int .i64 x1, S x2]) := fun w => by kernel_rfl
theorem qh_ni26 : noInt Try.prog 26 = true := by kernel_rfl
theorem qh_ta61 : tyAgg Try.prog 61 2 = true := by kernel_rfl
theorem qh_ta63 : tyAgg Try.prog 63 5 = true := by kernel_rfl
theorem qh_te78 : tyElem Try.prog 78 3 32 = true := by kernel_rfl
theorem qh_tf63_0 : fieldOff Try.prog 63 0 0 = true := by kernel_rfl
theorem qh_tf63_1 : fieldOff Try.prog 63 1 2 = true := by kernel_rfl
theorem qh_tf63_2 : fieldOff Try.prog 63 2 4 = true := by kernel_rfl
theorem qh_tl26 : tySlice Try.prog 26 78 = true := by kernel_rfl
theorem qh_tl28 : tySlice Try.prog 28 63 = true := by kernel_rfl
theorem qh_tl90 : tySlice Try.prog 90 32 = true := by kernel_rfl
theorem qh_ts32 : tyScalar Try.prog 32 = true := by kernel_rfl
theorem qh_ts9 : tyScalar Try.prog 9 = true := by kernel_rfl
theorem qh_tz32 : tySize Try.prog 32 1 = true := by kernel_rfl
theorem qh_tz63 : tySize Try.prog 63 5 = true := by kernel_rfl
theorem bad_spec {x : Int} {M : List HP} {F : List Fact} : Ctr Try.prog 52 [I x] M F Unit (fun _ => .bool (decide (x ≠ 0))) (fun _ => M) (fun _ => F) := by
  refine Ctr.body Try.func52 rfl rfl ?_
  refine TR.seq ?_
  refine TR.region ?_
  refine RL.assign rfl rfl rfl ?_
  refine RL.nil ?_
  refine NX.seq ?_
  refine TR.seq ?_
  refine TR.region ?_
  refine RL.move rfl rfl rfl ?_
  refine RL.bin rfl rfl rfl BinV.neq rfl ?_
  refine RL.assign rfl rfl rfl ?_
  refine RL.nil ?_
  refine NX.seq ?_
  refine TR.ret ?_
  exact NX.ret1 () rfl rfl rfl (fun w hw => hw)
theorem first_spec {xs : List Int} {oa : Option Addr} {ca : Nat} {M : List HP} {F : List Fact} (ha : ArrF oa (ints xs) ∈ F) (hl : xs.length ≤ 4611686018427387904) : Ctr Try.prog 51 [.slice oa xs.length ca, I 0, .func (.func 52) #[] #[]] M F Unit (fun _ => I (firstNZ xs)) (fun _ => M) (fun _ => F) := by
  refine Ctr.body Try.func51 rfl rfl ?_
  refine TR.seq ?_
  refine TR.region ?_
  refine RL.assign rfl rfl rfl ?_
  refine RL.nil ?_
  refine NX.seq ?_
  refine TR.seq ?_
  refine TR.seq ?_
  refine TR.region ?_
  refine RL.move rfl rfl rfl ?_
  refine RL.lenSlice rfl qh_tl90 rfl rfl ?_
  refine RL.move rfl rfl rfl ?_
  refine RL.nil ?_
  refine NX.seq ?_
  refine TR.block ?_
  refine TR.loopP (ι := Nat) (fun k => k ≤ xs.length ∧ firstNZ (xs.drop k) = firstNZ xs) (fun k => [(1, I 0), (2, .func (.func 52) #[] #[]), (9, .slice oa xs.length ca), (10, I (xs.length : Nat)), (11, I (k : Nat))]) (fun k => M) (fun k => F) (fun k => xs.length - k) 0 ⟨Nat.zero_le _, rfl⟩ ⟨rfl, rfl, rfl, rfl, rfl, trivial⟩ (fun w hw => (hw.to 0 [] 0 [] rfl)) (fun k hx => ?_)
  refine TR.seq ?_
  refine TR.region ?_
  refine RL.bin rfl rfl rfl BinV.lss rfl ?_
  refine RL.nil ?_
  refine NX.seq ?_
  refine TR.seq ?_
  refine TR.cond rfl (fun h1 => ?_) (fun h1 => ?_)
  · skip
    have hk : k < xs.length := by have := of_decide_eq_true h1; omega
    have hdk := List.drop_eq_getElem_cons hk
    refine TR.openP (open_arr (oa := oa) (xs := ints xs) ha (ints_ne (by omega))) (fun pq hpq => ?_)
    refine TR.skip ?_
    refine NX.seq ?_
    refine TR.seq ?_
    refine TR.block ?_
    refine TR.seq ?_
    refine TR.region ?_
    refine RL.indexAddr rfl qh_tl90 qh_tz32 (congrArg (fun a => some (Value.slice a _ _)) hpq) rfl (by omega) (by omega) rfl ?_
    refine RL.loadF rfl rfl (fun w K hF => run_loadCell1 (j := ((k : Nat) : Int).toNat * 1) (v := I xs[k]) (hF (CellsF pq.1 pq.2 (ints xs)) (.head _)) qh_ts32 (by rw [Nat.mul_one, Int.toNat_natCast]; exact ints_get hk)) rfl ?_
    refine RL.assign rfl rfl rfl ?_
    refine RL.nil ?_
    refine NX.seq ?_
    refine TR.seq ?_
    refine TR.region ?_
    refine RL.move rfl rfl rfl ?_
    refine RL.move rfl rfl rfl ?_
    refine RL.callV (fst := []) (cap := []) rfl rfl rfl Try.call52 rfl (bad_spec (x := xs[k])) (fun _ => ?_)
    refine RL.nil ?_
    refine NX.seq ?_
    refine TR.cond rfl (fun h2 => ?_) (fun h2 => ?_)
    · skip
      have hz : ¬ xs[k] = 0 := of_decide_eq_true h2
      refine TR.seq ?_
      refine TR.region ?_
      refine RL.move rfl rfl rfl ?_
      refine RL.assign rfl rfl rfl ?_
      refine RL.nil ?_
      refine NX.seq ?_
      refine TR.ret ?_
      refine NX.retBlock ?_
      refine NX.retThen ?_
      refine NX.retThen ?_
      refine NX.retBlock ?_
      refine NX.retThen ?_
      exact NX.ret1 () rfl rfl (by rw [← hx.2, hdk, firstNZ, if_neg hz]) (fun w hw => (hw.to 0 [] 1 [] rfl))
    · skip
      have hz : xs[k] = 0 := by have := of_decide_eq_false h2; omega
      refine TR.skip ?_
      refine NX.off ?_
      refine NX.seq ?_
      refine TR.region ?_
      refine RL.bin rfl rfl rfl (BinV.add _ rfl (by omega) (by omega)) rfl ?_
      refine RL.move rfl rfl rfl ?_
      refine RL.nil ?_
      refine NX.roundP (k + 1) ⟨hk, by rw [← hx.2, hdk, firstNZ, if_pos hz]⟩ (by omega) ⟨rfl, rfl, rfl, rfl, rfl, trivial⟩ (fun w hw => (hw.to 0 [] 1 [] rfl))
  · skip
    have hk2 : k = xs.length := by have := of_decide_eq_false h1; have := hx.1; omega
    refine TR.exit ?_
    refine NX.exitThen ?_
    refine NX.exitThen ?_
    refine NX.exitHere ?_
    refine NX.seq ?_
    refine TR.seq ?_
    refine TR.region ?_
    refine RL.move rfl rfl rfl ?_
    refine RL.assign rfl rfl rfl ?_
    refine RL.nil ?_
    refine NX.seq ?_
    refine TR.ret ?_
    exact NX.ret1 () rfl rfl (by rw [← hx.2, hk2, List.drop_length]; rfl) (fun w hw => (hw.to 0 [] 0 [] rfl))
theorem bytes_spec {tx : List UInt8} {l : List PE} {oa : Option Addr} {ca : Nat} {M : List HP} {F : List Fact} (ha : ArrF oa (peC l) ∈ F) (hl : tx.length ≤ 1099511627776) (hll : l.length ≤ 4611686018427387904) : Ctr Try.prog 17 [S tx, .slice oa l.length ca] M F RdX (fun z => .tuple #[.slice z.oa (posM tx l).1.length z.c, I (posM tx l).2]) (fun _ => M) (fun z => ArrF z.oa (edC (posM tx l).1) :: F) := by
  refine Ctr.body Try.func17 rfl rfl ?_
  refine TR.seq ?_
  refine TR.region ?_
  refine RL.assign rfl rfl rfl ?_
  refine RL.assign rfl rfl rfl ?_
  refine RL.nil ?_
  refine NX.seq ?_
  refine TR.seq ?_
  refine TR.seq ?_
  refine TR.region ?_
  refine RL.move rfl rfl rfl ?_
  refine RL.lenSlice rfl qh_tl28 rfl rfl ?_
  refine RL.bin rfl rfl rfl BinV.gtr rfl ?_
  refine RL.nil ?_
  refine NX.seq ?_
  refine TR.cond rfl (fun h1 => ?_) (fun h1 => ?_)
  · skip
    have hbig : 64 < l.length := by have := of_decide_eq_true h1; omega
    refine TR.seq ?_
    refine TR.region ?_
    refine RL.assign rfl rfl rfl ?_
    refine RL.assign rfl rfl rfl ?_
    refine RL.nil ?_
    refine NX.seq ?_
    refine TR.ret ?_
    refine NX.retThen ?_
    have hpm : posM tx l = ([], 4) := if_pos hbig
    refine NX.ret2 (⟨none, 0⟩ : RdX) rfl rfl rfl (by rw [hpm]; rfl) (fun w hw => ?_)
    rw [hpm]
    exact ((hw.to 0 [] 0 [] rfl) : St w M F).arr0
  · skip
    have hbig : ¬ 64 < l.length := by have := of_decide_eq_false h1; omega
    refine TR.skip ?_
    refine NX.seq ?_
    refine TR.seq ?_
    refine TR.region ?_
    refine RL.assign rfl rfl rfl ?_
    refine RL.weak (fun w hw => OwnSl.nil_new 78 3 hw) ?_
    refine RL.nil ?_
    refine NX.seq ?_
    refine TR.seq ?_
    refine TR.seq ?_
    refine TR.region ?_
    refine RL.move rfl rfl rfl ?_
    refine RL.lenSlice rfl qh_tl28 rfl rfl ?_
    refine RL.move rfl rfl rfl ?_
    refine RL.nil ?_
    refine NX.seq ?_
    refine TR.block ?_
    refine TR.loopP (ι := PbX) (fun x => x.k ≤ l.length ∧ posGo tx (l.drop x.k) x.es = posGo tx l [] ∧ x.es.length = x.k) (fun x => [(0, S tx), (6, .slice x.oa x.es.length x.c), (17, .slice oa l.length ca), (18, I (l.length : Nat)), (19, I (x.k : Nat))]) (fun x => OwnSl 78 3 x.oa x.es.length x.c (edC x.es) :: M) (fun x => F) (fun x => l.length - x.k) ⟨0, [], none, 0⟩ ⟨Nat.zero_le _, rfl, rfl⟩ ⟨rfl, rfl, rfl, rfl, rfl, trivial⟩ (fun w hw => (hw.to 1 [0] 0 [] rfl)) (fun x hx => ?_)
    refine TR.seq ?_
    refine TR.region ?_
    refine RL.bin rfl rfl rfl BinV.lss rfl ?_
    refine RL.nil ?_
    refine NX.seq ?_
    refine TR.seq ?_
    refine TR.cond rfl (fun h2 => ?_) (fun h2 => ?_)
    · skip
      have hk : x.k < l.length := by have := of_decide_eq_true h2; omega
      have hdk := List.drop_eq_getElem_cons hk
      have ho1 := offM_in tx l[x.k].s
      have ho2 := offM_in tx l[x.k].e
      refine TR.openP (open_arr (oa := oa) (xs := peC l) ha (fun e => by have h8 := peC_length l; rw [e] at h8; simp at h8; omega)) (fun pq hpq => ?_)
      refine TR.skip ?_
      refine NX.seq ?_
      refine TR.seq ?_
      refine TR.block ?_
      refine TR.seq ?_
      refine TR.region ?_
      refine RL.indexAddr rfl qh_tl28 qh_tz63 (congrArg (fun a => some (Value.slice a _ _)) hpq) rfl (by omega) (by omega) rfl ?_
      refine RL.loadF rfl rfl (fun w K hF => run_pe (hF (CellsF pq.1 pq.2 (peC l)) (.head _)) qh_ta63 hk) rfl ?_
      refine RL.allocA rfl (Try.zeroValue63) rfl (fun b3 => ?_)
      refine RL.storeA 0 rfl rfl rfl rfl qh_tz63 rfl rfl ?_
      refine RL.nil ?_
      refine NX.seq ?_
      refine TR.seq ?_
      refine TR.region ?_
      refine RL.move rfl rfl rfl ?_
      refine RL.fieldAddr rfl qh_tf63_0 rfl rfl ?_
      refine RL.loadS rfl rfl (box_part (off := 0) (vs := l[x.k].s.c) (i := 0) rfl qh_ta61 (part2 rfl rfl)) rfl ?_
      refine RL.call rfl rfl Try.call50 rfl (offset_spec (q := l[x.k].s) hl) (fun _ => ?_)
      refine RL.move rfl rfl rfl ?_
      refine RL.extract rfl rfl rfl rfl ?_
      refine RL.extract rfl rfl rfl rfl ?_
      refine RL.assign rfl rfl rfl ?_
      refine RL.assign rfl rfl rfl ?_
      refine RL.nil ?_
      refine NX.seq ?_
      refine TR.seq ?_
      refine TR.region ?_
      refine RL.move rfl rfl rfl ?_
      refine RL.fieldAddr rfl qh_tf63_1 rfl rfl ?_
      refine RL.loadS rfl rfl (box_part (off := 2) (vs := l[x.k].e.c) (i := 0) rfl qh_ta61 (part2 rfl rfl)) rfl ?_
      refine RL.call rfl rfl Try.call50 rfl (offset_spec (q := l[x.k].e) hl) (fun _ => ?_)
      refine RL.move rfl rfl rfl ?_
      refine RL.extract rfl rfl rfl rfl ?_
      refine RL.extract rfl rfl rfl rfl ?_
      refine RL.assign rfl rfl rfl ?_
      refine RL.assign rfl rfl rfl ?_
      refine RL.nil ?_
      refine NX.seq ?_
      refine TR.seq ?_
      refine TR.seq ?_
      refine TR.region ?_
      refine RL.move rfl rfl rfl ?_
      refine RL.move rfl rfl rfl ?_
      refine RL.buildSlice rfl rfl (qh_bs90_2_0_1 _ _) rfl (fun b4 => ?_)
      refine RL.weak (fun w hw => St.boxArr (show St w (Box _ _ (ints [(offM tx l[x.k].s).2, (offM tx l[x.k].e).2]) :: _) _ from hw)) ?_
      refine RL.call rfl rfl Try.call51 rfl (first_spec (xs := [(offM tx l[x.k].s).2, (offM tx l[x.k].e).2]) (.head _) (by show 2 ≤ _; decide)) (fun _ => ?_)
      refine RL.assign rfl rfl rfl ?_
      refine RL.nil ?_
      refine NX.seq ?_
      refine TR.seq ?_
      refine TR.region ?_
      refine RL.move rfl rfl rfl ?_
      refine RL.bin rfl rfl rfl BinV.neq rfl ?_
      refine RL.nil ?_
      refine NX.seq ?_
      refine TR.cond rfl (fun h5 => ?_) (fun h5 => ?_)
      · skip
        have hnz : firstNZ [(offM tx l[x.k].s).2, (offM tx l[x.k].e).2] ≠ 0 := of_decide_eq_true h5
        refine TR.seq ?_
        refine TR.region ?_
        refine RL.move rfl rfl rfl ?_
        refine RL.assign rfl rfl rfl ?_
        refine RL.assign rfl rfl rfl ?_
        refine RL.nil ?_
        refine NX.seq ?_
        refine TR.ret ?_
        refine NX.retThen ?_
        refine NX.retBlock ?_
        refine NX.retThen ?_
        refine NX.retThen ?_
        refine NX.retBlock ?_
        refine NX.retThen ?_
        have hpm : posM tx l = ([], firstNZ [(offM tx l[x.k].s).2, (offM tx l[x.k].e).2]) := (if_neg hbig).trans (by rw [← hx.2.1, hdk, posGo_cons, if_pos hnz])
        refine NX.ret2 (⟨none, 0⟩ : RdX) rfl rfl rfl (by rw [hpm]; rfl) (fun w hw => ?_)
        rw [hpm]
        exact ((hw.to 2 [] 2 [] rfl) : St w M F).arr0
      · skip
        have hnz : ¬ firstNZ [(offM tx l[x.k].s).2, (offM tx l[x.k].e).2] ≠ 0 := of_decide_eq_false h5
        refine TR.skip ?_
        refine NX.seq ?_
        refine TR.seq ?_
        refine TR.seq ?_
        refine TR.region ?_
        refine RL.move rfl rfl rfl ?_
        refine RL.move rfl rfl rfl ?_
        refine RL.bin rfl rfl rfl BinV.lss rfl ?_
        refine RL.nil ?_
        refine NX.seq ?_
        refine TR.cond rfl (fun h6 => ?_) (fun h6 => ?_)
        · skip
          have hlt : (offM tx l[x.k].e).1 < (offM tx l[x.k].s).1 := of_decide_eq_true h6
          refine TR.seq ?_
          refine TR.region ?_
          refine RL.assign rfl rfl rfl ?_
          refine RL.assign rfl rfl rfl ?_
          refine RL.nil ?_
          refine NX.seq ?_
          refine TR.ret ?_
          refine NX.retThen ?_
          refine NX.retBlock ?_
          refine NX.retThen ?_
          refine NX.retThen ?_
          refine NX.retBlock ?_
          refine NX.retThen ?_
          have hpm : posM tx l = ([], 1) := (if_neg hbig).trans (by rw [← hx.2.1, hdk, posGo_cons, if_neg hnz, if_pos hlt])
          refine NX.ret2 (⟨none, 0⟩ : RdX) rfl rfl rfl (by rw [hpm]; rfl) (fun w hw => ?_)
          rw [hpm]
          exact ((hw.to 2 [] 2 [] rfl) : St w M F).arr0
        · skip
          have hlt : ¬ (offM tx l[x.k].e).1 < (offM tx l[x.k].s).1 := of_decide_eq_false h6
          refine TR.skip ?_
          refine NX.seq ?_
          refine TR.region ?_
          refine RL.move rfl rfl rfl ?_
          refine RL.move rfl rfl rfl ?_
          refine RL.move rfl rfl rfl ?_
          refine RL.fieldAddr rfl qh_tf63_2 rfl rfl ?_
          refine RL.load1 0 rfl qh_ts9 rfl rfl rfl rfl ?_
          refine RL.build rfl rfl (qh_bv78_0_1_2 _ _ _) rfl ?_
          refine RL.buildSlice rfl rfl (qh_bs26_1_0 _ _ _) rfl (fun b7 => ?_)
          refine RL.ofGV rfl rfl (GV.append (j := 2) qh_tl26 qh_ni26 qh_te78 rfl rfl rfl (src_box (i := 0) rfl rfl rfl) (by omega) (by omega)) (fun y => ?_)
          refine RL.assign rfl rfl rfl ?_
          refine RL.nil ?_
          refine NX.off ?_
          refine NX.seq ?_
          refine TR.region ?_
          refine RL.bin rfl rfl rfl (BinV.add _ rfl (by omega) (by omega)) rfl ?_
          refine RL.move rfl rfl rfl ?_
          refine RL.nil ?_
          refine NX.roundP ⟨x.k + 1, x.es ++ [⟨(offM tx l[x.k].s).1, (offM tx l[x.k].e).1, l[x.k].x⟩], y.1, y.2⟩ ⟨hk, by show posGo tx (l.drop (x.k + 1)) _ = _; rw [← hx.2.1, hdk, posGo_cons, if_neg hnz, if_neg hlt], by rw [List.length_append]; show x.es.length + 1 = x.k + 1; rw [hx.2.2]⟩ (by show _ - (x.k + 1) < _ - x.k; omega) ⟨rfl, ?_, rfl, rfl, rfl, trivial⟩ (fun w hw => ?_)
          · show some (Value.slice y.1 (x.es.length + 1) y.2) = some (Value.slice y.1 (x.es ++ [_]).length y.2)
            rw [List.length_append]; rfl
          · have h9 := (hw.to 3 [2] 2 [] rfl)
            show St w (OwnSl 78 3 y.1 (x.es ++ [_]).length y.2 (edC (x.es ++ [_])) :: M) _
            rw [List.length_append, edC_append]
            exact h9
    · skip
      have hk2 : x.k = l.length := by have := of_decide_eq_false h2; have := hx.1; omega
      refine TR.exit ?_
      refine NX.exitThen ?_
      refine NX.exitThen ?_
      refine NX.exitHere ?_
      refine NX.seq ?_
      refine TR.seq ?_
      refine TR.region ?_
      refine RL.move rfl rfl rfl ?_
      refine RL.assign rfl rfl rfl ?_
      refine RL.assign rfl rfl rfl ?_
      refine RL.nil ?_
      refine NX.seq ?_
      refine TR.ret ?_
      have hpm : posM tx l = (x.es, 0) := (if_neg hbig).trans (by rw [← hx.2.1, hk2, List.drop_length]; rfl)
      refine NX.ret2 (⟨x.oa, x.c⟩ : RdX) rfl rfl rfl (by rw [hpm]) (fun w hw => ?_)
      rw [hpm]
      exact ((hw.to 1 [0] 0 [] rfl) : St w _ _).keepSl
end Go.Proofs.Ytkdeopioelocnaa

namespace Go.GL
set_option linter.unusedVariables false
abbrev Hd := List (Int × List PE)
structure Hs where
  first : Int
  hist : List (List UInt8 × List Ed)
  held : Hd
def Hs.v (h : Hs) : Int := h.first + h.hist.length - 1
def Hs.tx (h : Hs) : List UInt8 := match h.hist.getLast? with | some p => p.1 | none => []
def hGet : Hd → Int → Option (List PE)
  | [], _ => none
  | p :: l, k => if p.1 = k then some p.2 else hGet l k
def hDel (l : Hd) (k : Int) : Hd := l.filter fun p => !decide (p.1 = k)
theorem hDel_le (l : Hd) (k : Int) : (hDel l k).length ≤ l.length := List.length_filter_le _ _
theorem hDel_lt : ∀ {l : Hd} {k : Int} {x : List PE}, hGet l k = some x → (hDel l k).length < l.length
  | [], k, x, h => by cases h
  | p :: l, k, x, h => by
    unfold hDel
    rw [List.filter_cons]
    by_cases e : p.1 = k
    · rw [if_neg (by simpa using e)]
      have := hDel_le l k
      unfold hDel at this
      rw [List.length_cons]; omega
    · rw [if_pos (by simpa using e), List.length_cons, List.length_cons]
      rw [hGet, if_neg e] at h
      have := hDel_lt h
      unfold hDel at this
      omega
def becH (h : Hs) (l : List Ed) : Int × Hs :=
  if soundE h.tx.length l ≠ 0 then (soundE h.tx.length l, h)
  else if 4096 < (applyGo h.tx 0 l).length then (4, h)
  else (0, { h with hist := h.hist ++ [(applyGo h.tx 0 l, l)] })
def appH (h : Hs) (l : List PE) : Int × Hs := if (posM h.tx l).2 ≠ 0 then ((posM h.tx l).2, h) else becH h (posM h.tx l).1
theorem becH_held (h : Hs) (l : List Ed) : (becH h l).2.held = h.held := by unfold becH; repeat' split
                                                                            all_goals rfl
theorem appH_held (h : Hs) (l : List PE) : (appH h l).2.held = h.held := by
  unfold appH; split
  · rfl
  · exact becH_held _ _
def drainH (n : Int) (h : Hs) : Int × Hs :=
  match hg : hGet h.held (h.v + 1) with
  | none => (n, h)
  | some l => if (appH { h with held := hDel h.held (h.v + 1) } l).1 = 0 then drainH (n + 1) (appH { h with held := hDel h.held (h.v + 1) } l).2 else (n, { h with held := hDel h.held (h.v + 1) })
termination_by h.held.length
decreasing_by rw [appH_held]; exact hDel_lt hg
theorem drainH_none {n : Int} {h : Hs} (e : hGet h.held (h.v + 1) = none) : drainH n h = (n, h) := by
  rw [drainH]; split
  · rfl
  · rename_i l hl; rw [e] at hl; cases hl
theorem drainH_some {n : Int} {h : Hs} {l : List PE} (e : hGet h.held (h.v + 1) = some l) : drainH n h = if (appH { h with held := hDel h.held (h.v + 1) } l).1 = 0 then drainH (n + 1) (appH { h with held := hDel h.held (h.v + 1) } l).2 else (n, { h with held := hDel h.held (h.v + 1) }) := by
  rw [drainH]; split
  · rename_i hl; rw [e] at hl; cases hl
  · rename_i l' hl
    rw [e] at hl
    cases hl
    rfl
def recvH (h : Hs) (ver : Int) (l : List PE) : (Int × Int) × Hs :=
  if ver < 1 ∨ 1099511627776 < ver then ((0, 1), h)
  else if 64 < l.length then ((0, 4), h)
  else if ver ≤ h.v ∨ (hGet h.held ver).isSome = true then ((0, 8), h)
  else if h.v + 1 < ver then
    if 16 ≤ h.held.length then ((0, 4), h) else ((0, 0), { h with held := h.held ++ [(ver, l)] })
  else if (appH h l).1 ≠ 0 then ((0, (appH h l).1), h)
  else (((drainH 1 (appH h l).2).1, 0), (drainH 1 (appH h l).2).2)
def editH (h : Hs) (l : List Ed) : (Int × Int) × Hs :=
  if 0 < h.held.length then ((0, 23), h)
  else if h.v = 1099511627776 then ((0, 5), h)
  else if (becH h l).1 ≠ 0 then ((0, (becH h l).1), h)
  else (((becH h l).2.v, 0), (becH h l).2)
def idxH (h : Hs) (ver : Int) : Option Nat := if ver ≤ h.v ∧ h.v - 16 ≤ ver ∧ h.first ≤ ver then some (ver - h.first).toNat else none
structure HsOk (h : Hs) : Prop where
  f0 : 0 ≤ h.first
  ne : h.hist ≠ []
  v1 : h.v ≤ 1099511627776
  txt : ∀ p, p ∈ h.hist → p.1.length ≤ 4096 ∧ p.2.length ≤ 64 ∧ txs p.2 ≤ 4096
  keys : (h.held.map Prod.fst).Nodup
  rng : ∀ p, p ∈ h.held → 1 ≤ p.1 ∧ p.1 ≤ 1099511627776 ∧ p.2.length ≤ 64 ∧ txsP p.2 ≤ 1099511627776
  few : h.held.length ≤ 16
theorem Hs.tx_mem {h : Hs} (hn : h.hist ≠ []) : ∃ e, (h.tx, e) ∈ h.hist := by
  unfold Hs.tx
  rw [List.getLast?_eq_some_getLast hn]
  exact ⟨_, List.getLast_mem hn⟩
theorem HsOk.tx {h : Hs} (ok : HsOk h) : h.tx.length ≤ 4096 := by
  obtain ⟨e, he⟩ := Hs.tx_mem ok.ne
  exact (ok.txt _ he).1
theorem HsOk.v0 {h : Hs} (ok : HsOk h) : 0 ≤ h.v := by
  have h1 := ok.f0
  have h2 : 0 < h.hist.length := List.length_pos_iff.2 ok.ne
  unfold Hs.v; omega
theorem becH_ok {h : Hs} {l : List Ed} (ok : HsOk h) (hv : h.v < 1099511627776) : HsOk (becH h l).2 ∧ ((becH h l).1 = 0 → (becH h l).2.v = h.v + 1 ∧ (becH h l).2.tx = applyGo h.tx 0 l ∧ (becH h l).2.first = h.first) ∧ ((becH h l).1 ≠ 0 → (becH h l).2 = h) := by
  unfold becH
  split
  · rename_i h1; exact ⟨ok, fun e => absurd e h1, fun _ => rfl⟩
  · rename_i h1
    split
    · exact ⟨ok, fun e => absurd (show (4 : Int) = 0 from e) (by decide), fun _ => rfl⟩
    · rename_i h2
      have hs : soundE h.tx.length l = 0 := Decidable.not_not.1 h1
      have h3 := (apply_sum (s := h.tx) (q := 0) (Nat.zero_le _) (soundE_sound1 hs)).2
      have h4 : l.length ≤ 64 := by
        unfold soundE at hs
        split at hs
        · exact absurd hs (by decide)
        · omega
      have hvv : ({ h with hist := h.hist ++ [(applyGo h.tx 0 l, l)] } : Hs).v = h.v + 1 := by
        show h.first + ((h.hist ++ [_]).length : Int) - 1 = h.first + h.hist.length - 1 + 1
        rw [List.length_append, List.length_singleton]; omega
      refine ⟨⟨ok.f0, by simp, by rw [hvv]; omega, fun p hp => ?_, ok.keys, ok.rng, ok.few⟩, fun _ => ⟨hvv, by unfold Hs.tx; simp, rfl⟩, fun e => absurd rfl e⟩
      rcases List.mem_append.1 hp with hp | hp
      · exact ok.txt p hp
      · rw [List.mem_singleton.1 hp]
        exact ⟨by show (applyGo h.tx 0 l).length ≤ 4096; omega, h4, by show txs l ≤ 4096; omega⟩
theorem appH_ok {h : Hs} {l : List PE} (ok : HsOk h) (hv : h.v < 1099511627776) : HsOk (appH h l).2 ∧ ((appH h l).1 = 0 → (appH h l).2.v = h.v + 1 ∧ (appH h l).2.first = h.first) ∧ ((appH h l).1 ≠ 0 → (appH h l).2 = h) := by
  unfold appH
  split
  · rename_i h1; exact ⟨ok, fun e => absurd e h1, fun _ => rfl⟩
  · obtain ⟨h1, h2, h3⟩ := becH_ok (l := (posM h.tx l).1) ok hv
    exact ⟨h1, fun e => ⟨(h2 e).1, (h2 e).2.2⟩, h3⟩
theorem HsOk.del {h : Hs} (ok : HsOk h) (k : Int) : HsOk { h with held := hDel h.held k } :=
  ⟨ok.f0, ok.ne, ok.v1, ok.txt, ok.keys.sublist (List.filter_sublist.map _), fun p hp => ok.rng p (List.mem_filter.1 hp).1, Nat.le_trans (hDel_le _ _) ok.few⟩
theorem hGet_mem : ∀ {l : Hd} {k : Int} {x : List PE}, hGet l k = some x → (k, x) ∈ l
  | [], _, _, h => by cases h
  | p :: l, k, x, h => by
    rw [hGet] at h
    split at h
    · rename_i e; cases h; subst e; exact .head _
    · exact .tail _ (hGet_mem h)
theorem hGet_none : ∀ {l : Hd} {k : Int}, hGet l k = none → ∀ p, p ∈ l → p.1 ≠ k
  | [], _, _, p, hp => absurd hp (by simp)
  | q :: l, k, h, p, hp => by
    rw [hGet] at h
    split at h
    · cases h
    · rename_i e
      rcases List.mem_cons.1 hp with rfl | hp
      · exact e
      · exact hGet_none h p hp
theorem HsOk.add {h : Hs} (ok : HsOk h) {k : Int} {l : List PE} (h0 : 1 ≤ k) (h1 : k ≤ 1099511627776) (hl : l.length ≤ 64) (ht : txsP l ≤ 1099511627776) (hg : hGet h.held k = none) (hf : h.held.length < 16) : HsOk { h with held := h.held ++ [(k, l)] } := by
  refine ⟨ok.f0, ok.ne, ok.v1, ok.txt, ?_, fun p hp => ?_, ?_⟩
  · show ((h.held ++ [(k, l)]).map Prod.fst).Nodup
    rw [List.map_append, List.nodup_append]
    refine ⟨ok.keys, by simp, fun a ha b hb => ?_⟩
    obtain ⟨p, hp, rfl⟩ := List.mem_map.1 ha
    simp at hb
    subst hb
    exact hGet_none hg p hp
  · rcases List.mem_append.1 hp with hp | hp
    · exact ok.rng p hp
    · rw [List.mem_singleton.1 hp]; exact ⟨h0, h1, hl, ht⟩
  · show (h.held ++ [(k, l)]).length ≤ 16
    rw [List.length_append, List.length_singleton]; omega
theorem drainH_ok : ∀ (m : Nat) {n : Int} {h : Hs}, h.held.length ≤ m → HsOk h → HsOk (drainH n h).2 := by
  intro m
  induction m with
  | zero =>
    intro n h hm ok
    have e : h.held = [] := List.eq_nil_of_length_eq_zero (by omega)
    rw [drainH_none (by rw [e]; rfl)]; exact ok
  | succ m ih =>
    intro n h hm ok
    cases hg : hGet h.held (h.v + 1) with
    | none => rw [drainH_none hg]; exact ok
    | some l =>
      rw [drainH_some hg]
      have hlt := hDel_lt hg
      have hv : h.v < 1099511627776 := by have := (ok.rng _ (hGet_mem hg)).2.1; show h.v < _; have h9 : h.v + 1 ≤ 1099511627776 := this; omega
      split
      · exact ih (by rw [appH_held]; show (hDel h.held (h.v + 1)).length ≤ m; omega) (appH_ok (ok.del _) hv).1
      · exact ok.del _
theorem recvH_ok {h : Hs} {ver : Int} {l : List PE} (ok : HsOk h) (ht : txsP l ≤ 1099511627776) : HsOk (recvH h ver l).2 := by
  unfold recvH
  split
  · exact ok
  · rename_i h1
    split
    · exact ok
    · rename_i h2
      split
      · exact ok
      · rename_i h3
        split
        · split
          · exact ok
          · refine ok.add (by omega) (by omega) (by omega) ht ?_ (by omega)
            cases hg : hGet h.held ver with
            | none => rfl
            | some x => exact absurd (.inr (by rw [hg]; rfl)) h3
        · split
          · exact ok
          · exact drainH_ok _ (Nat.le_refl _) (appH_ok ok (by omega)).1
end Go.GL
