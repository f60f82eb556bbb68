/- Walks of the functions of package syntax and of its reference model. Printed by s07.py. -/
import Derived.Test.YtnolpmigiboanaaSml
import Derived.Test.YtnolpmigiboanaaT2
namespace Go.Proofs.Ytnolpmigiboanaa
open Go.GL Go.GL.Tree
theorem c_bs22_1_0 (x0 : Int) : BuildSV Try.prog 22 3 1 [(0, .int .i64 x0)] [.int .i64 x0] := fun w => by kernel_rfl
theorem c_ni22 : noInt Try.prog 22 = true := by kernel_rfl
theorem c_ta25 : tyAgg Try.prog 25 4 = true := by kernel_rfl
theorem c_te3 : tyElem Try.prog 3 1 8 = true := by kernel_rfl
theorem c_tf25_3 : fieldOff Try.prog 25 3 3 = true := by kernel_rfl
theorem c_tl22 : tySlice Try.prog 22 3 = true := by kernel_rfl
theorem c_tl23 : tySlice Try.prog 23 25 = true := by kernel_rfl
theorem c_ts23 : tyScalar Try.prog 23 = true := by kernel_rfl
theorem c_tz25 : tySize Try.prog 25 4 = true := by kernel_rfl
structure PX where
  u : Tree
  a : Option Addr
  len : Nat
  cap : Nat
  o : Nat
  e : Nat
  ps : List Int
  oa : Option Addr
  oc : Nat
structure IX where
  i : Nat
  k : Tree

theorem path_spec {t : Tree} {a : Option Addr} {len cap : Nat} {M : List HP} {F : List Fact} {d : Nat} (hs : Small d t) (hd : d ≤ 8) (ht : TreeF t (nodeV t a len cap) ∈ F) {o : Int} : Ctr Try.prog 21 [nodeV t a len cap, I o] M F (Option Addr × Nat) (fun i => .tuple #[.slice i.1 (pathL t o).length i.2, .bool (pathOk t o)]) (fun _ => M) (fun i => ArrF i.1 (ints (pathL t o)) :: F) := by
  refine Ctr.body Try.func21 rfl rfl ?_
  refine TR.seq ?_
  refine TR.region ?_
  refine RL.boxA rfl rfl rfl (fun b1 => ?_)
  refine RL.assign rfl rfl rfl ?_
  refine RL.assign rfl rfl rfl ?_
  refine RL.nil ?_
  refine NX.seq ?_
  refine TR.seq ?_
  refine TR.seq ?_
  refine TR.region ?_
  refine RL.move rfl rfl rfl ?_
  refine RL.bin rfl rfl rfl BinV.lss rfl ?_
  refine RL.move rfl rfl rfl ?_
  refine RL.part (fun h2 => ?_) (fun h2 => ?_)
  · skip
    have hout : ¬ (0 ≤ o ∧ o < t.width) := by have := of_decide_eq_true h2; omega
    refine RL.skip rfl rfl rfl ?_
    refine RL.skip rfl rfl rfl ?_
    refine RL.skip rfl rfl rfl ?_
    refine RL.skip rfl rfl rfl ?_
    refine RL.pickT rfl rfl rfl rfl ?_
    refine RL.nil ?_
    refine NX.seq ?_
    refine TR.condT rfl ?_
    refine TR.seq ?_
    refine TR.region ?_
    refine RL.assign rfl rfl rfl ?_
    refine RL.assign rfl rfl rfl ?_
    refine RL.nil ?_
    refine NX.seq ?_
    refine TR.ret ?_
    refine NX.retThen ?_
    refine NX.ret2x rfl rfl rfl (fun w hw => ⟨(none, 0), ?_, ?_⟩)
    · rw [(pathL_out hout).1, (pathL_out hout).2]; rfl
    · rw [(pathL_out hout).1]
      exact (hw.tail).arr0
  · skip
    have hp1 := of_decide_eq_false h2
    refine RL.move rfl rfl rfl ?_
    refine RL.loadA 0 rfl rfl rfl c_ta25 rfl ?_
    refine RL.call rfl rfl Try.call23 rfl (width_spec ht (by have := hs.width6 hd; omega)) (fun _ => ?_)
    refine RL.bin rfl rfl rfl BinV.geq rfl ?_
    refine RL.pickF rfl rfl rfl rfl ?_
    refine RL.nil ?_
    refine NX.seq ?_
    refine TR.cond rfl (fun h3 => ?_) (fun h3 => ?_)
    · skip
      have hout : ¬ (0 ≤ o ∧ o < t.width) := by have := of_decide_eq_true h3; omega
      refine TR.seq ?_
      refine TR.region ?_
      refine RL.assign rfl rfl rfl ?_
      refine RL.assign rfl rfl rfl ?_
      refine RL.nil ?_
      refine NX.seq ?_
      refine TR.ret ?_
      refine NX.retThen ?_
      refine NX.ret2x rfl rfl rfl (fun w hw => ⟨(none, 0), ?_, ?_⟩)
      · rw [(pathL_out hout).1, (pathL_out hout).2]; rfl
      · rw [(pathL_out hout).1]
        exact (hw.tail).arr0
    · skip
      have hin : 0 ≤ o ∧ o < t.width := by have := of_decide_eq_false h3; omega
      obtain ⟨n, rfl⟩ := Int.eq_ofNat_of_zero_le hin.1
      have hn : n < t.width := by omega
      refine TR.skip ?_
      refine NX.seq ?_
      refine TR.seq ?_
      refine TR.region ?_
      refine RL.assign rfl rfl rfl ?_
      refine RL.nil ?_
      refine NX.seq ?_
      refine TR.seq ?_
      refine TR.block ?_
      refine TR.loopP (ι := PX) (fun x => Small x.e x.u ∧ x.e ≤ d ∧ x.o < x.u.width ∧ x.ps ++ x.u.path x.o = t.path n ∧ x.ps.length + x.e ≤ 8) (fun x => [(1, I x.o), (2, .pointer (some ⟨b1, 0, none⟩)), (4, .slice none 0 0), (5, .bool false), (6, .slice x.oa x.ps.length x.oc)]) (fun x => OwnSl 3 1 x.oa x.ps.length x.oc (ints x.ps) :: Box b1 25 (nodeC x.u x.a x.len x.cap) :: M) (fun x => TreeF x.u (nodeV x.u x.a x.len x.cap) :: F) (fun x => x.e) ⟨t, a, len, cap, n, d, [], none, 0⟩ ⟨hs, Nat.le_refl _, hn, rfl, by simpa using hd⟩ ⟨rfl, rfl, rfl, rfl, rfl, trivial⟩ (fun w hw => OwnSl.nil_new 3 1 (hw.addFact (TreeF t (nodeV t a len cap)) (fun K hf => hf _ ht))) (fun x hx => ?_)
      refine TR.seq ?_
      refine TR.seq ?_
      refine TR.region ?_
      refine RL.loadA 1 rfl rfl rfl c_ta25 rfl ?_
      refine RL.call rfl rfl Try.call53 rfl (leaf_spec x.u.id x.u.kind x.u.txt x.a x.len x.cap _ _) (fun _ => ?_)
      refine RL.not rfl rfl rfl ?_
      refine RL.nil ?_
      refine NX.seq ?_
      refine TR.cond rfl (fun h4 => ?_) (fun h4 => ?_)
      · skip
        have hl : x.u.isLeaf = false := by have h9 : (!x.u.isLeaf) = true := h4; simpa using h9
        have hle : x.e ≤ 8 := by omega
        have hlen0 : 0 < x.u.kids.length := by
          rcases Nat.eq_zero_or_pos x.u.kids.length with h0 | h0
          · have h7 := hx.2.2.1
            rw [Tree.width, inner_text hl, List.eq_nil_of_length_eq_zero h0] at h7
            simp at h7
          · exact h0
        obtain ⟨k0, hk0⟩ : ∃ k0, x.u.kids[0]? = some k0 := ⟨_, List.getElem?_eq_getElem hlen0⟩
        refine TR.open1 (open_node (.head _)) (fun hlen => ?_)
        refine TR.openP (open_kid (.head _) hk0) (fun w1 hw1 => ?_)
        refine TR.skip ?_
        refine NX.seq ?_
        refine TR.block ?_
        refine TR.seq ?_
        refine TR.region ?_
        refine RL.assign rfl rfl rfl ?_
        refine RL.nil ?_
        refine NX.seq ?_
        refine TR.seq ?_
        refine TR.seq ?_
        refine TR.region ?_
        refine RL.fieldAddr rfl c_tf25_3 rfl rfl ?_
        refine RL.load1 1 rfl c_ts23 rfl rfl rfl rfl ?_
        refine RL.move rfl rfl rfl ?_
        refine RL.indexAddr rfl c_tl23 c_tz25 (congrArg (fun a => some (Value.slice a _ _)) hw1) rfl (by omega) (by omega) rfl ?_
        refine RL.loadF rfl rfl (fun w K hF => run_loadCellsAt (hF _ (.head _)) c_ta25) rfl ?_
        refine RL.call rfl rfl Try.call23 rfl (width_spec (.tail _ (.head _)) (by have := (hx.1.kid_any (List.mem_of_getElem? hk0)).width6 (by omega); omega)) (fun _ => ?_)
        refine RL.assign rfl rfl rfl ?_
        refine RL.nil ?_
        refine NX.seq ?_
        refine TR.block ?_
        refine TR.loopP (ι := IX) (fun y => x.u.kids[y.i]? = some y.k ∧ ((x.u.kids.take y.i).flatMap text).length ≤ x.o ∧ pathAll y.i (x.u.kids.drop y.i) (x.o - ((x.u.kids.take y.i).flatMap text).length) = x.u.path x.o) (fun y => [(1, I (x.o - ((x.u.kids.take y.i).flatMap text).length : Int)), (2, .pointer (some ⟨b1, 0, none⟩)), (4, .slice none 0 0), (5, .bool false), (6, .slice x.oa x.ps.length x.oc), (7, I y.i), (8, I y.k.width)]) (fun y => OwnSl 3 1 x.oa x.ps.length x.oc (ints x.ps) :: Box b1 25 (nodeC x.u x.a x.len x.cap) :: M) (fun y => KidsOF x.a x.u.kids :: TreeF x.u (nodeV x.u x.a x.len x.cap) :: F) (fun y => x.u.kids.length - y.i) ⟨0, k0⟩ ⟨hk0, Nat.zero_le _, (path_inner hl).symm⟩ ⟨congrArg (fun z => some (I z)) (by simp), rfl, rfl, rfl, rfl, rfl, rfl, trivial⟩ (fun w hw => hw.facts (F' := KidsOF x.a x.u.kids :: _) (fun φ h => .tail _ (.tail _ h))) (fun y hy => ?_)
        refine TR.seq ?_
        refine TR.seq ?_
        refine TR.region ?_
        refine RL.move rfl rfl rfl ?_
        refine RL.move rfl rfl rfl ?_
        refine RL.bin rfl rfl rfl BinV.geq rfl ?_
        refine RL.nil ?_
        refine NX.seq ?_
        refine TR.cond rfl (fun h5 => ?_) (fun h5 => ?_)
        · skip
          have hge0 := of_decide_eq_true h5
          have hlt := (List.getElem?_eq_some_iff.1 hy.1).1
          have hge : x.u.kids[y.i] = y.k := (List.getElem?_eq_some_iff.1 hy.1).2
          have hb := kid_bounds' hx.1 hle hl hlt
          rw [hge] at hb
          have hlt1 : y.i + 1 < x.u.kids.length := by
            rcases Nat.lt_or_ge (y.i + 1) x.u.kids.length with h0 | h0
            · exact h0
            · have h7 := hx.2.2.1
              have h8 : x.u.width = ((x.u.kids.take (y.i + 1)).flatMap text).length := by rw [Tree.width, inner_text hl, List.take_of_length_le h0]
              omega
          obtain ⟨k1, hk0⟩ : ∃ k1, x.u.kids[y.i + 1]? = some k1 := ⟨_, List.getElem?_eq_getElem hlt1⟩
          refine TR.openP (open_kid (.head _) hk0) (fun w2 hw2 => ?_)
          refine TR.skip ?_
          refine NX.seq ?_
          refine TR.seq ?_
          refine TR.block ?_
          refine TR.seq ?_
          refine TR.region ?_
          refine RL.move rfl rfl rfl ?_
          refine RL.move rfl rfl rfl ?_
          refine RL.bin rfl rfl rfl (BinV.sub _ rfl (by omega) (by omega)) rfl ?_
          refine RL.assign rfl rfl rfl ?_
          refine RL.nil ?_
          refine NX.seq ?_
          refine TR.region ?_
          refine RL.move rfl rfl rfl ?_
          refine RL.bin rfl rfl rfl (BinV.add _ rfl (by omega) (by omega)) rfl ?_
          refine RL.assign rfl rfl rfl ?_
          refine RL.nil ?_
          refine NX.off ?_
          refine NX.seq ?_
          refine TR.region ?_
          refine RL.fieldAddr rfl c_tf25_3 rfl rfl ?_
          refine RL.load1 1 rfl c_ts23 rfl rfl rfl rfl ?_
          refine RL.move rfl rfl rfl ?_
          refine RL.indexAddr rfl c_tl23 c_tz25 (congrArg (fun a => some (Value.slice a _ _)) hw2) rfl (by omega) (by omega) rfl ?_
          refine RL.loadF rfl rfl (fun w K hF => run_loadCellsAt (hF _ (.head _)) c_ta25) rfl ?_
          refine RL.call rfl rfl Try.call23 rfl (width_spec (.tail _ (.head _)) (by have := (hx.1.kid_any (List.mem_of_getElem? hk0)).width6 (by omega); omega)) (fun _ => ?_)
          refine RL.assign rfl rfl rfl ?_
          refine RL.nil ?_
          refine NX.roundP ⟨y.i + 1, k1⟩ ⟨hk0, ?_, ?_⟩ (by show _ - (y.i + 1) < _ - y.i; omega) ⟨congrArg (fun z => some (I z)) ?_, rfl, rfl, rfl, rfl, rfl, rfl, trivial⟩ (fun w hw => hw.facts (F' := KidsOF x.a x.u.kids :: _) (fun φ h => .tail _ (.tail _ h)))
          · show ((x.u.kids.take (y.i + 1)).flatMap text).length ≤ x.o; omega
          · have h9 := hy.2.2
            rw [pathAll_out hlt (by rw [hge]; omega), hge, Nat.sub_sub, hb.1] at h9
            exact h9
          · show (_ : Int) = x.o - ((x.u.kids.take (y.i + 1)).flatMap text).length; rw [← hb.1]; simp; omega
        · skip
          have hge0 := of_decide_eq_false h5
          have hlt := (List.getElem?_eq_some_iff.1 hy.1).1
          refine TR.openP (open_kid (.head _) hy.1) (fun w2 hw2 => ?_)
          refine TR.exit ?_
          refine NX.exitThen ?_
          refine NX.exitThen ?_
          refine NX.exitHere ?_
          refine NX.seq ?_
          refine TR.seq ?_
          refine TR.region ?_
          refine RL.move rfl rfl rfl ?_
          refine RL.move rfl rfl rfl ?_
          refine RL.buildSlice rfl rfl (c_bs22_1_0 _) rfl (fun b6 => ?_)
          refine RL.ofGV rfl rfl (GV.append (j := 1) c_tl22 c_ni22 c_te3 rfl rfl rfl (src_box (i := 0) rfl rfl rfl) (by omega) (by omega)) (fun v => ?_)
          refine RL.assign rfl rfl rfl ?_
          refine RL.nil ?_
          refine NX.seq ?_
          refine TR.region ?_
          refine RL.fieldAddr rfl c_tf25_3 rfl rfl ?_
          refine RL.load1 2 rfl c_ts23 rfl rfl rfl rfl ?_
          refine RL.move rfl rfl rfl ?_
          refine RL.indexAddr rfl c_tl23 c_tz25 (congrArg (fun a => some (Value.slice a _ _)) hw2) rfl (by omega) (by omega) rfl ?_
          refine RL.loadF rfl rfl (fun w K hF => run_loadCellsAt (hF _ (.head _)) c_ta25) rfl ?_
          refine RL.storeA 2 rfl rfl rfl rfl c_tz25 rfl rfl ?_
          refine RL.nil ?_
          refine NX.off ?_
          obtain ⟨e0, he0⟩ : ∃ e0, x.e = e0 + 1 := by
            cases hee : x.e with
            | zero => rw [hee] at hx; exact hx.1.elim
            | succ e0 => exact ⟨e0, rfl⟩
          refine NX.roundP ⟨y.k, w2.a, w2.len, w2.cap, x.o - ((x.u.kids.take y.i).flatMap text).length, e0, x.ps ++ [(y.i : Int)], v.1, v.2⟩ ⟨?_, ?_, ?_, ?_, ?_⟩ (by show e0 < x.e; omega) ?_ (fun w hw => ?_)
          · have := hx.1; rw [he0] at this; exact this.kid (List.mem_of_getElem? hy.1)
          · show e0 ≤ d; omega
          · show x.o - ((x.u.kids.take y.i).flatMap text).length < y.k.width; omega
          · have h9 := hy.2.2
            have hlt := (List.getElem?_eq_some_iff.1 hy.1).1
            have hge : x.u.kids[y.i] = y.k := (List.getElem?_eq_some_iff.1 hy.1).2
            rw [pathAll_in hlt (by rw [hge]; omega), hge] at h9
            show (x.ps ++ [_]) ++ _ = _
            rw [List.append_assoc, List.singleton_append, h9]; exact hx.2.2.2.1
          · show (x.ps ++ [_]).length + e0 ≤ 8; rw [List.length_append]; simp; omega
          · refine ⟨congrArg (fun z => some (I z)) (show (x.o : Int) - ((x.u.kids.take y.i).flatMap text).length = ((x.o - ((x.u.kids.take y.i).flatMap text).length : Nat) : Int) by omega), rfl, rfl, rfl, congrArg (fun z => some (Value.slice _ z _)) (by simp), trivial⟩
          · have h9 := (hw.drop 0 rfl).facts (F' := TreeF y.k (nodeV y.k w2.a w2.len w2.cap) :: F) (fun φ h => by
              rcases List.mem_cons.1 h with e | e
              · subst e; simp
              · simp [e])
            show St w (OwnSl 3 1 v.1 (x.ps ++ [_]).length v.2 (ints (x.ps ++ [_])) :: _) _
            rw [List.length_append, show ints (x.ps ++ [(y.i : Int)]) = ints x.ps ++ [I y.i] from by simp]
            exact h9
      · skip
        have hl : x.u.isLeaf = true := by have h9 : (!x.u.isLeaf) = false := h4; simpa using h9
        refine TR.exit ?_
        refine NX.exitThen ?_
        refine NX.exitThen ?_
        refine NX.exitHere ?_
        refine NX.seq ?_
        refine TR.seq ?_
        refine TR.region ?_
        refine RL.move rfl rfl rfl ?_
        refine RL.assign rfl rfl rfl ?_
        refine RL.assign rfl rfl rfl ?_
        refine RL.nil ?_
        refine NX.seq ?_
        refine TR.ret ?_
        have h9 : t.pathL (n : Int) = x.ps := by
          rw [(pathL_in hin).1, Int.toNat_natCast, ← hx.2.2.2.1, path_leaf hl, List.append_nil]
        refine NX.ret2x rfl rfl rfl (fun w hw => ⟨(x.oa, x.oc), ?_, ?_⟩)
        · rw [h9, (pathL_in hin).2]
        · rw [h9]
          exact (hw.facts (F' := F) (fun φ h => .tail _ h)).keepSl.tail

end Go.Proofs.Ytnolpmigiboanaa
