/- Walks of the functions of package syntax and of its reference model. Printed by s07.py. -/
import Derived.Test.YtnolpmigiboanaaSm3
import Derived.Test.YtnolpmigiboanaaTg
namespace Go.Proofs.Ytnolpmigiboanaa
open Go.GL Go.GL.Tree
theorem r_ta25 : tyAgg Try.prog 25 4 = true := by kernel_rfl
theorem r_tf25_1 : fieldOff Try.prog 25 1 1 = true := by kernel_rfl
theorem r_tf25_2 : fieldOff Try.prog 25 2 2 = true := by kernel_rfl
theorem r_tf25_3 : fieldOff Try.prog 25 3 3 = true := by kernel_rfl
theorem r_tf41_1 : fieldOff Try.prog 41 1 1 = true := by kernel_rfl
theorem r_tf41_2 : fieldOff Try.prog 41 2 2 = true := by kernel_rfl
theorem r_tl23 : tySlice Try.prog 23 25 = true := by kernel_rfl
theorem r_tl38 : tySlice Try.prog 38 41 = true := by kernel_rfl
theorem r_ts23 : tyScalar Try.prog 23 = true := by kernel_rfl
theorem r_ts3 : tyScalar Try.prog 3 = true := by kernel_rfl
theorem r_ts9 : tyScalar Try.prog 9 = true := by kernel_rfl
theorem r_tstr9 : tyStr Try.prog 9 = true := by kernel_rfl
theorem r_tz25 : tySize Try.prog 25 4 = true := by kernel_rfl
theorem r_tz41 : tySize Try.prog 41 3 = true := by kernel_rfl
theorem get_at {t : Tree} {a : Option Addr} {len cap : Nat} {M : List HP} {F : List Fact} {d : Nat} (hs : Small d t) (hd : d ≤ 6) (ht : TreeF t (nodeV t a len cap) ∈ F) {ps : List Int} {oa : Option Addr} {ca : Nat} (ha : ArrF oa (ints ps) ∈ F) {kk : Tree} {q : Int} (hg : t.getR ps = (kk, q, true)) (hps : ps.length ≤ 4611686018427387904) :
    Ctr Try.prog 22 [nodeV t a len cap, .slice oa ps.length ca] M F {x : TX // x.t = kk} (fun x => .tuple #[x.1.v, I q, .bool true]) (fun _ => M) (fun x => TreeF x.1.t x.1.v :: F) := by
  have h := get_spec (M := M) (ca := ca) hs hd ht ha hps
  rw [hg] at h
  exact h

theorem law_covers {xs : List Int} {oa : Option Addr} {ca : Nat} {M : List HP} {F : List Fact} (ha : ArrF oa (ints xs) ∈ F) (hxs : IntsOk xs) : Ctr Try.prog 6 [.slice oa xs.length ca] M F Unit (fun _ => .bool true) (fun _ => M) (fun _ => F) := by
  refine Ctr.body Try.func6 rfl rfl ?_
  refine TR.seq ?_
  refine TR.region ?_
  refine RL.assign rfl rfl rfl ?_
  refine RL.nil ?_
  refine NX.seq ?_
  refine TR.seq ?_
  refine TR.region ?_
  refine RL.move rfl rfl rfl ?_
  refine RL.call rfl rfl Try.call12 rfl (Tree_spec ha hxs) (fun n => ?_)
  refine RL.allocA rfl (Try.zeroValue25) rfl (fun b1 => ?_)
  refine RL.storeA 0 rfl rfl rfl rfl r_tz25 rfl rfl ?_
  refine RL.nil ?_
  refine NX.seq ?_
  refine TR.seq ?_
  refine TR.region ?_
  refine RL.loadA 0 rfl rfl rfl r_ta25 rfl ?_
  refine RL.call rfl rfl Try.call19 rfl (text_spec (.head _) (by have := n.2.width6 (by omega); omega)) (fun _ => ?_)
  refine RL.assign rfl rfl rfl ?_
  refine RL.nil ?_
  refine NX.seq ?_
  refine TR.seq ?_
  refine TR.region ?_
  refine RL.loadA 0 rfl rfl rfl r_ta25 rfl ?_
  refine RL.call rfl rfl Try.call20 rfl (leavesS_spec n.2 (by omega) (.head _)) (fun z => ?_)
  refine RL.assign rfl rfl rfl ?_
  refine RL.nil ?_
  refine NX.seq ?_
  refine TR.seq ?_
  refine TR.region ?_
  refine RL.assign rfl rfl rfl ?_
  refine RL.nil ?_
  refine NX.seq ?_
  refine TR.seq ?_
  refine TR.seq ?_
  refine TR.region ?_
  refine RL.assign rfl rfl rfl ?_
  refine RL.nil ?_
  refine NX.seq ?_
  refine TR.block ?_
  refine TR.loopP (ι := Nat) (fun k => k ≤ n.1.t.lv.length) (fun k => [(2, .bool false), (3, .pointer (some ⟨b1, 0, none⟩)), (4, S n.1.t.text), (5, .slice z.1 n.1.t.lv.length z.2), (6, S ((n.1.t.lv.take k).flatMap Tree.txt)), (7, I k)]) (fun _ => Box b1 25 n.1.c :: M) (fun _ => ArrF z.1 (toks 0 n.1.t.lv) :: TreeF n.1.t n.1.v :: F) (fun k => n.1.t.lv.length - k) 0 (Nat.zero_le _) ⟨rfl, rfl, rfl, rfl, rfl, rfl, trivial⟩ (fun w hw => hw) (fun k hk => ?_)
  refine TR.seq ?_
  refine TR.seq ?_
  refine TR.region ?_
  refine RL.move rfl rfl rfl ?_
  refine RL.move rfl rfl rfl ?_
  refine RL.lenSlice rfl r_tl38 rfl rfl ?_
  refine RL.bin rfl rfl rfl BinV.lss rfl ?_
  refine RL.nil ?_
  refine NX.seq ?_
  refine TR.cond rfl (fun h2 => ?_) (fun h2 => ?_)
  · skip
    have hk1 : k < n.1.t.lv.length := by have := of_decide_eq_true h2; omega
    have hw1 := n.2.width6 (by omega)
    have hw2 := take_flat_le Tree.txt n.1.t.lv (k + 1)
    rw [take_flat hk1, List.length_append, ← text_lv] at hw2
    have hw3 : n.1.t.width = n.1.t.text.length := rfl
    have hw4 := lv_le n.1.t
    have hw5 := n.2.count6 (by omega)
    refine TR.openP (open_arr (.head _) (toks_ne (by omega))) (fun x hx => ?_)
    refine TR.skip ?_
    refine NX.seq ?_
    refine TR.seq ?_
    refine TR.block ?_
    refine TR.seq ?_
    refine TR.seq ?_
    refine TR.region ?_
    refine RL.move rfl rfl rfl ?_
    refine RL.move rfl rfl rfl ?_
    refine RL.indexAddr rfl r_tl38 r_tz41 (congrArg (fun a => some (Value.slice a _ _)) hx) rfl (by omega) (by omega) rfl ?_
    refine RL.fieldAddr rfl r_tf41_2 rfl rfl ?_
    refine RL.loadF rfl rfl (fun w K hF => run_loadCell1 (j := (k : Int).toNat * 3 + 2) (hF _ (.head _)) r_ts3 (toks_get2 hk1)) rfl ?_
    refine RL.move rfl rfl rfl ?_
    refine RL.lenStr rfl r_tstr9 rfl rfl ?_
    refine RL.bin rfl rfl rfl (BinV.to (d := false) BinV.neq (by simp)) rfl ?_
    refine RL.nil ?_
    refine NX.seq ?_
    refine TR.condF rfl ?_
    refine TR.skip ?_
    refine NX.seq ?_
    refine TR.region ?_
    refine RL.move rfl rfl rfl ?_
    refine RL.move rfl rfl rfl ?_
    refine RL.move rfl rfl rfl ?_
    refine RL.indexAddr rfl r_tl38 r_tz41 (congrArg (fun a => some (Value.slice a _ _)) hx) rfl (by omega) (by omega) rfl ?_
    refine RL.fieldAddr rfl r_tf41_1 rfl rfl ?_
    refine RL.loadF rfl rfl (fun w K hF => run_loadCell1 (j := (k : Int).toNat * 3 + 1) (hF _ (.head _)) r_ts9 (toks_get1 hk1)) rfl ?_
    refine RL.bin rfl rfl rfl (BinV.addS (by omega)) rfl ?_
    refine RL.assign rfl rfl rfl ?_
    refine RL.nil ?_
    refine NX.off ?_
    refine NX.seq ?_
    refine TR.region ?_
    refine RL.move rfl rfl rfl ?_
    refine RL.bin rfl rfl rfl (BinV.add _ rfl (by omega) (by omega)) rfl ?_
    refine RL.assign rfl rfl rfl ?_
    refine RL.nil ?_
    refine NX.roundP (k + 1) (by omega) (by omega) ⟨rfl, rfl, rfl, rfl, congrArg (fun l => some (S l)) (by rw [take_flat hk1]), rfl, trivial⟩ (fun w hw => hw.facts (fun φ h => .tail _ h))
  · skip
    have hk2 : k = n.1.t.lv.length := by have := of_decide_eq_false h2; omega
    refine TR.exit ?_
    refine NX.exitThen ?_
    refine NX.exitThen ?_
    refine NX.exitHere ?_
    refine NX.seq ?_
    refine TR.seq ?_
    refine TR.seq ?_
    refine TR.region ?_
    refine RL.assign rfl rfl rfl ?_
    refine RL.nil ?_
    refine NX.seq ?_
    refine TR.block ?_
    refine TR.loopP (ι := Nat) (fun i => i ≤ n.1.t.text.length) (fun i => [(2, .bool false), (3, .pointer (some ⟨b1, 0, none⟩)), (4, S n.1.t.text), (6, S n.1.t.text), (8, I i)]) (fun _ => Box b1 25 n.1.c :: M) (fun _ => ArrF z.1 (toks 0 n.1.t.lv) :: TreeF n.1.t n.1.v :: F) (fun i => n.1.t.text.length - i) 0 (Nat.zero_le _) ⟨rfl, rfl, rfl, congrArg (fun l => some (S l)) (by rw [hk2, List.take_length, text_lv]), rfl, trivial⟩ (fun w hw => hw) (fun i hi0 => ?_)
    refine TR.seq ?_
    refine TR.seq ?_
    refine TR.region ?_
    refine RL.move rfl rfl rfl ?_
    refine RL.move rfl rfl rfl ?_
    refine RL.lenStr rfl r_tstr9 rfl rfl ?_
    refine RL.bin rfl rfl rfl BinV.lss rfl ?_
    refine RL.nil ?_
    refine NX.seq ?_
    refine TR.cond rfl (fun h3 => ?_) (fun h3 => ?_)
    · skip
      have hi : i < n.1.t.width := by have := of_decide_eq_true h3; have h7 : n.1.t.width = n.1.t.text.length := rfl; omega
      have hw1 := n.2.width6 (by omega)
      have hin : 0 ≤ (i : Int) ∧ (i : Int) < n.1.t.width := by omega
      obtain ⟨kk, q, g1, g2, g3, g4, g5, g6⟩ := path_get n.2 hi
      have hg : n.1.t.getR (n.1.t.path i) = (kk, (q : Int), true) := by unfold getR; rw [g1 0, Nat.zero_add]
      refine TR.skip ?_
      refine NX.seq ?_
      refine TR.seq ?_
      refine TR.block ?_
      refine TR.seq ?_
      refine TR.region ?_
      refine RL.loadA 0 rfl rfl rfl r_ta25 rfl ?_
      refine RL.move rfl rfl rfl ?_
      refine RL.call rfl rfl Try.call21 rfl (path_spec (o := (i : Int)) n.2 (by omega) (.tail _ (.head _))) (fun pz => ?_)
      rw [(pathL_in hin).2, (pathL_in hin).1, Int.toNat_natCast]
      refine RL.move rfl rfl rfl ?_
      refine RL.extract rfl rfl rfl rfl ?_
      refine RL.extract rfl rfl rfl rfl ?_
      refine RL.assign rfl rfl rfl ?_
      refine RL.assign rfl rfl rfl ?_
      refine RL.nil ?_
      refine NX.seq ?_
      refine TR.seq ?_
      refine TR.region ?_
      refine RL.loadA 0 rfl rfl rfl r_ta25 rfl ?_
      refine RL.move rfl rfl rfl ?_
      refine RL.call rfl rfl Try.call22 rfl (get_at n.2 (by omega) (.tail _ (.tail _ (.head _))) (.head _) hg (by have := path_length n.1.t i; have := n.2.count6 (by omega); omega)) (fun k => ?_)
      have hkd : (decide (0 ≤ k.1.t.kind) && decide (k.1.t.kind ≤ 8)) = true := by show k.1.t.isLeaf = true; rw [k.2]; exact g2
      simp only [Bool.and_eq_true, decide_eq_true_eq] at hkd
      have ht8 : k.1.t.txt.length ≤ 8 := by rw [k.2]; exact (Small.get n.2 (g1 0)).1
      have g7 : i < q + k.1.t.txt.length := by rw [k.2]; exact g5
      refine RL.open1 (open_node (.head _)) (fun hlen => ?_)
      have hlen0 : k.1.len = 0 := by have := hlen.1; rw [k.2, g3] at this; exact this
      obtain ⟨u, hu1⟩ : ∃ u, k.1.t.txt[((i : Int) - q).toNat]? = some u := ⟨_, List.getElem?_eq_getElem (by omega)⟩
      have hu2 : n.1.t.text[((i : Int)).toNat]? = some u := by rw [← hu1, Int.toNat_natCast, g6, k.2]; congr 1; omega
      refine RL.move rfl rfl rfl ?_
      refine RL.extract rfl rfl rfl rfl ?_
      refine RL.extract rfl rfl rfl rfl ?_
      refine RL.extract rfl rfl rfl rfl ?_
      refine RL.allocA rfl (Try.zeroValue25) rfl (fun b4 => ?_)
      refine RL.storeA 0 rfl rfl rfl rfl r_tz25 rfl rfl ?_
      refine RL.assign rfl rfl rfl ?_
      refine RL.assign rfl rfl rfl ?_
      refine RL.nil ?_
      refine NX.seq ?_
      refine TR.seq ?_
      refine TR.sub (E' := [(2, _), (3, _), (4, _), (6, _), (8, _), (9, _), (10, _), (11, _), (12, _), (13, _), (41, _), (42, _), (43, _), (44, _), (47, _), (48, _), (49, _), (50, _), (51, _), (52, _), (53, _), (54, _), (55, _), (56, _), (57, _), (58, _), (59, _)]) ⟨rfl, rfl, rfl, rfl, rfl, rfl, rfl, rfl, rfl, rfl, rfl, rfl, rfl, rfl, rfl, rfl, rfl, rfl, rfl, rfl, rfl, rfl, rfl, rfl, rfl, rfl, rfl, trivial⟩ ?_
      refine TR.draw mixed ?_
      apply AR.more [(0, .bool true), (1, .bool false), (2, .bool false), (3, .bool true), (4, .bool false), (5, .bool false), (6, .bool false), (7, _), (8, _), (9, _), (10, .bool false), (11, .bool false), (12, .bool false), (13, _), (14, _), (15, .bool false), (16, .bool false), (17, .bool false), (18, _), (19, _), (20, .bool false), (21, .bool false), (22, .bool false), (23, _), (24, _), (25, _), (26, _), (27, _), (28, _), (29, .bool false), (30, .bool false), (31, .bool false), (32, _), (33, _), (34, _), (35, _), (36, _), (37, _), (38, _), (39, _), (40, _), (41, .bool false), (42, .bool false)]
      refine AR.last [0, 1, 2, 3, 4, 5, 6, 7, 8, 9, 10, 11, 12, 13, 14, 15, 16, 17, 18, 19, 20, 21, 22, 23, 24, 25, 26, 27, 28, 29, 30, 31, 32, 33, 34, 35, 36, 37, 38, 39, 40, 41, 42] [0, 1, 2, 3, 4, 5, 6, 7, 8, 9, 10, 11, 12, 13, 14, 15, 16, 17, 18, 19, 20, 21, 22, 23, 24, 25, 26, 27, 28, 29, 30, 31, 32, 33, 34, 35, 36, 37, 38, 39, 40, 41, 42] ⟨QOne.yes rfl rfl rfl (PV.move rfl), QOne.yes rfl rfl rfl (PV.not (b := true) rfl), QOne.yes rfl rfl rfl (PV.move rfl), QOne.yes rfl rfl rfl (PV.move rfl), QOne.yes rfl rfl rfl (PV.not (b := true) rfl), QOne.yes rfl rfl rfl (PV.pickF rfl rfl), QOne.yes rfl rfl rfl (PV.move rfl), QOne.yes rfl rfl rfl (PV.fieldAddr r_tf25_3 rfl), QOne.yes rfl rfl rfl (PV.load1 0 r_ts23 rfl rfl rfl), QOne.yes rfl rfl rfl (PV.lenSlice r_tl23 rfl), QOne.yes rfl rfl rfl (PV.bin rfl rfl (BinV.to (d := false) BinV.gtr (decide_eq_false (by omega)))), QOne.yes rfl rfl rfl (PV.pickF rfl rfl), QOne.yes rfl rfl rfl (PV.move rfl), QOne.yes rfl rfl rfl (PV.fieldAddr r_tf25_1 rfl), QOne.yes rfl rfl rfl (PV.load1 0 r_ts3 rfl rfl rfl), QOne.yes rfl rfl rfl (PV.bin rfl rfl (BinV.to (d := false) BinV.gtr (decide_eq_false (by omega)))), QOne.yes rfl rfl rfl (PV.pickF rfl rfl), QOne.yes rfl rfl rfl (PV.move rfl), QOne.yes rfl rfl rfl (PV.move rfl), QOne.yes rfl rfl rfl (PV.move rfl), QOne.yes rfl rfl rfl (PV.bin rfl rfl (BinV.to (d := false) BinV.gtr (decide_eq_false (by omega)))), QOne.yes rfl rfl rfl (PV.pickF rfl rfl), QOne.yes rfl rfl rfl (PV.move rfl), QOne.yes rfl rfl rfl (PV.move rfl), QOne.yes rfl rfl rfl (PV.move rfl), QOne.yes rfl rfl rfl (PV.fieldAddr r_tf25_2 rfl), QOne.yes rfl rfl rfl (PV.load1 0 r_ts9 rfl rfl rfl), QOne.yes rfl rfl rfl (PV.lenStr r_tstr9 rfl), QOne.yes rfl rfl rfl (PV.bin rfl rfl (BinV.add _ rfl (by omega) (by omega))), QOne.yes rfl rfl rfl (PV.bin rfl rfl (BinV.to (d := false) BinV.geq (decide_eq_false (by omega)))), QOne.yes rfl rfl rfl (PV.pickF rfl rfl), QOne.yes rfl rfl rfl (PV.move rfl), QOne.yes rfl rfl rfl (PV.fieldAddr r_tf25_2 rfl), QOne.yes rfl rfl rfl (PV.load1 0 r_ts9 rfl rfl rfl), QOne.yes rfl rfl rfl (PV.move rfl), QOne.yes rfl rfl rfl (PV.move rfl), QOne.yes rfl rfl rfl (PV.bin rfl rfl (BinV.sub _ rfl (by omega) (by omega))), QOne.yes rfl rfl rfl (PV.indexS r_tstr9 rfl rfl (by omega) hu1), QOne.yes rfl rfl rfl (PV.move rfl), QOne.yes rfl rfl rfl (PV.move rfl), QOne.yes rfl rfl rfl (PV.indexS r_tstr9 rfl rfl (by omega) hu2), QOne.yes rfl rfl rfl (PV.bin rfl rfl (BinV.to (d := false) BinV.neq (by simp))), QOne.yes rfl rfl rfl (PV.pickF rfl rfl), trivial⟩ rfl rfl rfl ?_
      refine NX.sub (E' := [(2, _), (3, _), (4, _), (6, _), (8, _), (9, _), (11, _), (41, _), (42, _), (43, _), (44, _), (47, _), (48, _), (49, _), (50, _), (51, _), (52, _), (53, _), (54, _), (55, _), (56, _), (57, _), (58, _), (59, _), (102, _)]) ⟨rfl, rfl, rfl, rfl, rfl, rfl, rfl, rfl, rfl, rfl, rfl, rfl, rfl, rfl, rfl, rfl, rfl, rfl, rfl, rfl, rfl, rfl, rfl, rfl, rfl, trivial⟩ ?_
      refine NX.seq ?_
      refine TR.condF rfl ?_
      refine TR.skip ?_
      refine NX.off ?_
      refine NX.seq ?_
      refine TR.region ?_
      refine RL.move rfl rfl rfl ?_
      refine RL.bin rfl rfl rfl (BinV.add _ rfl (by omega) (by omega)) rfl ?_
      refine RL.assign rfl rfl rfl ?_
      refine RL.nil ?_
      refine NX.roundP (i + 1) (by have h7 : n.1.t.width = n.1.t.text.length := rfl; omega) (by have h7 : n.1.t.width = n.1.t.text.length := rfl; omega) ⟨rfl, rfl, rfl, rfl, rfl, trivial⟩ (fun w hw => (hw.drop 0 rfl).facts (fun φ h => .tail _ (.tail _ (.tail _ (h)))))
    · skip
      refine TR.exit ?_
      refine NX.exitThen ?_
      refine NX.exitThen ?_
      refine NX.exitHere ?_
      refine NX.seq ?_
      refine TR.seq ?_
      refine TR.region ?_
      refine RL.move rfl rfl rfl ?_
      refine RL.move rfl rfl rfl ?_
      refine RL.bin rfl rfl rfl (BinV.to (d := true) BinV.eqlS (by simp)) rfl ?_
      refine RL.move rfl rfl rfl ?_
      refine RL.loadA 0 rfl rfl rfl r_ta25 rfl ?_
      refine RL.call rfl rfl Try.call23 rfl (width_spec (.tail _ (.head _)) (by have := n.2.width6 (by omega); omega)) (fun _ => ?_)
      refine RL.move rfl rfl rfl ?_
      refine RL.lenStr rfl r_tstr9 rfl rfl ?_
      refine RL.bin rfl rfl rfl (BinV.to (d := true) BinV.eql (by simp [Tree.width])) rfl ?_
      refine RL.pickT rfl rfl rfl rfl ?_
      refine RL.move rfl rfl rfl ?_
      refine RL.call rfl rfl Try.call14 rfl (lives_spec) (fun _ => ?_)
      refine RL.pickT rfl rfl rfl rfl ?_
      refine RL.assign rfl rfl rfl ?_
      refine RL.nil ?_
      refine NX.seq ?_
      refine TR.ret ?_
      exact NX.ret1 () rfl rfl rfl (fun w hw => hw.tail.facts (fun φ h => .tail _ (.tail _ (h))))

end Go.Proofs.Ytnolpmigiboanaa
