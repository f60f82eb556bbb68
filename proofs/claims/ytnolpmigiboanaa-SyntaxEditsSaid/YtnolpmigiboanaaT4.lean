/- Walks of the functions of package syntax and of its reference model. Printed by s07.py. -/
import Derived.Test.YtnolpmigiboanaaBld
import Derived.Test.YtnolpmigiboanaaT3
namespace Go.Proofs.Ytnolpmigiboanaa
open Go.GL Go.GL.Tree
theorem d_ta25 : tyAgg Try.prog 25 4 = true := by kernel_rfl
theorem d_tf25_3 : fieldOff Try.prog 25 3 3 = true := by kernel_rfl
theorem d_tf69_0 : fieldOff Try.prog 69 0 0 = true := by kernel_rfl
theorem d_tf69_1 : fieldOff Try.prog 69 1 1 = true := by kernel_rfl
theorem d_tl22 : tySlice Try.prog 22 3 = true := by kernel_rfl
theorem d_tl23 : tySlice Try.prog 23 25 = true := by kernel_rfl
theorem d_ts22 : tyScalar Try.prog 22 = true := by kernel_rfl
theorem d_ts23 : tyScalar Try.prog 23 = true := by kernel_rfl
theorem d_ts3 : tyScalar Try.prog 3 = true := by kernel_rfl
theorem d_tz25 : tySize Try.prog 25 4 = true := by kernel_rfl
theorem d_tz3 : tySize Try.prog 3 1 = true := by kernel_rfl
theorem depth_spec {d : Nat} : ∀ {t : Tree} {a : Option Addr} {len cap : Nat} {M : List HP} {F : List Fact} (hs : Small d t) (hd : d ≤ 8) (ht : TreeF t (nodeV t a len cap) ∈ F), Ctr Try.prog 45 [nodeV t a len cap] M F Unit (fun _ => I t.depth) (fun _ => M) (fun _ => F) := by
  induction d with
  | zero => intro t a len cap M F hs hd ht; exact hs.elim
  | succ d depth_spec =>
  intro t a len cap M F hs hd ht
  refine Ctr.body Try.func45 rfl rfl ?_
  refine TR.seq ?_
  refine TR.region ?_
  refine RL.boxA rfl rfl rfl (fun b1 => ?_)
  refine RL.assign rfl rfl rfl ?_
  refine RL.nil ?_
  refine NX.seq ?_
  refine TR.seq ?_
  refine TR.region ?_
  refine RL.assign rfl rfl rfl ?_
  refine RL.nil ?_
  refine NX.seq ?_
  refine TR.seq ?_
  refine TR.seq ?_
  refine TR.region ?_
  refine RL.open1 (open_node ht) (fun hlen => ?_)
  refine RL.fieldAddr rfl d_tf25_3 rfl rfl ?_
  refine RL.load1 0 rfl d_ts23 rfl rfl rfl rfl ?_
  refine RL.lenSlice rfl d_tl23 rfl rfl ?_
  refine RL.move rfl rfl rfl ?_
  refine RL.nil ?_
  refine NX.seq ?_
  refine TR.block ?_
  refine TR.loopP (ι := Nat) (fun k => k ≤ t.kids.length) (fun k => [(1, .pointer (some ⟨b1, 0, none⟩)), (2, I 0), (3, I (depthAll 0 (t.kids.take k))), (7, .slice a len cap), (8, I len), (9, I k)]) (fun _ => Box b1 25 (nodeC t a len cap) :: M) (fun _ => KidsOF a t.kids :: F) (fun k => t.kids.length - k) 0 (Nat.zero_le _) ⟨rfl, rfl, rfl, rfl, rfl, rfl, trivial⟩ (fun w hw => hw) (fun k hk => ?_)
  refine TR.seq ?_
  refine TR.region ?_
  refine RL.bin rfl rfl rfl BinV.lss rfl ?_
  refine RL.nil ?_
  refine NX.seq ?_
  refine TR.seq ?_
  refine TR.cond rfl (fun h2 => ?_) (fun h2 => ?_)
  · skip
    have hk1 : k < t.kids.length := by have := of_decide_eq_true h2; omega
    refine TR.openP (open_kid (.head _) (List.getElem?_eq_getElem hk1)) (fun w0 hw0 => ?_)
    refine TR.skip ?_
    refine NX.seq ?_
    refine TR.seq ?_
    refine TR.block ?_
    refine TR.seq ?_
    refine TR.region ?_
    refine RL.indexAddr rfl d_tl23 d_tz25 (congrArg (fun a => some (Value.slice a _ _)) hw0) rfl (by omega) (by omega) rfl ?_
    refine RL.loadF rfl rfl (fun w K hF => run_loadCellsAt (hF _ (.head _)) d_ta25) rfl ?_
    refine RL.allocA rfl (Try.zeroValue25) rfl (fun b3 => ?_)
    refine RL.storeA 0 rfl rfl rfl rfl d_tz25 rfl rfl ?_
    refine RL.nil ?_
    refine NX.seq ?_
    refine TR.region ?_
    refine RL.move rfl rfl rfl ?_
    refine RL.loadA 0 rfl rfl rfl d_ta25 rfl ?_
    refine RL.call rfl rfl Try.call45 rfl (depth_spec (hs.kid (List.getElem_mem hk1)) (by omega) (.tail _ (.head _))) (fun _ => ?_)
    refine RL.max rfl rfl rfl rfl ?_
    refine RL.assign rfl rfl rfl ?_
    refine RL.nil ?_
    refine NX.off ?_
    refine NX.seq ?_
    refine TR.region ?_
    refine RL.bin rfl rfl rfl (BinV.add _ rfl (by omega) (by omega)) rfl ?_
    refine RL.move rfl rfl rfl ?_
    refine RL.nil ?_
    refine NX.roundP (k + 1) (by omega) (by omega) ⟨rfl, rfl, congrArg (fun z => some (I z)) ?_, rfl, rfl, rfl, trivial⟩ (fun w hw => (hw.drop 0 rfl).facts (F' := KidsOF a t.kids :: F) (fun φ h => .tail _ (.tail _ h)))
    rw [depthAll_step hk1]; omega
  · skip
    have hk2 : k = t.kids.length := by have := of_decide_eq_false h2; omega
    have hd9 := hs.depth
    rw [depth_eq] at hd9
    rw [hk2, List.take_length]
    refine TR.exit ?_
    refine NX.exitThen ?_
    refine NX.exitThen ?_
    refine NX.exitHere ?_
    refine NX.seq ?_
    refine TR.seq ?_
    refine TR.region ?_
    refine RL.move rfl rfl rfl ?_
    refine RL.bin rfl rfl rfl (BinV.add _ rfl (by omega) (by omega)) rfl ?_
    refine RL.assign rfl rfl rfl ?_
    refine RL.nil ?_
    refine NX.seq ?_
    refine TR.ret ?_
    refine NX.ret1 () rfl rfl ?_ (fun w hw => hw.tail.facts (fun φ h => .tail _ h))
    rw [depth_eq]; simp

theorem around_spec {n m : Int} {M : List HP} {F : List Fact} (hm : 0 < m) (h0 : -9223372036854775808 ≤ n) (h1 : n ≤ 9223372036854775807) : Ctr Try.prog 58 [I n, I m] M F {r : Int // 0 ≤ r ∧ r < m} (fun r => I r.1) (fun _ => M) (fun _ => F) := by
  refine Ctr.body Try.func58 rfl rfl ?_
  refine TR.seq ?_
  refine TR.region ?_
  refine RL.assign rfl rfl rfl ?_
  refine RL.nil ?_
  refine NX.seq ?_
  refine TR.seq ?_
  refine TR.seq ?_
  refine TR.region ?_
  refine RL.move rfl rfl rfl ?_
  refine RL.bin rfl rfl rfl BinV.lss rfl ?_
  refine RL.nil ?_
  refine NX.seq ?_
  refine TR.cond rfl (fun h1 => ?_) (fun h1 => ?_)
  · skip
    have hn := of_decide_eq_true h1
    refine TR.region ?_
    refine RL.move rfl rfl rfl ?_
    refine RL.bin rfl rfl rfl (BinV.add _ rfl (by omega) (by omega)) rfl ?_
    refine RL.neg rfl rfl (by omega) (by omega) rfl ?_
    refine RL.assign rfl rfl rfl ?_
    refine RL.nil ?_
    refine NX.seq ?_
    refine TR.seq ?_
    refine TR.region ?_
    refine RL.move rfl rfl rfl ?_
    refine RL.move rfl rfl rfl ?_
    refine RL.bin rfl rfl rfl (BinV.rem (by omega)) rfl ?_
    refine RL.assign rfl rfl rfl ?_
    refine RL.nil ?_
    refine NX.seq ?_
    refine TR.ret ?_
    refine NX.ret1 ⟨_, ?_, ?_⟩ rfl rfl rfl (fun w hw => hw)
    · exact Int.tmod_nonneg _ (by omega)
    · exact Int.tmod_lt_of_pos _ (by omega)
  · skip
    have hn := of_decide_eq_false h1
    refine TR.skip ?_
    refine NX.seq ?_
    refine TR.seq ?_
    refine TR.region ?_
    refine RL.move rfl rfl rfl ?_
    refine RL.move rfl rfl rfl ?_
    refine RL.bin rfl rfl rfl (BinV.rem (by omega)) rfl ?_
    refine RL.assign rfl rfl rfl ?_
    refine RL.nil ?_
    refine NX.seq ?_
    refine TR.ret ?_
    refine NX.ret1 ⟨_, ?_, ?_⟩ rfl rfl rfl (fun w hw => hw)
    · exact Int.tmod_nonneg _ (by omega)
    · exact Int.tmod_lt_of_pos _ (by omega)

def IntsOk (xs : List Int) : Prop := xs.length ≤ 9223372036854775807 ∧ ∀ x, x ∈ xs → -9223372036854775808 ≤ x ∧ x ≤ 9223372036854775807

theorem pick_spec {xs : List Int} {oa : Option Addr} {ca : Nat} {i m : Int} {M : List HP} {F : List Fact} (ha : ArrF oa (ints xs) ∈ F) (hxs : IntsOk xs) (hm : 0 < m) : Ctr Try.prog 46 [.slice oa xs.length ca, I i, I m] M F {r : Int // 0 ≤ r ∧ r < m} (fun r => I r.1) (fun _ => M) (fun _ => F) := by
  refine Ctr.body Try.func46 rfl rfl ?_
  refine TR.seq ?_
  refine TR.region ?_
  refine RL.assign rfl rfl rfl ?_
  refine RL.nil ?_
  refine NX.seq ?_
  refine TR.seq ?_
  refine TR.seq ?_
  refine TR.region ?_
  refine RL.move rfl rfl rfl ?_
  refine RL.bin rfl rfl rfl BinV.lss rfl ?_
  refine RL.move rfl rfl rfl ?_
  refine RL.part (fun h1 => ?_) (fun h1 => ?_)
  · skip
    refine RL.skip rfl rfl rfl ?_
    refine RL.skip rfl rfl rfl ?_
    refine RL.skip rfl rfl rfl ?_
    refine RL.skip rfl rfl rfl ?_
    refine RL.pickT rfl rfl rfl rfl ?_
    refine RL.nil ?_
    refine NX.seq ?_
    refine TR.condT rfl ?_
    refine TR.seq ?_
    refine TR.region ?_
    refine RL.assign rfl rfl rfl ?_
    refine RL.nil ?_
    refine NX.seq ?_
    refine TR.ret ?_
    refine NX.retThen ?_
    exact NX.ret1 ⟨0, by omega, hm⟩ rfl rfl rfl (fun w hw => hw)
  · skip
    have hp1 := of_decide_eq_false h1
    refine RL.move rfl rfl rfl ?_
    refine RL.move rfl rfl rfl ?_
    refine RL.lenSlice rfl d_tl22 rfl rfl ?_
    refine RL.bin rfl rfl rfl BinV.geq rfl ?_
    refine RL.pickF rfl rfl rfl rfl ?_
    refine RL.nil ?_
    refine NX.seq ?_
    refine TR.cond rfl (fun h2 => ?_) (fun h2 => ?_)
    · skip
      refine TR.seq ?_
      refine TR.region ?_
      refine RL.assign rfl rfl rfl ?_
      refine RL.nil ?_
      refine NX.seq ?_
      refine TR.ret ?_
      refine NX.retThen ?_
      exact NX.ret1 ⟨0, by omega, hm⟩ rfl rfl rfl (fun w hw => hw)
    · skip
      have hi0 := of_decide_eq_false h2
      have hi1 : i.toNat < xs.length := by omega
      have hr := hxs.2 _ (List.getElem_mem hi1)
      refine TR.openP (open_arr ha (ints_ne (by omega))) (fun x hx => ?_)
      refine TR.skip ?_
      refine NX.seq ?_
      refine TR.seq ?_
      refine TR.region ?_
      refine RL.move rfl rfl rfl ?_
      refine RL.move rfl rfl rfl ?_
      refine RL.indexAddr rfl d_tl22 d_tz3 (congrArg (fun a => some (Value.slice a _ _)) hx) rfl (by omega) (by omega) rfl ?_
      refine RL.loadF rfl rfl (fun w K hF => run_loadCell1 (j := i.toNat * 1) (v := I xs[i.toNat]) (hF _ (.head _)) d_ts3 (by simp [hi1])) rfl ?_
      refine RL.move rfl rfl rfl ?_
      refine RL.call rfl rfl Try.call58 rfl (around_spec hm hr.1 hr.2) (fun v => ?_)
      refine RL.assign rfl rfl rfl ?_
      refine RL.nil ?_
      refine NX.seq ?_
      refine TR.ret ?_
      exact NX.ret1 v rfl rfl rfl (fun w hw => hw.facts (fun φ h => .tail _ h))

theorem next_spec {xs : List Int} {oa : Option Addr} {ca g : Nat} {k m : Int} {M : List HP} {F : List Fact} (ha : ArrF oa (ints xs) ∈ F) (hxs : IntsOk xs) (hm : 0 < m) : Ctr Try.prog 39 [.pointer (some ⟨g, 0, none⟩), I m] (Box g 69 [.slice oa xs.length ca, I k] :: M) F ({r : Int // 0 ≤ r ∧ r < m} × Int) (fun r => I r.1.1) (fun r => Box g 69 [.slice oa xs.length ca, I r.2] :: M) (fun _ => F) := by
  refine Ctr.body Try.func39 rfl rfl ?_
  refine TR.seq ?_
  refine TR.region ?_
  refine RL.assign rfl rfl rfl ?_
  refine RL.nil ?_
  refine NX.seq ?_
  refine TR.seq ?_
  refine TR.region ?_
  refine RL.move rfl rfl rfl ?_
  refine RL.nilCheck rfl rfl rfl ?_
  refine RL.fieldAddr rfl d_tf69_1 rfl rfl ?_
  refine RL.load1 0 rfl d_ts3 rfl rfl rfl rfl ?_
  refine RL.bin rfl rfl rfl BinV.addW rfl ?_
  refine RL.nilCheck rfl rfl rfl ?_
  refine RL.fieldAddr rfl d_tf69_1 rfl rfl ?_
  refine RL.store1 0 rfl d_ts3 rfl rfl rfl rfl rfl ?_
  refine RL.nil ?_
  refine NX.seq ?_
  refine TR.seq ?_
  refine TR.sub (E' := [(0, _), (1, _), (5, _), (6, _), (7, _), (8, _), (9, _), (10, _), (11, _)]) ⟨rfl, rfl, rfl, rfl, rfl, rfl, rfl, rfl, rfl, trivial⟩ ?_
  refine TR.draw mixed ?_
  apply AR.more [(0, _), (1, _), (2, _), (3, _), (4, _), (5, _), (6, _), (7, _), (8, _), (9, _)]
  refine AR.eff [0, 1, 2, 3, 4, 5, 6, 7, 8, 9] 10 [0, 1, 2, 3, 4, 5, 6, 7, 8, 9, 10, 11] ⟨QOne.yes rfl rfl rfl (PV.move rfl), QOne.yes rfl rfl rfl (PV.nilCheck rfl), QOne.yes rfl rfl rfl (PV.fieldAddr d_tf69_0 rfl), QOne.yes rfl rfl rfl (PV.load1 0 d_ts22 rfl rfl rfl), QOne.yes rfl rfl rfl (PV.move rfl), QOne.yes rfl rfl rfl (PV.nilCheck rfl), QOne.yes rfl rfl rfl (PV.fieldAddr d_tf69_1 rfl), QOne.yes rfl rfl rfl (PV.load1 0 d_ts3 rfl rfl rfl), QOne.yes rfl rfl rfl (PV.bin rfl rfl BinV.subW), QOne.yes rfl rfl rfl (PV.move rfl), trivial⟩ rfl rfl rfl rfl rfl rfl rfl (EV.call rfl Try.call46 (pick_spec ha hxs hm)) (fun v => ?_)
  refine AR.done [3, 8, 9, 7, 2, 1, 6, 5, 0, 4] rfl ?_
  apply AR.more [(11, _)]
  refine AR.last [11] [0, 1, 2, 3, 4, 5, 6, 7, 8, 9, 10, 11] ⟨QOne.yes rfl rfl rfl (PV.assign rfl), trivial⟩ rfl rfl rfl ?_
  refine NX.sub (E' := [(0, _), (1, _), (4, _), (5, _), (6, _), (7, _), (8, _), (9, _), (10, _), (11, _), (12, _), (13, _), (14, _), (15, _), (16, _), (17, _), (18, _), (19, _), (20, _), (21, _), (22, _)]) ⟨rfl, rfl, rfl, rfl, rfl, rfl, rfl, rfl, rfl, rfl, rfl, rfl, rfl, rfl, rfl, rfl, rfl, rfl, rfl, rfl, rfl, trivial⟩ ?_
  refine NX.seq ?_
  refine TR.ret ?_
  exact NX.ret1 (v, _) rfl rfl rfl (fun w hw => hw)

end Go.Proofs.Ytnolpmigiboanaa
