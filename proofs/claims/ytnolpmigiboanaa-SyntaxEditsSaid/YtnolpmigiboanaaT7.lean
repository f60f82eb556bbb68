/- Walks of the functions of package syntax and of its reference model. Printed by s07.py. -/
import Derived.Test.YtnolpmigiboanaaBld
import Derived.Test.YtnolpmigiboanaaT6
namespace Go.Proofs.Ytnolpmigiboanaa
open Go.GL Go.GL.Tree
theorem g_bs23_0_  : BuildSV Try.prog 23 25 0 [] [] := fun w => by kernel_rfl
theorem g_ni23 : noInt Try.prog 23 = true := by kernel_rfl
theorem g_ta25 : tyAgg Try.prog 25 4 = true := by kernel_rfl
theorem g_te25 : tyElem Try.prog 25 4 56 = true := by kernel_rfl
theorem g_tf25_3 : fieldOff Try.prog 25 3 3 = true := by kernel_rfl
theorem g_tl23 : tySlice Try.prog 23 25 = true := by kernel_rfl
theorem g_ts23 : tyScalar Try.prog 23 = true := by kernel_rfl
theorem g_tz25 : tySize Try.prog 25 4 = true := by kernel_rfl
theorem clone66_spec {cs : List Value} {n : Nat} {oa : Option Addr} {c : Nat} {M : List HP} {F : List Fact} (hF : ArrF oa cs ∈ F) (hl : cs.length = n * 4) (hone : cs.all Value.oneCell' = true) (hn : n ≤ 65536) : Ctr Try.prog 66 [.slice oa n c] M F (Option Addr × Nat) (fun z => .slice z.1 n z.2) (fun z => OwnSl 25 4 z.1 n z.2 cs :: M) (fun _ => F) := by
  refine Ctr.body Try.func66 rfl rfl ?_
  refine TR.seq ?_
  refine TR.region ?_
  refine RL.assign rfl rfl rfl ?_
  refine RL.nil ?_
  refine NX.seq ?_
  refine TR.seq ?_
  refine TR.seq ?_
  refine TR.region ?_
  refine RL.move rfl rfl rfl ?_
  refine RL.bin rfl rfl rfl (BinV.eqlNil g_tl23) rfl ?_
  refine RL.nil ?_
  refine NX.seq ?_
  refine TR.cond rfl (fun h1 => ?_) (fun h1 => ?_)
  · skip
    have h1_ := h1
    refine TR.seq ?_
    refine TR.region ?_
    refine RL.assign rfl rfl rfl ?_
    refine RL.nil ?_
    refine NX.seq ?_
    refine TR.ret ?_
    refine NX.retThen ?_
    refine NX.ret1x rfl rfl (fun w hw => ?_)
    have ho : oa = none := by cases oa with | none => rfl | some a => cases h1_
    subst ho
    have hc := arr_nil hw hF
    have hn0 : n = 0 := by rw [hc, List.length_nil] at hl; omega
    subst hc hn0
    exact ⟨(none, 0), rfl, OwnSl.nil_new 25 4 hw⟩
  · skip
    refine TR.skip ?_
    refine NX.seq ?_
    refine TR.seq ?_
    refine TR.region ?_
    refine RL.buildSlice rfl rfl (g_bs23_0_) rfl (fun b2 => ?_)
    refine RL.move rfl rfl rfl ?_
    refine RL.weak (fun w hw => St.boxSl (n := 0) (size := 4) rfl (by decide) hw) ?_
    refine RL.ofGV rfl rfl (GV.append (j := 0) g_tl23 g_ni23 g_te25 rfl rfl rfl (src_fact hF hl hone) (by omega) (by omega)) (fun z => ?_)
    refine RL.assign rfl rfl rfl ?_
    refine RL.nil ?_
    refine NX.seq ?_
    refine TR.ret ?_
    refine NX.ret1x rfl rfl (fun w hw => ⟨(z.1, z.2), ?_, ?_⟩)
    · rw [Nat.zero_add]
    · have h9 : St w (OwnSl 25 4 z.1 (0 + n) z.2 ([] ++ cs) :: M) F := hw
      rw [Nat.zero_add] at h9
      exact h9

structure CX where
  k : Nat
  dn : List Value
  rs : List Value

theorem clone_spec {d : Nat} : ∀ {t : Tree} {a : Option Addr} {len cap : Nat} {M : List HP} {F : List Fact}, Small d t → d ≤ 8 → TreeF t (nodeV t a len cap) ∈ F → Ctr Try.prog 56 [nodeV t a len cap] M F {x : TX // x.t = t} (fun x => x.1.v) (fun x => OT 25 x.1.t x.1.a x.1.len x.1.cap :: M) (fun _ => F) := by
  induction d with
  | zero => intro t a len cap M F hs hd ht; exact hs.elim
  | succ d clone_spec =>
  intro t a len cap M F hs hd ht
  refine Ctr.body Try.func56 rfl rfl ?_
  refine TR.seq ?_
  refine TR.region ?_
  refine RL.boxA rfl rfl rfl (fun b1 => ?_)
  refine RL.allocA rfl (Try.zeroValue25) rfl (fun b2 => ?_)
  refine RL.nil ?_
  refine NX.seq ?_
  refine TR.seq ?_
  refine TR.region ?_
  refine RL.openP (ι := List Value) (p := fun cs => (len = t.kids.length ∧ len ≤ cap ∧ cap ≤ 9223372036854775807) ∧ cs.length = t.kids.length * 4 ∧ cs.all Value.oneCell' = true) (fun w hw => by
    obtain ⟨cs, h1, h2⟩ := open_cells ht w hw
    exact ⟨cs, ⟨h1, trees_len h2 (.tail _ (.head _)), src_trees h2 (.tail _ (.head _))⟩, h2⟩) (fun cs hcs => ?_)
  obtain ⟨hlen, hcl, ho1⟩ := hcs
  obtain ⟨hle, hlc, hcm⟩ := hlen
  subst hle
  refine RL.fieldAddr rfl g_tf25_3 rfl rfl ?_
  refine RL.load1 1 rfl g_ts23 rfl rfl rfl rfl ?_
  refine RL.call rfl rfl Try.call66 rfl (clone66_spec (.head _) hcl ho1 (by have := hs.2.1; omega)) (fun z => ?_)
  refine RL.fieldAddr rfl g_tf25_3 rfl rfl ?_
  refine RL.store1 2 rfl g_ts23 rfl rfl rfl rfl rfl ?_
  refine RL.nil ?_
  refine NX.seq ?_
  refine TR.seq ?_
  refine TR.seq ?_
  refine TR.region ?_
  refine RL.fieldAddr rfl g_tf25_3 rfl rfl ?_
  refine RL.load1 2 rfl g_ts23 rfl rfl rfl rfl ?_
  refine RL.lenSlice rfl g_tl23 rfl rfl ?_
  refine RL.move rfl rfl rfl ?_
  refine RL.nil ?_
  refine NX.seq ?_
  refine TR.block ?_
  refine TR.loopP (ι := CX) (fun x => x.k ≤ t.kids.length ∧ x.dn.length = x.k * 4) (fun x => [(1, .pointer (some ⟨b1, 0, none⟩)), (2, .pointer (some ⟨b2, 0, none⟩)), (10, .slice z.1 t.kids.length z.2), (11, I t.kids.length), (12, I x.k)]) (fun x => OwnSl 25 4 z.1 t.kids.length z.2 (x.dn ++ x.rs) :: OTs 25 (t.kids.take x.k) x.dn :: Box b2 25 [I 0, I 0, S [], .slice none 0 0] :: Box b1 25 [I t.id, I t.kind, S t.txt, .slice z.1 t.kids.length z.2] :: M) (fun x => TreesF (t.kids.drop x.k) x.rs :: F) (fun x => t.kids.length - x.k) ⟨0, [], cs⟩ ⟨Nat.zero_le _, rfl⟩ ⟨rfl, rfl, rfl, rfl, rfl, trivial⟩ (fun w hw => ((St.otsNil (hw.facts (fun φ h => .tail _ h))).swap)) (fun x hx => ?_)
  refine TR.seq ?_
  refine TR.region ?_
  refine RL.bin rfl rfl rfl BinV.lss rfl ?_
  refine RL.nil ?_
  refine NX.seq ?_
  refine TR.seq ?_
  refine TR.cond rfl (fun h3 => ?_) (fun h3 => ?_)
  · skip
    have hk1 : x.k < t.kids.length := by have := of_decide_eq_true h3; omega
    have hdk := List.drop_eq_getElem_cons hk1
    refine TR.openP (open_trees (t := t.kids[x.k]) (ts := t.kids.drop (x.k + 1)) (cs := x.rs) (by rw [← hdk]; exact .head _)) (fun y hy => ?_)
    refine TR.openP (fun w hw => own_at (i := 0) (xs := x.dn ++ x.rs) rfl (by rw [hy.2]; simp) hw) (fun b0 hz => ?_)
    have hoff : 0 + (x.k : Int).toNat * 4 = x.dn.length := by rw [hx.2]; simp
    refine TR.skip ?_
    refine NX.seq ?_
    refine TR.seq ?_
    refine TR.block ?_
    refine TR.seq ?_
    refine TR.region ?_
    refine RL.move rfl rfl rfl ?_
    refine RL.indexAddr rfl g_tl23 g_tz25 (congrArg (fun a => some (Value.slice a _ _)) hz) rfl (by omega) (by omega) rfl ?_
    refine RL.loadS rfl rfl (own_agg (i := 0) (vs := y.1.c) rfl hz g_ta25 (fun j v hj => by rw [hoff, hy.2]; exact get_mid hj)) rfl ?_
    refine RL.allocA rfl (Try.zeroValue25) rfl (fun b4 => ?_)
    refine RL.assign rfl rfl rfl ?_
    refine RL.storeA 0 rfl rfl rfl rfl g_tz25 rfl rfl ?_
    refine RL.nil ?_
    refine NX.seq ?_
    refine TR.sub (E' := [(1, _), (2, _), (3, _), (4, _), (10, _), (11, _), (12, _), (13, _), (14, _), (15, _), (16, _)]) ⟨rfl, rfl, rfl, rfl, rfl, rfl, rfl, rfl, rfl, rfl, rfl, trivial⟩ ?_
    refine TR.draw mixed ?_
    apply AR.more [(0, _), (1, _), (2, _), (3, _)]
    refine AR.eff [0, 1, 2, 3] 4 [0, 1, 2, 3, 4, 5, 6] ⟨QOne.yes rfl rfl rfl (PV.fieldAddr g_tf25_3 rfl), QOne.yes rfl rfl rfl (PV.load1 4 g_ts23 rfl rfl rfl), QOne.yes rfl rfl rfl (PV.move rfl), QOne.yes rfl rfl rfl (PV.loadA 0 rfl rfl g_ta25), trivial⟩ rfl rfl rfl rfl rfl rfl rfl (EV.call rfl Try.call56 (clone_spec (by rw [hy.1]; exact hs.kid (List.getElem_mem hk1)) (by omega) (.head _))) (fun v => ?_)
    refine AR.done [3] rfl ?_
    apply AR.more [(5, _)]
    refine AR.eff [0, 1, 2, 5] 6 [0, 1, 2, 3, 4, 5, 6] ⟨QOne.yes rfl rfl rfl (PV.fieldAddr g_tf25_3 rfl), QOne.yes rfl rfl rfl (PV.load1 5 g_ts23 rfl rfl rfl), QOne.yes rfl rfl rfl (PV.move rfl), QOne.yes rfl rfl rfl (PV.indexAddr g_tl23 g_tz25 (congrArg (fun a => some (Value.slice a _ _)) hz) rfl (by omega) (by omega)), trivial⟩ rfl rfl rfl rfl rfl rfl rfl (EV.storeO (vs := v.1.c) 2 rfl rfl rfl hz g_tz25 rfl (by rw [hoff, hy.2]; simp) rfl) (fun _ => ?_)
    refine AR.done [5, 0, 1, 2] rfl ?_
    refine AR.last [] [0, 1, 2, 3, 4, 5, 6] trivial rfl rfl rfl ?_
    refine NX.sub (E' := [(1, _), (2, _), (3, _), (4, _), (10, _), (11, _), (12, _), (13, _), (14, _), (15, _), (16, _), (17, _), (18, _), (19, _), (20, _), (21, _), (22, _)]) ⟨rfl, rfl, rfl, rfl, rfl, rfl, rfl, rfl, rfl, rfl, rfl, rfl, rfl, rfl, rfl, rfl, rfl, trivial⟩ ?_
    refine NX.off ?_
    refine NX.seq ?_
    refine TR.region ?_
    refine RL.bin rfl rfl rfl (BinV.add _ rfl (by omega) (by omega)) rfl ?_
    refine RL.move rfl rfl rfl ?_
    refine RL.nil ?_
    obtain ⟨v, hv⟩ := v
    have hvk : v.t = t.kids[x.k] := hv.trans hy.1
    refine NX.roundP ⟨x.k + 1, x.dn ++ v.c, y.2⟩ ⟨hk1, ?_⟩ (by show _ - (x.k + 1) < _ - x.k; omega) ⟨rfl, rfl, rfl, rfl, rfl, trivial⟩ (fun w hw => ?_)
    · show (x.dn ++ v.c).length = (x.k + 1) * 4; rw [List.length_append, hx.2]; simp; omega
    · have h9 : St w (OT 25 v.t v.a v.len v.cap :: Box _ 25 y.1.c :: OwnSl 25 4 z.1 t.kids.length z.2 ((x.dn ++ x.rs).take (0 + (x.k : Int).toNat * 4) ++ v.c ++ (x.dn ++ x.rs).drop (0 + (x.k : Int).toNat * 4 + v.c.length)) :: OTs 25 (t.kids.take x.k) x.dn :: _) _ := hw
      rw [hoff, hy.2, splice_mid x.dn y.1.c y.2 v.c rfl] at h9
      have h8 := (h9.drop 1 rfl).rot3.otsSnoc.swap
      have e8 : t.kids.take x.k ++ [v.t] = t.kids.take (x.k + 1) := by rw [hvk, ← List.take_succ_eq_append_getElem hk1]
      rw [e8] at h8
      have h7 := h8.facts (F' := TreesF (t.kids.drop (x.k + 1)) y.2 :: F) (fun φ h => by
        rcases List.mem_cons.1 h with e | h
        · subst e; exact .tail _ (.head _)
        · exact .tail _ (.tail _ (.tail _ h)))
      show St w (OwnSl 25 4 z.1 t.kids.length z.2 ((x.dn ++ v.c) ++ y.2) :: OTs 25 (t.kids.take (x.k + 1)) (x.dn ++ v.c) :: _) _
      rw [List.append_assoc]
      exact h7
  · skip
    have hk2 : x.k = t.kids.length := by have := of_decide_eq_false h3; omega
    refine TR.exit ?_
    refine NX.exitThen ?_
    refine NX.exitThen ?_
    refine NX.exitHere ?_
    refine NX.seq ?_
    refine TR.seq ?_
    refine TR.region ?_
    refine RL.loadA 3 rfl rfl rfl g_ta25 rfl ?_
    refine RL.storeA 2 rfl rfl rfl rfl g_tz25 rfl rfl ?_
    refine RL.nil ?_
    refine NX.seq ?_
    refine TR.ret ?_
    refine NX.retCx (j := 2) rfl rfl rfl g_ta25 (fun w hw => ?_)
    rw [hk2, List.take_length, List.drop_length] at hw
    have hr := trees_nil hw (.head _)
    rw [hr, List.append_nil] at hw
    exact ⟨⟨⟨t, z.1, t.kids.length, z.2⟩, rfl⟩, rfl, St.otClose (((hw.drop 2 rfl).drop 2 rfl).facts (fun φ h => .tail _ h))⟩

end Go.Proofs.Ytnolpmigiboanaa
