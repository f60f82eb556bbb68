/- Walks of the functions of package syntax and of its reference model. Printed by s07.py. -/
import Derived.Test.YtnolpmigiboanaaSm6
import Derived.Test.YtnolpmigiboanaaTn
namespace Go.Proofs.Ytnolpmigiboanaa
open Go.GL Go.GL.Tree
set_option linter.unusedVariables false
theorem z_tf25_0 : fieldOff Try.prog 25 0 0 = true := by kernel_rfl
theorem z_tf25_3 : fieldOff Try.prog 25 3 3 = true := by kernel_rfl
theorem z_tl23 : tySlice Try.prog 23 25 = true := by kernel_rfl
theorem z_ts23 : tyScalar Try.prog 23 = true := by kernel_rfl
theorem z_ts3 : tyScalar Try.prog 3 = true := by kernel_rfl
theorem z_ts92 : tyScalar Try.prog 92 = true := by kernel_rfl
theorem z_tz25 : tySize Try.prog 25 4 = true := by kernel_rfl
theorem z_tz3 : tySize Try.prog 3 1 = true := by kernel_rfl
theorem numberV_spec {d : Nat} : ∀ {t : Tree} {a : Option Addr} {len cap rb rn rc off : Nat} {c1 c2 : List Value} {bf bv : Nat} {q : Int} {M : List HP} {F : List Fact}, Small d t → off = c1.length → Ctr Try.prog 59 [.pointer (some ⟨rb, off, none⟩), .pointer (some ⟨bf, 0, none⟩), .pointer (some ⟨bv, 0, none⟩)] (OwnSl 25 4 (some ⟨rb, 0, none⟩) rn rc (c1 ++ (nodeC t a len cap ++ c2)) :: OT 25 t a len cap :: Box bf 3 [I q] :: Box bv 92 [(.func (.func 59) #[] #[.pointer (some ⟨bf, 0, none⟩), .pointer (some ⟨bv, 0, none⟩)])] :: M) F Unit (fun _ => .tuple #[]) (fun _ => OwnSl 25 4 (some ⟨rb, 0, none⟩) rn rc (c1 ++ (nodeC (renum t q).1 a len cap ++ c2)) :: OT 25 (renum t q).1 a len cap :: Box bf 3 [I (renum t q).2] :: Box bv 92 [(.func (.func 59) #[] #[.pointer (some ⟨bf, 0, none⟩), .pointer (some ⟨bv, 0, none⟩)])] :: M) (fun _ => F) := by
  induction d with
  | zero => intro t a len cap rb rn rc off c1 c2 bf bv q M F hs; exact hs.elim
  | succ d numberV_spec =>
  intro t a len cap rb rn rc off c1 c2 bf bv q M F hs ho
  subst ho
  refine Ctr.body Try.func59 rfl rfl ?_
  refine TR.seq ?_
  refine TR.region ?_
  refine RL.move rfl rfl rfl ?_
  refine RL.load1 2 rfl z_ts3 rfl rfl rfl rfl ?_
  refine RL.nilCheck rfl rfl rfl ?_
  refine RL.fieldAddr rfl z_tf25_0 rfl rfl ?_
  refine RL.ofEV rfl rfl (EV.storeO (vs := [I q]) 0 rfl rfl rfl rfl z_tz3 rfl (by simp) rfl) ?_
  refine RL.nil ?_
  refine NX.seq ?_
  refine TR.seq ?_
  refine TR.region ?_
  refine RL.weak (fun w hw => by
    have h9 : St w (OwnSl 25 4 (some ⟨rb, 0, none⟩) rn rc ((c1 ++ (I t.id :: ([I t.kind, S t.txt, .slice a len cap] ++ c2))).take (c1.length + 0) ++ [I q] ++ (c1 ++ (I t.id :: ([I t.kind, S t.txt, .slice a len cap] ++ c2))).drop (c1.length + 0 + 1)) :: OT 25 t a len cap :: Box bf 3 [I q] :: Box bv 92 [(.func (.func 59) #[] #[.pointer (some ⟨bf, 0, none⟩), .pointer (some ⟨bv, 0, none⟩)])] :: M) F := hw
    rw [splice0] at h9
    have h8 : St w (OwnSl 25 4 (some ⟨rb, 0, none⟩) rn rc (c1 ++ (nodeC (.node q t.kind t.txt t.kids) a len cap ++ c2)) :: OT 25 t a len cap :: Box bf 3 [I q] :: Box bv 92 [(.func (.func 59) #[] #[.pointer (some ⟨bf, 0, none⟩), .pointer (some ⟨bv, 0, none⟩)])] :: M) F := h9
    exact h8) ?_
  refine RL.load1 2 rfl z_ts3 rfl rfl rfl rfl ?_
  refine RL.bin rfl rfl rfl BinV.addW rfl ?_
  refine RL.store1 2 rfl z_ts3 rfl rfl rfl rfl rfl ?_
  refine RL.nil ?_
  refine NX.seq ?_
  refine TR.seq ?_
  refine TR.region ?_
  refine RL.move rfl rfl rfl ?_
  refine RL.nilCheck rfl rfl rfl ?_
  refine RL.fieldAddr rfl z_tf25_3 rfl rfl ?_
  refine RL.loadS rfl rfl (own_one (i := 0) rfl rfl z_ts23 (get_mid (j := 3) rfl)) rfl ?_
  refine RL.lenSlice rfl z_tl23 rfl rfl ?_
  refine RL.move rfl rfl rfl ?_
  refine RL.nil ?_
  refine NX.seq ?_
  refine TR.block ?_
  refine TR.openP (fun w hw => by
    have h9 : St w (OwnSl 25 4 (some ⟨rb, 0, none⟩) rn rc (c1 ++ (nodeC (.node q t.kind t.txt t.kids) a len cap ++ c2)) :: OT 25 t a len cap :: Box bf 3 [I (nx q)] :: Box bv 92 [(.func (.func 59) #[] #[.pointer (some ⟨bf, 0, none⟩), .pointer (some ⟨bv, 0, none⟩)])] :: M) F := hw
    obtain ⟨cs, h8⟩ := h9.swap.otOpen
    have h7 := h8.ownLen.1
    have h6 := h8.otsLen (i := 1) rfl
    exact (⟨cs, (by omega : len = t.kids.length), h8⟩ : ∃ cs, len = t.kids.length ∧ St w (OwnSl 25 4 a len cap cs :: OTs 25 t.kids cs :: OwnSl 25 4 (some ⟨rb, 0, none⟩) rn rc (c1 ++ (nodeC (.node q t.kind t.txt t.kids) a len cap ++ c2)) :: Box bf 3 [I (nx q)] :: Box bv 92 [(.func (.func 59) #[] #[.pointer (some ⟨bf, 0, none⟩), .pointer (some ⟨bv, 0, none⟩)])] :: M) F)) (fun cs hlen => ?_)
  refine TR.loopP (ι := CX) (fun x => x.k ≤ t.kids.length ∧ x.dn.length = x.k * 4) (fun x => [(0, .pointer (some ⟨rb, c1.length, none⟩)), (1, .pointer (some ⟨bf, 0, none⟩)), (2, .pointer (some ⟨bv, 0, none⟩)), (15, I len), (16, I x.k)]) (fun x => OwnSl 25 4 a len cap (x.dn ++ x.rs) :: OTs 25 (renumAll (t.kids.take x.k) (nx q)).1 x.dn :: OTs 25 (t.kids.drop x.k) x.rs :: Box bf 3 [I (renumAll (t.kids.take x.k) (nx q)).2] :: Box bv 92 [(.func (.func 59) #[] #[.pointer (some ⟨bf, 0, none⟩), .pointer (some ⟨bv, 0, none⟩)])] :: OwnSl 25 4 (some ⟨rb, 0, none⟩) rn rc (c1 ++ (nodeC (.node q t.kind t.txt t.kids) a len cap ++ c2)) :: M) (fun _ => F) (fun x => t.kids.length - x.k) ⟨0, [], cs⟩ ⟨Nat.zero_le _, rfl⟩ ⟨rfl, rfl, rfl, rfl, rfl, trivial⟩ (fun w hw => (St.otsNil (e := 25) hw).numInit) (fun x hx => ?_)
  refine TR.seq ?_
  refine TR.region ?_
  refine RL.bin rfl rfl rfl BinV.lss rfl ?_
  refine RL.nil ?_
  refine NX.seq ?_
  refine TR.seq ?_
  refine TR.cond rfl (fun h1 => ?_) (fun h1 => ?_)
  · skip
    have hk1 : x.k < t.kids.length := by have := of_decide_eq_true h1; omega
    have hdk := List.drop_eq_getElem_cons hk1
    have hk4 := hs.2.1
    refine TR.openP (fun w hw => by
      have h9 : St w (OwnSl 25 4 a len cap (x.dn ++ x.rs) :: OTs 25 (renumAll (t.kids.take x.k) (nx q)).1 x.dn :: OTs 25 (t.kids.drop x.k) x.rs :: Box bf 3 [I (renumAll (t.kids.take x.k) (nx q)).2] :: Box bv 92 [(.func (.func 59) #[] #[.pointer (some ⟨bf, 0, none⟩), .pointer (some ⟨bv, 0, none⟩)])] :: OwnSl 25 4 (some ⟨rb, 0, none⟩) rn rc (c1 ++ (nodeC (.node q t.kind t.txt t.kids) a len cap ++ c2)) :: M) F := hw
      rw [hdk] at h9
      exact h9.numDown) (fun y hy => ?_)
    refine TR.skip ?_
    refine NX.seq ?_
    refine TR.seq ?_
    refine TR.block ?_
    refine TR.seq ?_
    refine TR.region ?_
    refine RL.move rfl rfl rfl ?_
    refine RL.assign rfl rfl rfl ?_
    refine RL.nil ?_
    refine NX.seq ?_
    refine TR.sub (E' := [(0, _), (1, _), (2, _), (4, _), (15, _), (16, _), (17, _), (18, _)]) ⟨rfl, rfl, rfl, rfl, rfl, rfl, rfl, rfl, trivial⟩ ?_
    refine TR.draw mixed ?_
    apply AR.more [(0, _), (1, _), (2, _), (3, _), (4, _), (5, _), (6, _)]
    refine AR.eff [0, 1, 2, 3, 4, 5, 6] 7 [0, 1, 2, 3, 4, 5, 6, 7] ⟨QOne.yes rfl rfl rfl (PV.load1 3 z_ts92 rfl rfl rfl), QOne.yes rfl rfl rfl (PV.move rfl), QOne.yes rfl rfl rfl (PV.nilCheck rfl), QOne.yes rfl rfl rfl (PV.fieldAddr z_tf25_3 rfl), QOne.yes rfl rfl rfl (PV.loadS rfl (own_one (i := 6) rfl rfl z_ts23 (get_mid (j := 3) rfl))), QOne.yes rfl rfl rfl (PV.move rfl), QOne.yes rfl rfl rfl (PV.indexAddr z_tl23 z_tz25 (congrArg (fun a => some (Value.slice a _ _)) hy.2.2) rfl (by omega) (by omega)), trivial⟩ rfl rfl rfl rfl rfl rfl rfl (EV.callV (fst := []) (cap := [.pointer (some ⟨bf, 0, none⟩), .pointer (some ⟨bv, 0, none⟩)]) rfl rfl Try.call59 (numberV_spec (by rw [hy.1]; exact hs.kid (List.getElem_mem hk1)) (by simp [hx.2]))) (fun _ => ?_)
    refine AR.done [0, 6, 4, 5, 3, 2, 1] rfl ?_
    refine AR.last [] [0, 1, 2, 3, 4, 5, 6, 7] trivial rfl rfl rfl ?_
    refine NX.sub (E' := [(0, _), (1, _), (2, _), (4, _), (15, _), (16, _), (17, _), (18, _), (19, _), (20, _), (21, _), (22, _), (23, _), (24, _), (25, _)]) ⟨rfl, rfl, rfl, rfl, rfl, rfl, rfl, rfl, rfl, rfl, rfl, rfl, rfl, rfl, rfl, trivial⟩ ?_
    refine NX.off ?_
    refine NX.seq ?_
    refine TR.region ?_
    refine RL.bin rfl rfl rfl (BinV.add _ rfl (by omega) (by omega)) rfl ?_
    refine RL.move rfl rfl rfl ?_
    refine RL.nil ?_
    have hz2 : (renumAll (t.kids.take (x.k + 1)) (nx q)) = ((renumAll (t.kids.take x.k) (nx q)).1 ++ [(renum y.1.t (renumAll (t.kids.take x.k) (nx q)).2).1], (renum y.1.t (renumAll (t.kids.take x.k) (nx q)).2).2) := by rw [hy.1]; exact renumAll_step hk1 (nx q)
    refine NX.roundP ⟨x.k + 1, x.dn ++ (⟨(renum y.1.t (renumAll (t.kids.take x.k) (nx q)).2).1, y.1.a, y.1.len, y.1.cap⟩ : TX).c, y.2.1⟩ ⟨hk1, ?_⟩ (by show _ - (x.k + 1) < _ - x.k; omega) ⟨rfl, rfl, rfl, rfl, rfl, trivial⟩ (fun w hw => ?_)
    · show (x.dn ++ _).length = (x.k + 1) * 4; rw [List.length_append, hx.2]; simp; omega
    · have h9 := St.numUp (v := ⟨(renum y.1.t (renumAll (t.kids.take x.k) (nx q)).2).1, y.1.a, y.1.len, y.1.cap⟩) hy.2.2 hw
      show St w (OwnSl 25 4 a len cap ((x.dn ++ (⟨(renum y.1.t (renumAll (t.kids.take x.k) (nx q)).2).1, y.1.a, y.1.len, y.1.cap⟩ : TX).c) ++ y.2.1) :: OTs 25 (renumAll (t.kids.take (x.k + 1)) (nx q)).1 _ :: OTs 25 (t.kids.drop (x.k + 1)) y.2.1 :: Box bf 3 [I (renumAll (t.kids.take (x.k + 1)) (nx q)).2] :: _) F
      rw [hz2]
      exact h9
  · skip
    have hk2 : x.k = t.kids.length := by have := of_decide_eq_false h1; omega
    refine TR.exit ?_
    refine NX.exitThen ?_
    refine NX.exitThen ?_
    refine NX.exitHere ?_
    refine NX.end0 () rfl rfl (fun w hw => ?_)
    have h9 : St w (OwnSl 25 4 a len cap (x.dn ++ x.rs) :: OTs 25 (renumAll (t.kids.take x.k) (nx q)).1 x.dn :: OTs 25 (t.kids.drop x.k) x.rs :: Box bf 3 [I (renumAll (t.kids.take x.k) (nx q)).2] :: Box bv 92 [(.func (.func 59) #[] #[.pointer (some ⟨bf, 0, none⟩), .pointer (some ⟨bv, 0, none⟩)])] :: OwnSl 25 4 (some ⟨rb, 0, none⟩) rn rc (c1 ++ (nodeC (.node q t.kind t.txt t.kids) a len cap ++ c2)) :: M) F := hw
    rw [hk2, List.take_length, List.drop_length] at h9
    have h8 := St.numEnd (t := .node q t.kind t.txt (renumAll t.kids (nx q)).1) h9
    show St w (OwnSl 25 4 (some ⟨rb, 0, none⟩) rn rc (c1 ++ (nodeC (renum t q).1 a len cap ++ c2)) :: OT 25 (renum t q).1 a len cap :: Box bf 3 [I (renum t q).2] :: _) F
    rw [renum_eq]
    exact h8

end Go.Proofs.Ytnolpmigiboanaa
