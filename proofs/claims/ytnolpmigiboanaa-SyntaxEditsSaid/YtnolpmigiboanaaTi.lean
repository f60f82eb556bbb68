/- Walks of the functions of package syntax and of its reference model. Printed by s07.py. -/
import Derived.Test.YtnolpmigiboanaaSm2
import Derived.Test.YtnolpmigiboanaaTg
namespace Go.Proofs.Ytnolpmigiboanaa
open Go.GL Go.GL.Tree
theorem t_ta25 : tyAgg Try.prog 25 4 = true := by kernel_rfl
theorem t_tf25_1 : fieldOff Try.prog 25 1 1 = true := by kernel_rfl
theorem t_tf25_2 : fieldOff Try.prog 25 2 2 = true := by kernel_rfl
theorem t_tf25_3 : fieldOff Try.prog 25 3 3 = true := by kernel_rfl
theorem t_tl23 : tySlice Try.prog 23 25 = true := by kernel_rfl
theorem t_ts23 : tyScalar Try.prog 23 = true := by kernel_rfl
theorem t_ts3 : tyScalar Try.prog 3 = true := by kernel_rfl
theorem t_ts9 : tyScalar Try.prog 9 = true := by kernel_rfl
theorem t_tz25 : tySize Try.prog 25 4 = true := by kernel_rfl
theorem equalFunc_spec {ks us : List Tree} {a a' : Option Addr} {cap cap' : Nat} {M : List HP} {F : List Fact} (ha : KidsOF a ks ∈ F) (hb : KidsOF a' us ∈ F) (hkl : ks.length ≤ 65536)
    (ih : ∀ (k : Tree), k ∈ ks → ∀ {u : Tree} {a a' : Option Addr} {len cap len' cap' : Nat} {M : List HP} {F : List Fact}, TreeF k (nodeV k a len cap) ∈ F → TreeF u (nodeV u a' len' cap') ∈ F → Ctr Try.prog 28 [nodeV k a len cap, nodeV u a' len' cap'] M F Unit (fun _ => .bool (eqv k u)) (fun _ => M) (fun _ => F)) : Ctr Try.prog 57 [.slice a ks.length cap, .slice a' us.length cap', .func (.func 28) #[] #[]] M F Unit (fun _ => .bool (eqvAll ks us)) (fun _ => M) (fun _ => F) := by
  refine Ctr.body Try.func57 rfl rfl ?_
  refine TR.seq ?_
  refine TR.region ?_
  refine RL.assign rfl rfl rfl ?_
  refine RL.nil ?_
  refine NX.seq ?_
  refine TR.seq ?_
  refine TR.seq ?_
  refine TR.region ?_
  refine RL.move rfl rfl rfl ?_
  refine RL.lenSlice rfl t_tl23 rfl rfl ?_
  refine RL.move rfl rfl rfl ?_
  refine RL.lenSlice rfl t_tl23 rfl rfl ?_
  refine RL.bin rfl rfl rfl BinV.neq rfl ?_
  refine RL.nil ?_
  refine NX.seq ?_
  refine TR.cond rfl (fun h1 => ?_) (fun h1 => ?_)
  · skip
    have hll : ks.length ≠ us.length := by have := of_decide_eq_true h1; omega
    refine TR.seq ?_
    refine TR.region ?_
    refine RL.assign rfl rfl rfl ?_
    refine RL.nil ?_
    refine NX.seq ?_
    refine TR.ret ?_
    refine NX.retThen ?_
    refine NX.ret1 () rfl rfl (by rw [eqvAll_len hll]) (fun w hw => hw)
  · skip
    have hll : ks.length = us.length := by have := of_decide_eq_false h1; omega
    refine TR.skip ?_
    refine NX.seq ?_
    refine TR.seq ?_
    refine TR.seq ?_
    refine TR.region ?_
    refine RL.move rfl rfl rfl ?_
    refine RL.lenSlice rfl t_tl23 rfl rfl ?_
    refine RL.move rfl rfl rfl ?_
    refine RL.nil ?_
    refine NX.seq ?_
    refine TR.block ?_
    refine TR.loopP (ι := Nat) (fun k => k ≤ ks.length ∧ eqvAll (ks.drop k) (us.drop k) = eqvAll ks us) (fun k => [(0, .slice a ks.length cap), (1, .slice a' us.length cap'), (2, .func (.func 28) #[] #[]), (6, .bool false), (15, .slice a ks.length cap), (16, I ks.length), (17, I k)]) (fun _ => M) (fun _ => F) (fun k => ks.length - k) 0 ⟨Nat.zero_le _, rfl⟩ ⟨rfl, rfl, rfl, rfl, rfl, rfl, rfl, trivial⟩ (fun w hw => hw) (fun k hk => ?_)
    refine TR.seq ?_
    refine TR.region ?_
    refine RL.bin rfl rfl rfl BinV.lss rfl ?_
    refine RL.nil ?_
    refine NX.seq ?_
    refine TR.seq ?_
    refine TR.cond rfl (fun h2 => ?_) (fun h2 => ?_)
    · skip
      have hk1 : k < ks.length := by have := of_decide_eq_true h2; omega
      have hk2 : k < us.length := by omega
      refine TR.openP (open_kid (a := a) (ks := ks) ha (List.getElem?_eq_getElem hk1)) (fun x hx => ?_)
      refine TR.openP (open_kid (a := a') (ks := us) (.tail _ (.tail _ hb)) (List.getElem?_eq_getElem hk2)) (fun y hy => ?_)
      refine TR.skip ?_
      refine NX.seq ?_
      refine TR.seq ?_
      refine TR.block ?_
      refine TR.seq ?_
      refine TR.region ?_
      refine RL.move rfl rfl rfl ?_
      refine RL.indexAddr rfl t_tl23 t_tz25 (congrArg (fun a => some (Value.slice a _ _)) hx) rfl (by omega) (by omega) rfl ?_
      refine RL.loadF rfl rfl (fun w K hF => run_loadCellsAt (hF _ (.tail _ (.tail _ (.head _)))) t_ta25) rfl ?_
      refine RL.allocA rfl (Try.zeroValue25) rfl (fun b3 => ?_)
      refine RL.assign rfl rfl rfl ?_
      refine RL.storeA 0 rfl rfl rfl rfl t_tz25 rfl rfl ?_
      refine RL.nil ?_
      refine NX.seq ?_
      refine TR.seq ?_
      refine TR.region ?_
      refine RL.move rfl rfl rfl ?_
      refine RL.move rfl rfl rfl ?_
      refine RL.indexAddr rfl t_tl23 t_tz25 (congrArg (fun a => some (Value.slice a _ _)) hy) rfl (by omega) (by omega) rfl ?_
      refine RL.loadF rfl rfl (fun w K hF => run_loadCellsAt (hF _ (.head _)) t_ta25) rfl ?_
      refine RL.allocA rfl (Try.zeroValue25) rfl (fun b4 => ?_)
      refine RL.storeA 0 rfl rfl rfl rfl t_tz25 rfl rfl ?_
      refine RL.nil ?_
      refine NX.seq ?_
      refine TR.seq ?_
      refine TR.region ?_
      refine RL.move rfl rfl rfl ?_
      refine RL.loadA 1 rfl rfl rfl t_ta25 rfl ?_
      refine RL.loadA 0 rfl rfl rfl t_ta25 rfl ?_
      refine RL.callV (fst := []) (cap := []) rfl rfl rfl Try.call28 rfl (ih ks[k] (List.getElem_mem hk1) (.tail _ (.tail _ (.tail _ (.head _)))) (.tail _ (.head _))) (fun _ => ?_)
      refine RL.not rfl rfl rfl ?_
      refine RL.nil ?_
      refine NX.seq ?_
      refine TR.cond rfl (fun h5 => ?_) (fun h5 => ?_)
      · skip
        have hne : eqv ks[k] us[k] = false := by simpa using h5
        refine TR.seq ?_
        refine TR.region ?_
        refine RL.assign rfl rfl rfl ?_
        refine RL.nil ?_
        refine NX.seq ?_
        refine TR.ret ?_
        refine NX.retBlock ?_
        refine NX.retThen ?_
        refine NX.retThen ?_
        refine NX.retBlock ?_
        refine NX.retThen ?_
        have h9 := hk.2
        rw [eqvAll_drop hk1 hk2, hne, Bool.false_and] at h9
        refine NX.ret1 () rfl rfl (by rw [← h9]) (fun w hw => hw.tail.tail.facts (fun φ h => .tail _ (.tail _ (.tail _ (.tail _ (h))))))
      · skip
        have hne : eqv ks[k] us[k] = true := by simpa using h5
        refine TR.skip ?_
        refine NX.off ?_
        refine NX.seq ?_
        refine TR.region ?_
        refine RL.bin rfl rfl rfl (BinV.add _ rfl (by omega) (by omega)) rfl ?_
        refine RL.move rfl rfl rfl ?_
        refine RL.nil ?_
        refine NX.roundP (k + 1) ⟨by omega, ?_⟩ (by omega) ⟨rfl, rfl, rfl, rfl, rfl, rfl, rfl, trivial⟩ (fun w hw => hw.tail.tail.facts (fun φ h => .tail _ (.tail _ (.tail _ (.tail _ (h))))))
        have h9 := hk.2
        rw [eqvAll_drop hk1 hk2, hne, Bool.true_and] at h9
        exact h9
    · skip
      have hk3 : ks.length ≤ k := by have := of_decide_eq_false h2; omega
      refine TR.exit ?_
      refine NX.exitThen ?_
      refine NX.exitThen ?_
      refine NX.exitHere ?_
      refine NX.seq ?_
      refine TR.seq ?_
      refine TR.region ?_
      refine RL.assign rfl rfl rfl ?_
      refine RL.nil ?_
      refine NX.seq ?_
      refine TR.ret ?_
      have h9 := hk.2
      rw [eqvAll_end hk3 (by omega)] at h9
      refine NX.ret1 () rfl rfl (by rw [← h9]) (fun w hw => hw)

theorem equal_spec {d : Nat} : ∀ {t u : Tree} {a a' : Option Addr} {len cap len' cap' : Nat} {M : List HP} {F : List Fact}, Small d t → d ≤ 8 → TreeF t (nodeV t a len cap) ∈ F → TreeF u (nodeV u a' len' cap') ∈ F → Ctr Try.prog 28 [nodeV t a len cap, nodeV u a' len' cap'] M F Unit (fun _ => .bool (eqv t u)) (fun _ => M) (fun _ => F) := by
  induction d with
  | zero => intro t u a a' len cap len' cap' M F hs hd ht hu; exact hs.elim
  | succ d equal_spec =>
  intro t u a a' len cap len' cap' M F hs hd ht hu
  refine Ctr.body Try.func28 rfl rfl ?_
  refine TR.seq ?_
  refine TR.region ?_
  refine RL.boxA rfl rfl rfl (fun b1 => ?_)
  refine RL.boxA rfl rfl rfl (fun b2 => ?_)
  refine RL.assign rfl rfl rfl ?_
  refine RL.nil ?_
  refine NX.seq ?_
  refine TR.seq ?_
  refine TR.region ?_
  refine RL.fieldAddr rfl t_tf25_1 rfl rfl ?_
  refine RL.load1 1 rfl t_ts3 rfl rfl rfl rfl ?_
  refine RL.fieldAddr rfl t_tf25_1 rfl rfl ?_
  refine RL.load1 0 rfl t_ts3 rfl rfl rfl rfl ?_
  refine RL.bin rfl rfl rfl BinV.eql rfl ?_
  refine RL.move rfl rfl rfl ?_
  refine RL.part (fun h3 => ?_) (fun h3 => ?_)
  · skip
    have hkd : t.kind = u.kind := of_decide_eq_true h3
    refine RL.fieldAddr rfl t_tf25_2 rfl rfl ?_
    refine RL.load1 1 rfl t_ts9 rfl rfl rfl rfl ?_
    refine RL.fieldAddr rfl t_tf25_2 rfl rfl ?_
    refine RL.load1 0 rfl t_ts9 rfl rfl rfl rfl ?_
    refine RL.bin rfl rfl rfl BinV.eqlS rfl ?_
    refine RL.pickT rfl rfl rfl rfl ?_
    refine RL.move rfl rfl rfl ?_
    refine RL.part (fun h4 => ?_) (fun h4 => ?_)
    · skip
      have htx : t.txt = u.txt := of_decide_eq_true h4
      refine RL.open1 (open_node ht) (fun hlt => ?_)
      refine RL.open1 (open_node (.tail _ hu)) (fun hlu => ?_)
      obtain ⟨hlt1, hlt2⟩ := hlt
      obtain ⟨hlu1, hlu2⟩ := hlu
      subst hlt1 hlu1
      refine RL.fieldAddr rfl t_tf25_3 rfl rfl ?_
      refine RL.load1 1 rfl t_ts23 rfl rfl rfl rfl ?_
      refine RL.fieldAddr rfl t_tf25_3 rfl rfl ?_
      refine RL.load1 0 rfl t_ts23 rfl rfl rfl rfl ?_
      refine RL.call rfl rfl Try.call57 rfl (equalFunc_spec (ks := t.kids) (us := u.kids) (.tail _ (.head _)) (.head _) (by have := hs.2.1; omega) (fun k hk => fun hk2 hu2 => equal_spec (hs.kid hk) (by omega) hk2 hu2)) (fun _ => ?_)
      refine RL.pickT rfl rfl rfl rfl ?_
      refine RL.assign rfl rfl rfl ?_
      refine RL.nil ?_
      refine NX.seq ?_
      refine TR.ret ?_
      refine NX.ret1 () rfl rfl (by rw [eqv_eq, decide_eq_true hkd, decide_eq_true htx]; rfl) (fun w hw => hw.tail.tail.facts (fun φ h => .tail _ (.tail _ (h))))
    · skip
      have he : eqv t u = false := by have := of_decide_eq_false h4; rw [eqv_eq, decide_eq_false this]; simp
      refine RL.skip rfl rfl rfl ?_
      refine RL.skip rfl rfl rfl ?_
      refine RL.skip rfl rfl rfl ?_
      refine RL.skip rfl rfl rfl ?_
      refine RL.skip rfl rfl rfl ?_
      refine RL.pickF rfl rfl rfl rfl ?_
      refine RL.assign rfl rfl rfl ?_
      refine RL.nil ?_
      refine NX.seq ?_
      refine TR.ret ?_
      refine NX.ret1 () rfl rfl (by rw [he]) (fun w hw => hw.tail.tail)
  · skip
    have he : eqv t u = false := by have := of_decide_eq_false h3; rw [eqv_eq, decide_eq_false this]; rfl
    refine RL.skip rfl rfl rfl ?_
    refine RL.skip rfl rfl rfl ?_
    refine RL.skip rfl rfl rfl ?_
    refine RL.skip rfl rfl rfl ?_
    refine RL.skip rfl rfl rfl ?_
    refine RL.pickF rfl rfl rfl rfl ?_
    refine RL.move rfl rfl rfl ?_
    refine RL.skip rfl rfl rfl ?_
    refine RL.skip rfl rfl rfl ?_
    refine RL.skip rfl rfl rfl ?_
    refine RL.skip rfl rfl rfl ?_
    refine RL.skip rfl rfl rfl ?_
    refine RL.pickF rfl rfl rfl rfl ?_
    refine RL.assign rfl rfl rfl ?_
    refine RL.nil ?_
    refine NX.seq ?_
    refine TR.ret ?_
    refine NX.ret1 () rfl rfl (by rw [he]) (fun w hw => hw.tail.tail)

end Go.Proofs.Ytnolpmigiboanaa
