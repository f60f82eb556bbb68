/- Lemmas and walks for the proof of FreshJ: texts one behind the other. No condition. -/
import Derived.Test.YthefimaaeilefaaPfrc
set_option linter.unusedVariables false
set_option linter.unusedSimpArgs false
namespace Go.Proofs.Ythefimaaeilefaa
open Go.GL
set_option linter.unusedVariables false
theorem wn_tl22 : tySlice Try.prog 22 3 = true := by kernel_rfl
theorem wn_ts3 : tyScalar Try.prog 3 = true := by kernel_rfl
theorem wn_tstr9 : tyStr Try.prog 9 = true := by kernel_rfl
theorem wn_tz3 : tySize Try.prog 3 1 = true := by kernel_rfl
theorem example_run (T : Type) (A : Asker Try.prog UE T) (k : Ky) (s : T) (M : List HP) (F : List Fact) (hk : k ∈ UE) (hoks : A.ok s) (hfac : A.fac s ∈ F) (hbase : ∀ φ, φ ∈ A.base → φ ∈ F) : Ctr Try.prog 33 [S k, .func (.func A.cf) [].toArray A.cap.toArray] (A.blk s :: M) F {q : An × T // Runs A.stp (ruleE k) s q.1 q.2 ∧ A.ok q.2} (fun q => .tuple #[S q.1.1.s, I q.1.1.e]) (fun q => A.blk q.1.2 :: M) (fun q => A.fac q.1.2 :: F) := by
  refine Ctr.body Try.func33 rfl rfl ?_
  refine TR.seq ?_
  refine TR.region ?_
  refine RL.assign rfl rfl rfl ?_
  refine RL.assign rfl rfl rfl ?_
  refine RL.nil ?_
  refine NX.seq ?_
  refine TR.seq ?_
  refine TR.seq ?_
  refine TR.region ?_
  refine RL.move rfl rfl rfl ?_
  refine RL.nil ?_
  refine NX.seq ?_
  refine TR.block ?_
  refine TR.seq ?_
  refine TR.region ?_
  refine RL.bin rfl rfl rfl BinV.eqlS rfl ?_
  refine RL.assign rfl rfl rfl ?_
  refine RL.nil ?_
  refine NX.seq ?_
  refine TR.cond rfl (fun h1 => ?_) (fun h1 => ?_)
  · skip
    have h11 := of_decide_eq_true h1
    refine TR.seq ?_
    refine TR.region ?_
    refine RL.move rfl rfl rfl ?_
    refine RL.callV (fst := []) (cap := A.cap) rfl rfl rfl A.enter rfl (A.call [120] s _ _ (by decide) hoks hfac (fun φ h => hbase φ h)) (fun q => ?_)
    obtain ⟨⟨x, sx⟩, hqx, hoksx⟩ := q
    dsimp only at hqx hoksx ⊢
    refine RL.move rfl rfl rfl ?_
    refine RL.extract rfl rfl rfl rfl ?_
    refine RL.extract rfl rfl rfl rfl ?_
    refine RL.assign rfl rfl rfl ?_
    refine RL.assign rfl rfl rfl ?_
    refine RL.nil ?_
    refine NX.seq ?_
    refine TR.seq ?_
    refine TR.seq ?_
    refine TR.region ?_
    refine RL.move rfl rfl rfl ?_
    refine RL.bin rfl rfl rfl BinV.eqlS rfl ?_
    refine RL.nil ?_
    refine NX.seq ?_
    refine TR.cond rfl (fun h2 => ?_) (fun h2 => ?_)
    · skip
      have h19 := of_decide_eq_true h2
      refine TR.seq ?_
      refine TR.region ?_
      refine RL.assign rfl rfl rfl ?_
      refine RL.assign rfl rfl rfl ?_
      refine RL.nil ?_
      refine NX.seq ?_
      refine TR.ret ?_
      refine NX.retThen ?_
      refine NX.retBlock ?_
      refine NX.retThen ?_
      exact NX.ret2 (⟨(⟨[48], 0⟩, sx), by unfold ruleE; rw [if_pos h11]; exact .ask hqx (by rw [if_pos h19]; exact .ret), hoksx⟩ : {q : An × T // Runs A.stp (ruleE k) s q.1 q.2 ∧ A.ok q.2}) rfl rfl rfl rfl (fun w hw => (hw.to 1 [0] 1 [0] rfl))
    · skip
      have h19 := of_decide_eq_false h2
      refine TR.skip ?_
      refine NX.seq ?_
      refine TR.seq ?_
      refine TR.region ?_
      refine RL.assign rfl rfl rfl ?_
      refine RL.assign rfl rfl rfl ?_
      refine RL.nil ?_
      refine NX.seq ?_
      refine TR.ret ?_
      refine NX.retBlock ?_
      refine NX.retThen ?_
      exact NX.ret2 (⟨(⟨[49], 0⟩, sx), by unfold ruleE; rw [if_pos h11]; exact .ask hqx (by rw [if_neg h19]; exact .ret), hoksx⟩ : {q : An × T // Runs A.stp (ruleE k) s q.1 q.2 ∧ A.ok q.2}) rfl rfl rfl rfl (fun w hw => (hw.to 1 [0] 1 [0] rfl))
  · skip
    have h11 := of_decide_eq_false h1
    refine TR.seq ?_
    refine TR.region ?_
    refine RL.bin rfl rfl rfl BinV.eqlS rfl ?_
    refine RL.assign rfl rfl rfl ?_
    refine RL.nil ?_
    refine NX.seq ?_
    refine TR.cond rfl (fun h3 => ?_) (fun h3 => ?_)
    · skip
      have h20 := of_decide_eq_true h3
      refine TR.seq ?_
      refine TR.region ?_
      refine RL.move rfl rfl rfl ?_
      refine RL.callV (fst := []) (cap := A.cap) rfl rfl rfl A.enter rfl (A.call [97] s _ _ (by decide) hoks hfac (fun φ h => hbase φ h)) (fun q => ?_)
      obtain ⟨⟨a, sa⟩, hqa, hoksa⟩ := q
      dsimp only at hqa hoksa ⊢
      have hb4 := A.bnd _ _ _ _ (by decide) hoks hqa
      have hb8 := hb4.le
      refine RL.move rfl rfl rfl ?_
      refine RL.extract rfl rfl rfl rfl ?_
      refine RL.extract rfl rfl rfl rfl ?_
      refine RL.assign rfl rfl rfl ?_
      refine RL.assign rfl rfl rfl ?_
      refine RL.nil ?_
      refine NX.seq ?_
      refine TR.seq ?_
      refine TR.region ?_
      refine RL.move rfl rfl rfl ?_
      refine RL.move rfl rfl rfl ?_
      refine RL.bin rfl rfl rfl (BinV.addS (by omega)) rfl ?_
      refine RL.move rfl rfl rfl ?_
      refine RL.assign rfl rfl rfl ?_
      refine RL.assign rfl rfl rfl ?_
      refine RL.nil ?_
      refine NX.seq ?_
      refine TR.ret ?_
      refine NX.retBlock ?_
      refine NX.retThen ?_
      exact NX.ret2 (⟨(⟨a.s ++ a.s, a.e⟩, sa), by unfold ruleE; rw [if_neg h11, if_pos h20]; exact .ask hqa .ret, hoksa⟩ : {q : An × T // Runs A.stp (ruleE k) s q.1 q.2 ∧ A.ok q.2}) rfl rfl rfl rfl (fun w hw => (hw.to 1 [0] 1 [0] rfl))
    · skip
      have h20 := of_decide_eq_false h3
      refine TR.seq ?_
      refine TR.region ?_
      refine RL.bin rfl rfl rfl BinV.eqlS rfl ?_
      refine RL.assign rfl rfl rfl ?_
      refine RL.nil ?_
      refine NX.seq ?_
      refine TR.cond rfl (fun h4 => ?_) (fun h4 => ?_)
      · skip
        have h31 := of_decide_eq_true h4
        refine TR.seq ?_
        refine TR.region ?_
        refine RL.move rfl rfl rfl ?_
        refine RL.callV (fst := []) (cap := A.cap) rfl rfl rfl A.enter rfl (A.call [113] s _ _ (by decide) hoks hfac (fun φ h => hbase φ h)) (fun q => ?_)
        obtain ⟨⟨q, sq⟩, hqq, hoksq⟩ := q
        dsimp only at hqq hoksq ⊢
        refine RL.extract rfl rfl rfl rfl ?_
        refine RL.extract rfl rfl rfl rfl ?_
        refine RL.assign rfl rfl rfl ?_
        refine RL.assign rfl rfl rfl ?_
        refine RL.nil ?_
        refine NX.seq ?_
        refine TR.ret ?_
        refine NX.retBlock ?_
        refine NX.retThen ?_
        exact NX.ret2 (⟨(q, sq), by unfold ruleE; rw [if_neg h11, if_neg h20, if_pos h31]; exact .ask hqq .ret, hoksq⟩ : {q : An × T // Runs A.stp (ruleE k) s q.1 q.2 ∧ A.ok q.2}) rfl rfl rfl rfl (fun w hw => (hw.to 1 [0] 1 [0] rfl))
      · skip
        have h31 := of_decide_eq_false h4
        refine TR.skip ?_
        refine NX.off ?_
        refine NX.seq ?_
        refine TR.seq ?_
        refine TR.region ?_
        refine RL.move rfl rfl rfl ?_
        refine RL.callV (fst := []) (cap := A.cap) rfl rfl rfl A.enter rfl (A.call [112] s _ _ (by decide) hoks hfac (fun φ h => hbase φ h)) (fun q => ?_)
        obtain ⟨⟨q, sq⟩, hqq, hoksq⟩ := q
        dsimp only at hqq hoksq ⊢
        refine RL.extract rfl rfl rfl rfl ?_
        refine RL.extract rfl rfl rfl rfl ?_
        refine RL.assign rfl rfl rfl ?_
        refine RL.assign rfl rfl rfl ?_
        refine RL.nil ?_
        refine NX.seq ?_
        refine TR.ret ?_
        exact NX.ret2 (⟨(q, sq), by unfold ruleE; rw [if_neg h11, if_neg h20, if_neg h31]; exact .ask hqq .ret, hoksq⟩ : {q : An × T // Runs A.stp (ruleE k) s q.1 q.2 ∧ A.ok q.2}) rfl rfl rfl rfl (fun w hw => (hw.to 1 [0] 1 [0] rfl))
def exV : Fnv Try.prog UE ruleE := ⟨33, Try.call33, example_run⟩
theorem UR_two {k : Ky} (h : k ∈ UR) : ∃ a c, k = [a, c] ∧ [114, c] ∈ UR := by
  have h2 : ∀ k, k ∈ UR → ∃ c, c ∈ [48, 49, 50, 51, 52, 53, 54, 55, 56, 57] ∧ (k = [114, c] ∨ k = [110, c]) := by decide
  have h3 : ∀ c, c ∈ [48, 49, 50, 51, 52, 53, 54, 55, 56, 57] → [114, c] ∈ UR := by decide
  obtain ⟨c, hc, rfl | rfl⟩ := h2 k h
  · exact ⟨_, c, rfl, h3 c hc⟩
  · exact ⟨_, c, rfl, h3 c hc⟩
theorem ruleR_n {c : UInt8} : ruleR [110, c] = .ask [114, c] (fun r => if r.e ≠ 0 then .ret r else bodyR (valB r.s)) := rfl
theorem ruleR_o {a c : UInt8} (h : a ≠ 110) : ruleR [a, c] = .ret ⟨[], 7⟩ := if_neg h
theorem u8_110 {a : UInt8} (h : (a.toNat : Int) = 110) : a = 110 := UInt8.toNat_inj.1 (by show a.toNat = 110; omega)
set_option maxHeartbeats 1000000 in
theorem run_run (T : Type) (A : Asker Try.prog UR T) (k : Ky) (s : T) (M : List HP) (F : List Fact) (hk : k ∈ UR) (hoks : A.ok s) (hfac : A.fac s ∈ F) (hbase : ∀ φ, φ ∈ A.base → φ ∈ F) : Ctr Try.prog 11 [S k, .func (.func A.cf) [].toArray A.cap.toArray] (A.blk s :: M) F {q : An × T // Runs A.stp (ruleR k) s q.1 q.2 ∧ A.ok q.2} (fun q => .tuple #[S q.1.1.s, I q.1.1.e]) (fun q => A.blk q.1.2 :: M) (fun q => A.fac q.1.2 :: F) := by
  refine Ctr.body Try.func11 rfl rfl ?_
  refine TR.seq ?_
  refine TR.region ?_
  refine RL.assign rfl rfl rfl ?_
  refine RL.assign rfl rfl rfl ?_
  refine RL.nil ?_
  refine NX.seq ?_
  refine TR.seq ?_
  refine TR.seq ?_
  obtain ⟨c1, c, rfl, hkr⟩ := UR_two hk
  refine TR.region ?_
  refine RL.move rfl rfl rfl ?_
  refine RL.lenStr rfl wn_tstr9 rfl rfl ?_
  refine RL.bin rfl rfl rfl (BinV.to (d := false) BinV.neq (decide_eq_false (by show ¬ ((2 : Nat) : Int) ≠ 2; decide))) rfl ?_
  refine RL.move rfl rfl rfl ?_
  refine RL.move rfl rfl rfl ?_
  refine RL.indexS (u := c1) rfl wn_tstr9 rfl rfl (by decide) rfl rfl ?_
  refine RL.bin rfl rfl rfl BinV.neq rfl ?_
  refine RL.pickF rfl rfl rfl rfl ?_
  refine RL.nil ?_
  refine NX.seq ?_
  refine TR.cond rfl (fun h1 => ?_) (fun h1 => ?_)
  · skip
    have h20 : c1 ≠ 110 := by rintro rfl; exact of_decide_eq_true h1 rfl
    refine TR.seq ?_
    refine TR.region ?_
    refine RL.assign rfl rfl rfl ?_
    refine RL.assign rfl rfl rfl ?_
    refine RL.nil ?_
    refine NX.seq ?_
    refine TR.ret ?_
    refine NX.retThen ?_
    exact NX.ret2 (⟨(⟨[], 7⟩, s), by rw [ruleR_o h20]; exact .ret, hoks⟩ : {q : An × T // Runs A.stp (ruleR [c1, c]) s q.1 q.2 ∧ A.ok q.2}) rfl rfl rfl rfl (fun w hw => (((hw.to 1 [0] 0 [] rfl)).derive (ψ := A.fac s) (fun K hf => hf _ hfac)))
  · skip
    obtain rfl : c1 = 110 := u8_110 (Decidable.not_not.1 (of_decide_eq_false h1))
    refine TR.skip ?_
    refine NX.seq ?_
    refine TR.seq ?_
    refine TR.region ?_
    refine RL.move rfl rfl rfl ?_
    refine RL.move rfl rfl rfl ?_
    refine RL.sliceSfrom rfl wn_tstr9 rfl rfl (by decide) (by show ((1 : Nat) : Int) ≤ ((2 : Nat) : Int); decide) rfl ?_
    refine RL.bin rfl rfl rfl (BinV.addS (by simp)) rfl ?_
    refine RL.callV (fst := []) (cap := A.cap) rfl rfl rfl A.enter rfl (A.call [114, c] s _ _ hkr hoks hfac (fun φ h => hbase φ h)) (fun q => ?_)
    obtain ⟨⟨r, sr⟩, hqr, hoksr⟩ := q
    dsimp only at hqr hoksr ⊢
    refine RL.move rfl rfl rfl ?_
    refine RL.extract rfl rfl rfl rfl ?_
    refine RL.extract rfl rfl rfl rfl ?_
    refine RL.assign rfl rfl rfl ?_
    refine RL.assign rfl rfl rfl ?_
    refine RL.nil ?_
    refine NX.seq ?_
    refine TR.seq ?_
    refine TR.seq ?_
    refine TR.region ?_
    refine RL.move rfl rfl rfl ?_
    refine RL.bin rfl rfl rfl BinV.neq rfl ?_
    refine RL.nil ?_
    refine NX.seq ?_
    refine TR.cond rfl (fun h2 => ?_) (fun h2 => ?_)
    · skip
      have h30 := of_decide_eq_true h2
      refine TR.seq ?_
      refine TR.region ?_
      refine RL.move rfl rfl rfl ?_
      refine RL.move rfl rfl rfl ?_
      refine RL.assign rfl rfl rfl ?_
      refine RL.assign rfl rfl rfl ?_
      refine RL.nil ?_
      refine NX.seq ?_
      refine TR.ret ?_
      refine NX.retThen ?_
      exact NX.ret2 (⟨(r, sr), by rw [ruleR_n]; exact .ask hqr (by rw [if_pos h30]; exact .ret), hoksr⟩ : {q : An × T // Runs A.stp (ruleR [110, c]) s q.1 q.2 ∧ A.ok q.2}) rfl rfl rfl rfl (fun w hw => (hw.to 1 [0] 1 [0] rfl))
    · skip
      have h30 := of_decide_eq_false h2
      refine TR.skip ?_
      refine NX.seq ?_
      refine TR.seq ?_
      refine TR.region ?_
      refine RL.move rfl rfl rfl ?_
      refine RL.call rfl rfl Try.call28 rfl (numbers_spec (l := r.s)) (fun z => ?_)
      refine RL.assign rfl rfl rfl ?_
      refine RL.nil ?_
      refine NX.seq ?_
      refine TR.seq ?_
      refine TR.seq ?_
      refine TR.region ?_
      refine RL.move rfl rfl rfl ?_
      refine RL.indexAddr rfl wn_tl22 wn_tz3 rfl rfl (by omega) (by omega) rfl ?_
      refine RL.loadF rfl rfl (fun w K hF => run_loadCell1 (j := (0 : Int).toNat * 1) (hF (CellsF z 0 (numC (valB r.s))) (.head _)) wn_ts3 rfl) rfl ?_
      refine RL.bin rfl rfl rfl BinV.eql rfl ?_
      refine RL.nil ?_
      refine NX.seq ?_
      refine TR.cond rfl (fun h3 => ?_) (fun h3 => ?_)
      · skip
        have h38 : valB r.s % 5 = 0 := by have := of_decide_eq_true h3; omega
        refine TR.seq ?_
        refine TR.region ?_
        refine RL.move rfl rfl rfl ?_
        refine RL.indexAddr rfl wn_tl22 wn_tz3 rfl rfl (by omega) (by omega) rfl ?_
        refine RL.loadF rfl rfl (fun w K hF => run_loadCell1 (j := (3 : Int).toNat * 1) (hF (CellsF z 0 (numC (valB r.s))) (.head _)) wn_ts3 rfl) rfl ?_
        refine RL.call rfl rfl Try.call13 rfl (dec_spec (n := valB r.s / 500 % 10) (by omega)) (fun _ => ?_)
        refine RL.assign rfl rfl rfl ?_
        refine RL.assign rfl rfl rfl ?_
        refine RL.nil ?_
        refine NX.seq ?_
        refine TR.ret ?_
        refine NX.retThen ?_
        exact NX.ret2 (⟨(⟨dec (valB r.s / 500 % 10), 0⟩, sr), by rw [ruleR_n]; exact .ask hqr (by rw [if_neg h30]; unfold bodyR; rw [if_pos h38]; exact .ret), hoksr⟩ : {q : An × T // Runs A.stp (ruleR [110, c]) s q.1 q.2 ∧ A.ok q.2}) rfl rfl rfl rfl (fun w hw => (hw.to 1 [0] 2 [1] rfl))
      · skip
        have h38 : ¬ valB r.s % 5 = 0 := by have := of_decide_eq_false h3; omega
        refine TR.skip ?_
        refine NX.seq ?_
        refine TR.seq ?_
        have hva := valB_lt r.s
        refine TR.region ?_
        refine RL.move rfl rfl rfl ?_
        refine RL.move rfl rfl rfl ?_
        refine RL.indexAddr rfl wn_tl22 wn_tz3 rfl rfl (by omega) (by omega) rfl ?_
        refine RL.loadF rfl rfl (fun w K hF => run_loadCell1 (j := (1 : Int).toNat * 1) (hF (CellsF z 0 (numC (valB r.s))) (.head _)) wn_ts3 rfl) rfl ?_
        refine RL.call rfl rfl Try.call16 rfl (node_spec (n := valB r.s / 5 % 10)) (fun _ => ?_)
        refine RL.callV (fst := []) (cap := A.cap) rfl rfl rfl A.enter rfl (A.call (nK (valB r.s / 5 % 10)) sr _ _ (nK_in _) hoksr (.tail _ (.head _)) (fun φ h => .tail _ (.tail _ (hbase φ h)))) (fun q => ?_)
        obtain ⟨⟨a, sa⟩, hqa, hoksa⟩ := q
        dsimp only at hqa hoksa ⊢
        refine RL.move rfl rfl rfl ?_
        refine RL.extract rfl rfl rfl rfl ?_
        refine RL.extract rfl rfl rfl rfl ?_
        refine RL.assign rfl rfl rfl ?_
        refine RL.assign rfl rfl rfl ?_
        refine RL.nil ?_
        refine NX.seq ?_
        refine TR.seq ?_
        refine TR.seq ?_
        refine TR.region ?_
        refine RL.move rfl rfl rfl ?_
        refine RL.indexAddr rfl wn_tl22 wn_tz3 rfl rfl (by omega) (by omega) rfl ?_
        refine RL.loadF rfl rfl (fun w K hF => run_loadCell1 (j := (0 : Int).toNat * 1) (hF (CellsF z 0 (numC (valB r.s))) (.tail _ (.head _))) wn_ts3 rfl) rfl ?_
        refine RL.nil ?_
        refine NX.seq ?_
        refine TR.block ?_
        refine TR.seq ?_
        refine TR.region ?_
        refine RL.bin rfl rfl rfl BinV.eql rfl ?_
        refine RL.assign rfl rfl rfl ?_
        refine RL.nil ?_
        refine NX.seq ?_
        refine TR.cond rfl (fun h4 => ?_) (fun h4 => ?_)
        · skip
          have h55 : valB r.s % 5 = 1 := by have := of_decide_eq_true h4; omega
          refine TR.seq ?_
          refine TR.seq ?_
          refine TR.region ?_
          refine RL.move rfl rfl rfl ?_
          refine RL.bin rfl rfl rfl BinV.neq rfl ?_
          refine RL.nil ?_
          refine NX.seq ?_
          refine TR.cond rfl (fun h5 => ?_) (fun h5 => ?_)
          · skip
            have h58 := of_decide_eq_true h5
            refine TR.seq ?_
            refine TR.region ?_
            refine RL.move rfl rfl rfl ?_
            refine RL.move rfl rfl rfl ?_
            refine RL.assign rfl rfl rfl ?_
            refine RL.assign rfl rfl rfl ?_
            refine RL.nil ?_
            refine NX.seq ?_
            refine TR.ret ?_
            refine NX.retThen ?_
            refine NX.retBlock ?_
            refine NX.retThen ?_
            exact NX.ret2 (⟨(a, sa), by rw [ruleR_n]; exact .ask hqr (by rw [if_neg h30]; unfold bodyR; rw [if_neg h38]; exact .ask hqa (by rw [if_pos h55, if_pos h58]; exact .ret)), hoksa⟩ : {q : An × T // Runs A.stp (ruleR [110, c]) s q.1 q.2 ∧ A.ok q.2}) rfl rfl rfl rfl (fun w hw => (hw.to 1 [0] 3 [0] rfl))
          · skip
            have h58 := of_decide_eq_false h5
            refine TR.skip ?_
            refine NX.seq ?_
            refine TR.seq ?_
            refine TR.region ?_
            refine RL.move rfl rfl rfl ?_
            refine RL.move rfl rfl rfl ?_
            refine RL.indexAddr rfl wn_tl22 wn_tz3 rfl rfl (by omega) (by omega) rfl ?_
            refine RL.loadF rfl rfl (fun w K hF => run_loadCell1 (j := (2 : Int).toNat * 1) (hF (CellsF z 0 (numC (valB r.s))) (.tail _ (.head _))) wn_ts3 rfl) rfl ?_
            refine RL.call rfl rfl Try.call16 rfl (node_spec (n := valB r.s / 50 % 10)) (fun _ => ?_)
            refine RL.callV (fst := []) (cap := A.cap) rfl rfl rfl A.enter rfl (A.call (nK (valB r.s / 50 % 10)) sa _ _ (nK_in _) hoksa (.head _) (fun φ h => .tail _ (.tail _ (.tail _ (hbase φ h))))) (fun q => ?_)
            obtain ⟨⟨b, sb⟩, hqb, hoksb⟩ := q
            dsimp only at hqb hoksb ⊢
            refine RL.move rfl rfl rfl ?_
            refine RL.extract rfl rfl rfl rfl ?_
            refine RL.extract rfl rfl rfl rfl ?_
            refine RL.assign rfl rfl rfl ?_
            refine RL.assign rfl rfl rfl ?_
            refine RL.nil ?_
            refine NX.seq ?_
            refine TR.seq ?_
            refine TR.seq ?_
            refine TR.region ?_
            refine RL.move rfl rfl rfl ?_
            refine RL.bin rfl rfl rfl BinV.neq rfl ?_
            refine RL.nil ?_
            refine NX.seq ?_
            refine TR.cond rfl (fun h6 => ?_) (fun h6 => ?_)
            · skip
              have h71 := of_decide_eq_true h6
              refine TR.seq ?_
              refine TR.region ?_
              refine RL.move rfl rfl rfl ?_
              refine RL.move rfl rfl rfl ?_
              refine RL.assign rfl rfl rfl ?_
              refine RL.assign rfl rfl rfl ?_
              refine RL.nil ?_
              refine NX.seq ?_
              refine TR.ret ?_
              refine NX.retThen ?_
              refine NX.retBlock ?_
              refine NX.retThen ?_
              exact NX.ret2 (⟨(b, sb), by rw [ruleR_n]; exact .ask hqr (by rw [if_neg h30]; unfold bodyR; rw [if_neg h38]; exact .ask hqa (by rw [if_pos h55, if_neg h58]; exact .ask hqb (by rw [if_pos h71]; exact .ret))), hoksb⟩ : {q : An × T // Runs A.stp (ruleR [110, c]) s q.1 q.2 ∧ A.ok q.2}) rfl rfl rfl rfl (fun w hw => (hw.to 1 [0] 4 [0] rfl))
            · skip
              have h71 := of_decide_eq_false h6
              refine TR.skip ?_
              refine NX.seq ?_
              refine TR.seq ?_
              have hva1 := valB_lt a.s
              have hva2 := valB_lt b.s
              refine TR.sub (E' := [(5, _), (8, _), (9, _), (10, _), (11, _)]) ⟨rfl, rfl, rfl, rfl, rfl, trivial⟩ ?_
              refine TR.draw mixed ?_
              apply AR.more [(0, _), (2, _), (5, _), (6, _), (7, _)]
              refine AR.eff [0, 2, 5, 6, 7] 1 [0, 1, 2, 3, 4, 5, 6, 7, 8, 9, 10, 11, 12] ⟨QOne.yes rfl rfl rfl (PV.move rfl), QOne.yes rfl rfl rfl (PV.move rfl), QOne.yes rfl rfl rfl (PV.move rfl), QOne.yes rfl rfl rfl (PV.indexAddr wn_tl22 wn_tz3 rfl rfl (by omega) (by omega)), QOne.yes rfl rfl rfl (PV.loadF rfl (fun w K hF => run_loadCell1 (j := (3 : Int).toNat * 1) (hF (CellsF z 0 (numC (valB r.s))) (.tail _ (.tail _ (.head _)))) wn_ts3 rfl)), trivial⟩ rfl rfl rfl rfl rfl rfl rfl (EV.call rfl Try.call29 (value_spec (l := a.s))) (fun _ => ?_)
              refine AR.done [0] rfl ?_
              refine AR.eff [2, 5, 6, 7] 3 [0, 1, 2, 3, 4, 5, 6, 7, 8, 9, 10, 11, 12] ⟨QOne.yes rfl rfl rfl (PV.move rfl), QOne.yes rfl rfl rfl (PV.move rfl), QOne.yes rfl rfl rfl (PV.indexAddr wn_tl22 wn_tz3 rfl rfl (by omega) (by omega)), QOne.yes rfl rfl rfl (PV.loadF rfl (fun w K hF => run_loadCell1 (j := (3 : Int).toNat * 1) (hF (CellsF z 0 (numC (valB r.s))) (.tail _ (.tail _ (.head _)))) wn_ts3 rfl)), trivial⟩ rfl rfl rfl rfl rfl rfl rfl (EV.call rfl Try.call29 (value_spec (l := b.s))) (fun _ => ?_)
              refine AR.done [2] rfl ?_
              apply AR.more [(4, _), (8, _), (9, _)]
              refine AR.eff [4, 5, 6, 7, 8, 9] 10 [0, 1, 2, 3, 4, 5, 6, 7, 8, 9, 10, 11, 12] ⟨QOne.yes rfl rfl rfl (PV.bin rfl rfl (BinV.add ((valB a.s + valB b.s : Nat) : Int) (by omega) (by omega) (by omega))), QOne.yes rfl rfl rfl (PV.move rfl), QOne.yes rfl rfl rfl (PV.indexAddr wn_tl22 wn_tz3 rfl rfl (by omega) (by omega)), QOne.yes rfl rfl rfl (PV.loadF rfl (fun w K hF => run_loadCell1 (j := (3 : Int).toNat * 1) (hF (CellsF z 0 (numC (valB r.s))) (.tail _ (.tail _ (.head _)))) wn_ts3 rfl)), QOne.yes rfl rfl rfl (PV.bin rfl rfl (BinV.add ((valB a.s + valB b.s + valB r.s / 500 % 10 : Nat) : Int) (by omega) (by omega) (by omega))), QOne.yes rfl rfl rfl (PV.bin rfl rfl (BinV.remK (a := valB a.s + valB b.s + valB r.s / 500 % 10) (b := 1000) (by decide))), trivial⟩ rfl rfl rfl rfl rfl rfl rfl (EV.call rfl Try.call13 (dec_spec (n := (valB a.s + valB b.s + valB r.s / 500 % 10) % 1000) (by omega))) (fun _ => ?_)
              refine AR.done [9, 8, 4, 7, 6, 5] rfl ?_
              apply AR.more [(11, _), (12, _)]
              refine AR.last [11, 12] [0, 1, 2, 3, 4, 5, 6, 7, 8, 9, 10, 11, 12] ⟨QOne.yes rfl rfl rfl (PV.assign rfl), QOne.yes rfl rfl rfl (PV.assign rfl), trivial⟩ rfl rfl rfl ?_
              refine NX.sub (E' := [(4, _), (5, _), (9, _), (10, _)]) ⟨rfl, rfl, rfl, rfl, trivial⟩ ?_
              refine NX.seq ?_
              refine TR.ret ?_
              refine NX.retBlock ?_
              refine NX.retThen ?_
              exact NX.ret2 (⟨(⟨dec ((valB a.s + valB b.s + valB r.s / 500 % 10) % 1000), 0⟩, sb), by rw [ruleR_n]; exact .ask hqr (by rw [if_neg h30]; unfold bodyR; rw [if_neg h38]; exact .ask hqa (by rw [if_pos h55, if_neg h58]; exact .ask hqb (by rw [if_neg h71]; exact .ret))), hoksb⟩ : {q : An × T // Runs A.stp (ruleR [110, c]) s q.1 q.2 ∧ A.ok q.2}) rfl rfl rfl rfl (fun w hw => (hw.to 1 [0] 4 [0] rfl))
        · skip
          have h55 : ¬ valB r.s % 5 = 1 := by have := of_decide_eq_false h4; omega
          refine TR.seq ?_
          refine TR.region ?_
          refine RL.bin rfl rfl rfl BinV.eql rfl ?_
          refine RL.assign rfl rfl rfl ?_
          refine RL.nil ?_
          refine NX.seq ?_
          refine TR.cond rfl (fun h7 => ?_) (fun h7 => ?_)
          · skip
            have h85 : valB r.s % 5 = 2 := by have := of_decide_eq_true h7; omega
            refine TR.seq ?_
            refine TR.seq ?_
            refine TR.region ?_
            refine RL.move rfl rfl rfl ?_
            refine RL.bin rfl rfl rfl BinV.neq rfl ?_
            refine RL.nil ?_
            refine NX.seq ?_
            refine TR.cond rfl (fun h8 => ?_) (fun h8 => ?_)
            · skip
              have h88 := of_decide_eq_true h8
              refine TR.seq ?_
              refine TR.region ?_
              refine RL.assign rfl rfl rfl ?_
              refine RL.assign rfl rfl rfl ?_
              refine RL.nil ?_
              refine NX.seq ?_
              refine TR.ret ?_
              refine NX.retThen ?_
              refine NX.retBlock ?_
              refine NX.retThen ?_
              exact NX.ret2 (⟨(⟨[55], 0⟩, sa), by rw [ruleR_n]; exact .ask hqr (by rw [if_neg h30]; unfold bodyR; rw [if_neg h38]; exact .ask hqa (by rw [if_neg h55, if_pos h85, if_pos h88]; exact .ret)), hoksa⟩ : {q : An × T // Runs A.stp (ruleR [110, c]) s q.1 q.2 ∧ A.ok q.2}) rfl rfl rfl rfl (fun w hw => (hw.to 1 [0] 3 [0] rfl))
            · skip
              have h88 := of_decide_eq_false h8
              refine TR.skip ?_
              refine NX.seq ?_
              refine TR.seq ?_
              refine TR.region ?_
              refine RL.move rfl rfl rfl ?_
              refine RL.assign rfl rfl rfl ?_
              refine RL.assign rfl rfl rfl ?_
              refine RL.nil ?_
              refine NX.seq ?_
              refine TR.ret ?_
              refine NX.retBlock ?_
              refine NX.retThen ?_
              exact NX.ret2 (⟨(⟨a.s, 0⟩, sa), by rw [ruleR_n]; exact .ask hqr (by rw [if_neg h30]; unfold bodyR; rw [if_neg h38]; exact .ask hqa (by rw [if_neg h55, if_pos h85, if_neg h88]; exact .ret)), hoksa⟩ : {q : An × T // Runs A.stp (ruleR [110, c]) s q.1 q.2 ∧ A.ok q.2}) rfl rfl rfl rfl (fun w hw => (hw.to 1 [0] 3 [0] rfl))
          · skip
            have h85 : ¬ valB r.s % 5 = 2 := by have := of_decide_eq_false h7; omega
            refine TR.seq ?_
            refine TR.region ?_
            refine RL.bin rfl rfl rfl BinV.eql rfl ?_
            refine RL.assign rfl rfl rfl ?_
            refine RL.nil ?_
            refine NX.seq ?_
            refine TR.cond rfl (fun h9 => ?_) (fun h9 => ?_)
            · skip
              have h90 : valB r.s % 5 = 3 := by have := of_decide_eq_true h9; omega
              refine TR.seq ?_
              refine TR.seq ?_
              have hva1 := valB_lt a.s
              refine TR.region ?_
              refine RL.move rfl rfl rfl ?_
              refine RL.bin rfl rfl rfl BinV.eql rfl ?_
              refine RL.move rfl rfl rfl ?_
              refine RL.part (fun h10 => ?_) (fun h10 => ?_)
              · skip
                have h93 := of_decide_eq_true h10
                refine RL.move rfl rfl rfl ?_
                refine RL.call rfl rfl Try.call29 rfl (value_spec (l := a.s)) (fun _ => ?_)
                refine RL.bin rfl rfl rfl (BinV.remK (a := valB a.s) (b := 2) (by decide)) rfl ?_
                refine RL.bin rfl rfl rfl BinV.eql rfl ?_
                refine RL.pickT rfl rfl rfl rfl ?_
                refine RL.nil ?_
                refine NX.seq ?_
                refine TR.cond rfl (fun h11 => ?_) (fun h11 => ?_)
                · skip
                  have h99 : valB a.s % 2 = 0 := by have := of_decide_eq_true h11; omega
                  refine TR.seq ?_
                  refine TR.region ?_
                  refine RL.move rfl rfl rfl ?_
                  refine RL.move rfl rfl rfl ?_
                  refine RL.indexAddr rfl wn_tl22 wn_tz3 rfl rfl (by omega) (by omega) rfl ?_
                  refine RL.loadF rfl rfl (fun w K hF => run_loadCell1 (j := (2 : Int).toNat * 1) (hF (CellsF z 0 (numC (valB r.s))) (.tail _ (.head _))) wn_ts3 rfl) rfl ?_
                  refine RL.call rfl rfl Try.call16 rfl (node_spec (n := valB r.s / 50 % 10)) (fun _ => ?_)
                  refine RL.callV (fst := []) (cap := A.cap) rfl rfl rfl A.enter rfl (A.call (nK (valB r.s / 50 % 10)) sa _ _ (nK_in _) hoksa (.head _) (fun φ h => .tail _ (.tail _ (.tail _ (hbase φ h))))) (fun q => ?_)
                  obtain ⟨⟨b, sb⟩, hqb, hoksb⟩ := q
                  dsimp only at hqb hoksb ⊢
                  refine RL.extract rfl rfl rfl rfl ?_
                  refine RL.extract rfl rfl rfl rfl ?_
                  refine RL.assign rfl rfl rfl ?_
                  refine RL.assign rfl rfl rfl ?_
                  refine RL.nil ?_
                  refine NX.seq ?_
                  refine TR.ret ?_
                  refine NX.retThen ?_
                  refine NX.retBlock ?_
                  refine NX.retThen ?_
                  exact NX.ret2 (⟨(b, sb), by rw [ruleR_n]; exact .ask hqr (by rw [if_neg h30]; unfold bodyR; rw [if_neg h38]; exact .ask hqa (by rw [if_neg h55, if_neg h85, if_pos h90, if_pos ⟨h93, h99⟩]; exact .ask hqb .ret)), hoksb⟩ : {q : An × T // Runs A.stp (ruleR [110, c]) s q.1 q.2 ∧ A.ok q.2}) rfl rfl rfl rfl (fun w hw => (hw.to 1 [0] 4 [0] rfl))
                · skip
                  have h99 : ¬ valB a.s % 2 = 0 := by have := of_decide_eq_false h11; omega
                  refine TR.skip ?_
                  refine NX.seq ?_
                  refine TR.seq ?_
                  refine TR.region ?_
                  refine RL.move rfl rfl rfl ?_
                  refine RL.move rfl rfl rfl ?_
                  refine RL.indexAddr rfl wn_tl22 wn_tz3 rfl rfl (by omega) (by omega) rfl ?_
                  refine RL.loadF rfl rfl (fun w K hF => run_loadCell1 (j := (3 : Int).toNat * 1) (hF (CellsF z 0 (numC (valB r.s))) (.tail _ (.head _))) wn_ts3 rfl) rfl ?_
                  refine RL.call rfl rfl Try.call16 rfl (node_spec (n := valB r.s / 500 % 10)) (fun _ => ?_)
                  refine RL.callV (fst := []) (cap := A.cap) rfl rfl rfl A.enter rfl (A.call (nK (valB r.s / 500 % 10)) sa _ _ (nK_in _) hoksa (.head _) (fun φ h => .tail _ (.tail _ (.tail _ (hbase φ h))))) (fun q => ?_)
                  obtain ⟨⟨b, sb⟩, hqb, hoksb⟩ := q
                  dsimp only at hqb hoksb ⊢
                  refine RL.extract rfl rfl rfl rfl ?_
                  refine RL.extract rfl rfl rfl rfl ?_
                  refine RL.assign rfl rfl rfl ?_
                  refine RL.assign rfl rfl rfl ?_
                  refine RL.nil ?_
                  refine NX.seq ?_
                  refine TR.ret ?_
                  refine NX.retBlock ?_
                  refine NX.retThen ?_
                  exact NX.ret2 (⟨(b, sb), by rw [ruleR_n]; exact .ask hqr (by rw [if_neg h30]; unfold bodyR; rw [if_neg h38]; exact .ask hqa (by rw [if_neg h55, if_neg h85, if_pos h90, if_neg (fun e => h99 e.2)]; exact .ask hqb .ret)), hoksb⟩ : {q : An × T // Runs A.stp (ruleR [110, c]) s q.1 q.2 ∧ A.ok q.2}) rfl rfl rfl rfl (fun w hw => (hw.to 1 [0] 4 [0] rfl))
              · skip
                have h93 := of_decide_eq_false h10
                refine RL.skip rfl rfl rfl ?_
                refine RL.skip rfl rfl rfl ?_
                refine RL.skip rfl rfl rfl ?_
                refine RL.skip rfl rfl rfl ?_
                refine RL.pickF rfl rfl rfl rfl ?_
                refine RL.nil ?_
                refine NX.seq ?_
                refine TR.condF rfl ?_
                refine TR.skip ?_
                refine NX.seq ?_
                refine TR.seq ?_
                refine TR.region ?_
                refine RL.move rfl rfl rfl ?_
                refine RL.move rfl rfl rfl ?_
                refine RL.indexAddr rfl wn_tl22 wn_tz3 rfl rfl (by omega) (by omega) rfl ?_
                refine RL.loadF rfl rfl (fun w K hF => run_loadCell1 (j := (3 : Int).toNat * 1) (hF (CellsF z 0 (numC (valB r.s))) (.tail _ (.head _))) wn_ts3 rfl) rfl ?_
                refine RL.call rfl rfl Try.call16 rfl (node_spec (n := valB r.s / 500 % 10)) (fun _ => ?_)
                refine RL.callV (fst := []) (cap := A.cap) rfl rfl rfl A.enter rfl (A.call (nK (valB r.s / 500 % 10)) sa _ _ (nK_in _) hoksa (.head _) (fun φ h => .tail _ (.tail _ (.tail _ (hbase φ h))))) (fun q => ?_)
                obtain ⟨⟨b, sb⟩, hqb, hoksb⟩ := q
                dsimp only at hqb hoksb ⊢
                refine RL.extract rfl rfl rfl rfl ?_
                refine RL.extract rfl rfl rfl rfl ?_
                refine RL.assign rfl rfl rfl ?_
                refine RL.assign rfl rfl rfl ?_
                refine RL.nil ?_
                refine NX.seq ?_
                refine TR.ret ?_
                refine NX.retBlock ?_
                refine NX.retThen ?_
                exact NX.ret2 (⟨(b, sb), by rw [ruleR_n]; exact .ask hqr (by rw [if_neg h30]; unfold bodyR; rw [if_neg h38]; exact .ask hqa (by rw [if_neg h55, if_neg h85, if_pos h90, if_neg (fun e => h93 e.1)]; exact .ask hqb .ret)), hoksb⟩ : {q : An × T // Runs A.stp (ruleR [110, c]) s q.1 q.2 ∧ A.ok q.2}) rfl rfl rfl rfl (fun w hw => (hw.to 1 [0] 4 [0] rfl))
            · skip
              have h90 : ¬ valB r.s % 5 = 3 := by have := of_decide_eq_false h9; omega
              refine TR.skip ?_
              refine NX.off ?_
              refine NX.seq ?_
              refine TR.seq ?_
              refine TR.seq ?_
              refine TR.region ?_
              refine RL.move rfl rfl rfl ?_
              refine RL.bin rfl rfl rfl BinV.neq rfl ?_
              refine RL.nil ?_
              refine NX.seq ?_
              refine TR.cond rfl (fun h12 => ?_) (fun h12 => ?_)
              · skip
                have h117 := of_decide_eq_true h12
                refine TR.seq ?_
                refine TR.region ?_
                refine RL.move rfl rfl rfl ?_
                refine RL.move rfl rfl rfl ?_
                refine RL.assign rfl rfl rfl ?_
                refine RL.assign rfl rfl rfl ?_
                refine RL.nil ?_
                refine NX.seq ?_
                refine TR.ret ?_
                refine NX.retThen ?_
                exact NX.ret2 (⟨(a, sa), by rw [ruleR_n]; exact .ask hqr (by rw [if_neg h30]; unfold bodyR; rw [if_neg h38]; exact .ask hqa (by rw [if_neg h55, if_neg h85, if_neg h90, if_pos h117]; exact .ret)), hoksa⟩ : {q : An × T // Runs A.stp (ruleR [110, c]) s q.1 q.2 ∧ A.ok q.2}) rfl rfl rfl rfl (fun w hw => (hw.to 1 [0] 3 [0] rfl))
              · skip
                have h117 := of_decide_eq_false h12
                refine TR.skip ?_
                refine NX.seq ?_
                refine TR.seq ?_
                have hva1 := valB_lt a.s
                refine TR.region ?_
                refine RL.move rfl rfl rfl ?_
                refine RL.call rfl rfl Try.call29 rfl (value_spec (l := a.s)) (fun _ => ?_)
                refine RL.bin rfl rfl rfl (BinV.quo (by decide) ((valB a.s / 4 : Nat) : Int) (by rw [Int.tdiv_eq_ediv_of_nonneg (by omega)]; omega) (by omega) (by omega)) rfl ?_
                refine RL.bin rfl rfl rfl (BinV.remK (a := valB a.s / 4) (b := 2) (by decide)) rfl ?_
                refine RL.call rfl rfl Try.call13 rfl (dec_spec (n := valB a.s / 4 % 2) (by omega)) (fun _ => ?_)
                refine RL.assign rfl rfl rfl ?_
                refine RL.assign rfl rfl rfl ?_
                refine RL.nil ?_
                refine NX.seq ?_
                refine TR.ret ?_
                exact NX.ret2 (⟨(⟨dec (valB a.s / 4 % 2), 0⟩, sa), by rw [ruleR_n]; exact .ask hqr (by rw [if_neg h30]; unfold bodyR; rw [if_neg h38]; exact .ask hqa (by rw [if_neg h55, if_neg h85, if_neg h90, if_neg h117]; exact .ret)), hoksa⟩ : {q : An × T // Runs A.stp (ruleR [110, c]) s q.1 q.2 ∧ A.ok q.2}) rfl rfl rfl rfl (fun w hw => (hw.to 1 [0] 3 [0] rfl))
def ruV : Fnv Try.prog UR ruleR := ⟨11, Try.call11, run_run⟩
end Go.Proofs.Ythefimaaeilefaa

namespace Go.Proofs.Ythefimaaeilefaa
open Go.GL
set_option linter.unusedVariables false
theorem wo_bs35_1_0 (x0 : List UInt8) : BuildSV Try.prog 35 9 1 [(0, S x0)] [S x0] := fun w => by kernel_rfl
theorem wo_bs35_2_0_1 (x0 : List UInt8) (x1 : List UInt8) : BuildSV Try.prog 35 9 2 [(0, S x0), (1, S x1)] [S x0, S x1] := fun w => by kernel_rfl
theorem wo_tl35 : tySlice Try.prog 35 9 = true := by kernel_rfl
theorem wo_tp24 : tyPtr Try.prog 24 65 = true := by kernel_rfl
theorem wo_ts9 : tyScalar Try.prog 9 = true := by kernel_rfl
theorem wo_tz9 : tySize Try.prog 9 1 = true := by kernel_rfl
theorem coC_at {l : List Ky} {k : Nat} (h : k < l.length) : (coC l)[(k : Int).toNat * 1]? = some (S l[k]) := by
  unfold coC; rw [Int.toNat_natCast, Nat.mul_one, List.getElem?_map, List.getElem?_eq_getElem h]; rfl
theorem coC_ne {l : List Ky} {k : Nat} (h : k < l.length) : coC l ≠ [] := by
  unfold coC; intro e; rw [List.map_eq_nil_iff] at e; rw [e] at h; simp at h
theorem sameT_spec {xs ys : List Ky} {oa ob : Option Addr} {ca cb : Nat} {M : List HP} {F : List Fact} (ha : ArrF oa (coC xs) ∈ F) (hb : ArrF ob (coC ys) ∈ F) (hxl : xs.length ≤ 4611686018427387904) : Ctr Try.prog 19 [.slice oa xs.length ca, .slice ob ys.length cb] M F Unit (fun _ => .bool (decide (xs = ys))) (fun _ => M) (fun _ => F) := by
  refine Ctr.body Try.func19 rfl rfl ?_
  refine TR.seq ?_
  refine TR.region ?_
  refine RL.assign rfl rfl rfl ?_
  refine RL.nil ?_
  refine NX.seq ?_
  refine TR.seq ?_
  refine TR.seq ?_
  refine TR.region ?_
  refine RL.move rfl rfl rfl ?_
  refine RL.lenSlice rfl wo_tl35 rfl rfl ?_
  refine RL.move rfl rfl rfl ?_
  refine RL.lenSlice rfl wo_tl35 rfl rfl ?_
  refine RL.bin rfl rfl rfl BinV.neq rfl ?_
  refine RL.nil ?_
  refine NX.seq ?_
  refine TR.cond rfl (fun h1 => ?_) (fun h1 => ?_)
  · skip
    have hlen : ¬ xs.length = ys.length := by have := of_decide_eq_true h1; omega
    refine TR.seq ?_
    refine TR.region ?_
    refine RL.assign rfl rfl rfl ?_
    refine RL.nil ?_
    refine NX.seq ?_
    refine TR.ret ?_
    refine NX.retThen ?_
    refine NX.ret1 () rfl rfl (congrArg Value.bool (Eq.symm (decide_eq_false (fun e => hlen (congrArg _ e))))) (fun w hw => hw)
  · skip
    have hlen : xs.length = ys.length := by have := of_decide_eq_false h1; omega
    refine TR.skip ?_
    refine NX.seq ?_
    refine TR.seq ?_
    refine TR.seq ?_
    refine TR.region ?_
    refine RL.assign rfl rfl rfl ?_
    refine RL.nil ?_
    refine NX.seq ?_
    refine TR.block ?_
    refine TR.loopP (ι := Nat) (fun k => k ≤ xs.length ∧ xs.take k = ys.take k) (fun k => [(0, .slice oa xs.length ca), (1, .slice ob ys.length cb), (5, I (k : Nat))]) (fun k => M) (fun k => F) (fun k => (xs.length - k)) 0 ⟨Nat.zero_le _, rfl⟩ ⟨rfl, rfl, rfl, trivial⟩ (fun w hw => (hw.to 0 [] 0 [] rfl)) (fun k hk => ?_)
    refine TR.seq ?_
    refine TR.seq ?_
    refine TR.region ?_
    refine RL.move rfl rfl rfl ?_
    refine RL.move rfl rfl rfl ?_
    refine RL.lenSlice rfl wo_tl35 rfl rfl ?_
    refine RL.bin rfl rfl rfl BinV.lss rfl ?_
    refine RL.nil ?_
    refine NX.seq ?_
    refine TR.cond rfl (fun h2 => ?_) (fun h2 => ?_)
    · skip
      have hk1 : k < xs.length := by have := of_decide_eq_true h2; omega
      have hk2 : k < ys.length := by omega
      refine TR.openP (open_arr ha (coC_ne hk1)) (fun x hx => ?_)
      refine TR.openP (open_arr (.tail _ hb) (coC_ne hk2)) (fun y hy => ?_)
      subst hx hy
      refine TR.skip ?_
      refine NX.seq ?_
      refine TR.seq ?_
      refine TR.block ?_
      refine TR.seq ?_
      refine TR.sub (E' := [(0, _), (1, _), (5, _), (11, _), (12, _), (13, _), (14, _)]) ⟨rfl, rfl, rfl, rfl, rfl, rfl, rfl, trivial⟩ ?_
      refine TR.draw mixed ?_
      apply AR.more [(0, _), (1, _), (2, _), (3, _), (4, _), (5, _), (6, _), (7, _), (8, _)]
      refine AR.last [0, 1, 2, 3, 4, 5, 6, 7, 8] [0, 1, 2, 3, 4, 5, 6, 7, 8] ⟨QOne.yes rfl rfl rfl (PV.move rfl), QOne.yes rfl rfl rfl (PV.move rfl), QOne.yes rfl rfl rfl (PV.indexAddr wo_tl35 wo_tz9 rfl rfl (by omega) (by omega)), QOne.yes rfl rfl rfl (PV.loadF rfl (fun w K hF => run_loadCell1 (j := (k : Int).toNat * 1) (v := S xs[k]) (hF (CellsF x.1 x.2 (coC xs)) (.tail _ (.head _))) wo_ts9 (coC_at hk1))), QOne.yes rfl rfl rfl (PV.move rfl), QOne.yes rfl rfl rfl (PV.move rfl), QOne.yes rfl rfl rfl (PV.indexAddr wo_tl35 wo_tz9 rfl rfl (by omega) (by omega)), QOne.yes rfl rfl rfl (PV.loadF rfl (fun w K hF => run_loadCell1 (j := (k : Int).toNat * 1) (v := S ys[k]) (hF (CellsF y.1 y.2 (coC ys)) (.head _)) wo_ts9 (coC_at hk2))), QOne.yes rfl rfl rfl (PV.bin rfl rfl BinV.neqS), trivial⟩ rfl rfl rfl ?_
      refine NX.sub (E' := [(0, _), (1, _), (5, _), (11, _), (12, _), (13, _), (14, _), (17, _), (18, _), (19, _), (20, _), (21, _), (22, _), (23, _), (24, _), (25, _)]) ⟨rfl, rfl, rfl, rfl, rfl, rfl, rfl, rfl, rfl, rfl, rfl, rfl, rfl, rfl, rfl, rfl, trivial⟩ ?_
      refine NX.seq ?_
      refine TR.cond rfl (fun h3 => ?_) (fun h3 => ?_)
      · skip
        have h25 := of_decide_eq_true h3
        refine TR.seq ?_
        refine TR.region ?_
        refine RL.assign rfl rfl rfl ?_
        refine RL.nil ?_
        refine NX.seq ?_
        refine TR.ret ?_
        refine NX.retBlock ?_
        refine NX.retThen ?_
        refine NX.retThen ?_
        refine NX.retBlock ?_
        refine NX.retThen ?_
        refine NX.ret1 () rfl rfl (congrArg Value.bool (Eq.symm (decide_eq_false (tk_ne hk1 hk2 h25)))) (fun w hw => (hw.to 0 [] 2 [] rfl))
      · skip
        have h25 := of_decide_eq_false h3
        refine TR.skip ?_
        refine NX.off ?_
        refine NX.seq ?_
        refine TR.region ?_
        refine RL.move rfl rfl rfl ?_
        refine RL.bin rfl rfl rfl (BinV.add ((k + 1 : Nat) : Int) (by omega) (by omega) (by omega)) rfl ?_
        refine RL.assign rfl rfl rfl ?_
        refine RL.nil ?_
        refine NX.roundP (k + 1) ⟨by omega, tk_step hk.2 hk1 hk2 (Decidable.not_not.1 h25)⟩ (by omega) ⟨rfl, rfl, rfl, trivial⟩ (fun w hw => (hw.to 0 [] 2 [] rfl))
    · skip
      have hk1 : ¬ k < xs.length := by have := of_decide_eq_false h2; omega
      refine TR.exit ?_
      refine NX.exitThen ?_
      refine NX.exitThen ?_
      refine NX.exitHere ?_
      refine NX.seq ?_
      refine TR.seq ?_
      refine TR.region ?_
      refine RL.assign rfl rfl rfl ?_
      refine RL.nil ?_
      refine NX.seq ?_
      refine TR.ret ?_
      refine NX.ret1 () rfl rfl (congrArg Value.bool (Eq.symm (decide_eq_true (tk_all hk.2 hk1 hlen)))) (fun w hw => hw)
theorem computed2 {b : Nat} {bud : Int} {fv : Value} {X : EX} {M : List HP} {F : List Fact} : Ctr Try.prog 18 [PtV b] (EngI b bud fv X :: M) F (Option Addr × Nat) (fun z => .slice z.1 X.comp.length z.2) (fun z => EngI b bud fv { X with comp := [] } :: M) (fun z => ArrF z.1 (coC X.comp) :: F) :=
  Ctr.weakX computed_spec (fun w hw => hw) (fun z w hw => ⟨z, rfl, hw.swap.keepSl⟩)
theorem sameT_ok {xs ys : List Ky} {n m : Nat} {oa ob : Option Addr} {ca cb : Nat} {M : List HP} {F : List Fact} (ha : ArrF oa (coC xs) ∈ F) (hb : ArrF ob (coC ys) ∈ F) (hn : n = xs.length) (hm : m = ys.length) (hxl : xs.length ≤ 4611686018427387904) (b : Bool) (h : b = decide (xs = ys)) : Ctr Try.prog 19 [.slice oa n ca, .slice ob m cb] M F Unit (fun _ => .bool b) (fun _ => M) (fun _ => F) := by
  subst hn; subst hm; subst h; exact sameT_spec ha hb hxl
def E1 : En := setE [120] [117] newE
def G1 : An × En := getE ruleE 6 [98] 9 E1
def E2 : En := { G1.2 with comp := [] }
def E3 : En := setE [120] [118] E2
def G2 : An × En := getE ruleE 6 [98] 9 E3
def E4 : En := { G2.2 with comp := [] }
def G3 : An × En := getE ruleE 6 [112] 9 E4
def G4 : An × En := getE ruleE 6 [113] 9 G3.2
theorem liv : G1.1.s = [49, 49] ∧ G1.2.comp = [[97], [98]] ∧ G2.1.s = [49, 49] ∧ G2.2.comp = [[97]] ∧ G3.1.e = 10 ∧ G4.1.e = 10 := by decide +kernel
theorem livN : (E1.gets = 0 ∧ E1.comp.length = 0) ∧ (E3.gets = 1 ∧ E3.comp.length = 0) ∧ (E4.gets = 2 ∧ E4.comp.length = 0) ∧ G3.2.gets = 3 ∧ G3.2.comp.length ≤ 9 := by decide +kernel
theorem livB : bytesE G1.2 ≤ 100 ∧ bytesE G2.2 ≤ 100 ∧ bytesE G3.2 ≤ 100 ∧ bytesE G4.2 ≤ 100 := by decide +kernel
theorem bt1 : Bt ruleE UE E1 := Bt.new.set _ _ (by show 1 ≤ 4; decide)
theorem bt3 : Bt ruleE UE E3 := ((bt1.get ruleE_k (by decide) (by decide)).1.comp []).set _ _ (by show 1 ≤ 4; decide)
theorem bt4 : Bt ruleE UE E4 := (bt3.get ruleE_k (by decide) (by decide)).1.comp []
theorem bt5 : Bt ruleE UE G3.2 := (bt4.get ruleE_k (by decide) (by decide)).1
set_option maxHeartbeats 1000000 in
theorem lives_spec {M : List HP} {F : List Fact} : Ctr Try.prog 17 [] M F Unit (fun _ => .bool true) (fun _ => M) (fun _ => F) := by
  refine Ctr.body Try.func17 rfl rfl ?_
  refine TR.seq ?_
  refine TR.region ?_
  refine RL.assign rfl rfl rfl ?_
  refine RL.nil ?_
  refine NX.seq ?_
  refine TR.seq ?_
  refine TR.region ?_
  refine RL.call rfl rfl Try.call10 rfl (new_spec (f := .func 33) (a := [].toArray) (c := [].toArray) (by decide)) (fun b => ?_)
  refine RL.move rfl rfl rfl ?_
  refine RL.extract rfl rfl rfl rfl ?_
  refine RL.extract rfl rfl rfl rfl ?_
  refine RL.assign rfl rfl rfl ?_
  refine RL.assign rfl rfl rfl ?_
  refine RL.nil ?_
  refine NX.seq ?_
  refine TR.seq ?_
  refine TR.seq ?_
  refine TR.region ?_
  refine RL.move rfl rfl rfl ?_
  refine RL.bin rfl rfl rfl (BinV.eqlPtrNil wo_tp24) rfl ?_
  refine RL.move rfl rfl rfl ?_
  refine RL.move rfl rfl rfl ?_
  refine RL.bin rfl rfl rfl (BinV.to (d := false) BinV.neq (decide_eq_false (by decide))) rfl ?_
  refine RL.pickF rfl rfl rfl rfl ?_
  refine RL.nil ?_
  refine NX.seq ?_
  refine TR.condF rfl ?_
  refine TR.skip ?_
  refine NX.seq ?_
  refine TR.seq ?_
  refine TR.region ?_
  refine RL.move rfl rfl rfl ?_
  refine RL.call rfl rfl Try.call12 rfl (set_spec (X := newX) (k := [120]) (v := [117]) (by unfold KO; decide) (.head _)) (fun _ => ?_)
  have hE1 : (setX [120] [117] newX).en = E1 := by rw [setX_en]; rfl
  refine RL.nil ?_
  refine NX.seq ?_
  refine TR.seq ?_
  refine TR.region ?_
  refine RL.move rfl rfl rfl ?_
  refine RL.call rfl rfl Try.call15 rfl (get_spec (X := (setX [120] [117] newX)) (k := [98]) (fz := 9) UE_ko (by decide) ruleE_k exV (by decide) (by rw [hE1]; exact bt1.w) (by show 0 ≤ ((setX [120] [117] newX) : EX).en.gets; rw [hE1, livN.1.1]; decide) (by show ((setX [120] [117] newX) : EX).en.gets ≤ _; rw [hE1, livN.1.1]; decide) (by show ((setX [120] [117] newX) : EX).en.comp.length + 9 ≤ _; rw [hE1]; have := livN.1.2; omega) (by rw [hE1]; exact Int.ofNat_le.2 livB.1) (by rw [hE1]; exact Nat.le_trans livB.1 (by decide)) (.head _)) (fun Y1 => ?_)
  obtain ⟨Y1, hY1⟩ := Y1
  rw [hE1] at hY1
  have hY1 : Y1.en = G1.2 := hY1
  dsimp only
  refine RL.move rfl rfl rfl ?_
  refine RL.extract rfl rfl rfl rfl ?_
  refine RL.extract rfl rfl rfl rfl ?_
  refine RL.assign rfl rfl rfl ?_
  refine RL.assign rfl rfl rfl ?_
  refine RL.nil ?_
  refine NX.seq ?_
  refine TR.seq ?_
  refine TR.region ?_
  refine RL.move rfl rfl rfl ?_
  refine RL.call rfl rfl Try.call18 rfl (computed2 (X := Y1)) (fun z1 => ?_)
  have hE2 : ({ Y1 with comp := [] } : EX).en = E2 := by show ({ Y1.en with comp := [] } : En) = _; rw [hY1]; rfl
  refine RL.assign rfl rfl rfl ?_
  refine RL.nil ?_
  refine NX.seq ?_
  refine TR.seq ?_
  refine TR.region ?_
  refine RL.move rfl rfl rfl ?_
  refine RL.call rfl rfl Try.call12 rfl (set_spec (X := ({ Y1 with comp := [] } : EX)) (k := [120]) (v := [118]) (by unfold KO; decide) (.tail _ (.head _))) (fun _ => ?_)
  have hE3 : (setX [120] [118] ({ Y1 with comp := [] } : EX)).en = E3 := by rw [setX_en, hE2]; rfl
  refine RL.nil ?_
  refine NX.seq ?_
  refine TR.seq ?_
  refine TR.region ?_
  refine RL.move rfl rfl rfl ?_
  refine RL.call rfl rfl Try.call15 rfl (get_spec (X := (setX [120] [118] ({ Y1 with comp := [] } : EX))) (k := [98]) (fz := 9) UE_ko (by decide) ruleE_k exV (by decide) (by rw [hE3]; exact bt3.w) (by show 0 ≤ ((setX [120] [118] ({ Y1 with comp := [] } : EX)) : EX).en.gets; rw [hE3, livN.2.1.1]; decide) (by show ((setX [120] [118] ({ Y1 with comp := [] } : EX)) : EX).en.gets ≤ _; rw [hE3, livN.2.1.1]; decide) (by show ((setX [120] [118] ({ Y1 with comp := [] } : EX)) : EX).en.comp.length + 9 ≤ _; rw [hE3]; have := livN.2.1.2; omega) (by rw [hE3]; exact Int.ofNat_le.2 livB.2.1) (by rw [hE3]; exact Nat.le_trans livB.2.1 (by decide)) (.head _)) (fun Y2 => ?_)
  obtain ⟨Y2, hY2⟩ := Y2
  rw [hE3] at hY2
  have hY2 : Y2.en = G2.2 := hY2
  dsimp only
  refine RL.move rfl rfl rfl ?_
  refine RL.extract rfl rfl rfl rfl ?_
  refine RL.extract rfl rfl rfl rfl ?_
  refine RL.assign rfl rfl rfl ?_
  refine RL.assign rfl rfl rfl ?_
  refine RL.nil ?_
  refine NX.seq ?_
  refine TR.seq ?_
  refine TR.region ?_
  refine RL.move rfl rfl rfl ?_
  refine RL.call rfl rfl Try.call18 rfl (computed2 (X := Y2)) (fun z2 => ?_)
  have hE4 : ({ Y2 with comp := [] } : EX).en = E4 := by show ({ Y2.en with comp := [] } : En) = _; rw [hY2]; rfl
  refine RL.assign rfl rfl rfl ?_
  refine RL.nil ?_
  refine NX.seq ?_
  refine TR.seq ?_
  refine TR.region ?_
  refine RL.move rfl rfl rfl ?_
  refine RL.call rfl rfl Try.call15 rfl (get_spec (X := ({ Y2 with comp := [] } : EX)) (k := [112]) (fz := 9) UE_ko (by decide) ruleE_k exV (by decide) (by rw [hE4]; exact bt4.w) (by show 0 ≤ (({ Y2 with comp := [] } : EX) : EX).en.gets; rw [hE4, livN.2.2.1.1]; decide) (by show (({ Y2 with comp := [] } : EX) : EX).en.gets ≤ _; rw [hE4, livN.2.2.1.1]; decide) (by show (({ Y2 with comp := [] } : EX) : EX).en.comp.length + 9 ≤ _; rw [hE4]; have := livN.2.2.1.2; omega) (by rw [hE4]; exact Int.ofNat_le.2 livB.2.2.1) (by rw [hE4]; exact Nat.le_trans livB.2.2.1 (by decide)) (.tail _ (.head _))) (fun Y3 => ?_)
  obtain ⟨Y3, hY3⟩ := Y3
  rw [hE4] at hY3
  have hY3 : Y3.en = G3.2 := hY3
  dsimp only
  refine RL.move rfl rfl rfl ?_
  refine RL.extract rfl rfl rfl rfl ?_
  refine RL.extract rfl rfl rfl rfl ?_
  refine RL.assign rfl rfl rfl ?_
  refine RL.assign rfl rfl rfl ?_
  refine RL.nil ?_
  refine NX.seq ?_
  refine TR.seq ?_
  refine TR.region ?_
  refine RL.move rfl rfl rfl ?_
  refine RL.call rfl rfl Try.call15 rfl (get_spec (X := Y3) (k := [113]) (fz := 9) UE_ko (by decide) ruleE_k exV (by decide) (by rw [hY3]; exact bt5.w) (by show 0 ≤ (Y3 : EX).en.gets; rw [hY3, livN.2.2.2.1]; decide) (by show (Y3 : EX).en.gets ≤ _; rw [hY3, livN.2.2.2.1]; decide) (by show (Y3 : EX).en.comp.length + 9 ≤ _; rw [hY3]; have := livN.2.2.2.2; omega) (by rw [hY3]; exact Int.ofNat_le.2 livB.2.2.2) (by rw [hY3]; exact Nat.le_trans livB.2.2.2 (by decide)) (.head _)) (fun Y4 => ?_)
  obtain ⟨Y4, hY4⟩ := Y4
  rw [hY3] at hY4
  have hY4 : Y4.en = G4.2 := hY4
  dsimp only
  refine RL.move rfl rfl rfl ?_
  refine RL.extract rfl rfl rfl rfl ?_
  refine RL.extract rfl rfl rfl rfl ?_
  refine RL.assign rfl rfl rfl ?_
  refine RL.assign rfl rfl rfl ?_
  refine RL.nil ?_
  refine NX.seq ?_
  refine TR.seq ?_
  refine TR.region ?_
  refine RL.move rfl rfl rfl ?_
  refine RL.bin rfl rfl rfl (BinV.to (d := true) BinV.eqlS (decide_eq_true (by rw [hE1]; exact liv.1))) rfl ?_
  refine RL.move rfl rfl rfl ?_
  refine RL.move rfl rfl rfl ?_
  refine RL.bin rfl rfl rfl (BinV.to (d := true) BinV.eqlS (decide_eq_true (by rw [hE3]; exact liv.2.2.1))) rfl ?_
  refine RL.pickT rfl rfl rfl rfl ?_
  refine RL.move rfl rfl rfl ?_
  refine RL.move rfl rfl rfl ?_
  refine RL.buildSlice rfl rfl (wo_bs35_2_0_1 _ _) rfl (fun b1 => ?_)
  refine RL.weak (fun w hw => St.keepSl (St.boxSl (n := 2) (size := 1) rfl (by decide) hw)) ?_
  refine RL.call rfl rfl Try.call19 rfl (sameT_ok (xs := Y1.comp) (ys := [[97], [98]]) (.tail _ (.tail _ (.tail _ (.tail _ (.tail _ (.tail _ (.head _))))))) (.head _) rfl rfl (by show Y1.en.comp.length ≤ _; rw [hY1, liv.2.1]; decide) true (decide_eq_true (by show Y1.en.comp = _; rw [hY1]; exact liv.2.1)).symm) (fun _ => ?_)
  refine RL.pickT rfl rfl rfl rfl ?_
  refine RL.move rfl rfl rfl ?_
  refine RL.move rfl rfl rfl ?_
  refine RL.buildSlice rfl rfl (wo_bs35_1_0 _) rfl (fun b2 => ?_)
  refine RL.weak (fun w hw => St.keepSl (St.boxSl (n := 1) (size := 1) rfl (by decide) hw)) ?_
  refine RL.call rfl rfl Try.call19 rfl (sameT_ok (xs := Y2.comp) (ys := [[97]]) (.tail _ (.tail _ (.tail _ (.tail _ (.head _))))) (.head _) rfl rfl (by show Y2.en.comp.length ≤ _; rw [hY2, liv.2.2.2.1]; decide) true (decide_eq_true (by show Y2.en.comp = _; rw [hY2]; exact liv.2.2.2.1)).symm) (fun _ => ?_)
  refine RL.pickT rfl rfl rfl rfl ?_
  refine RL.move rfl rfl rfl ?_
  refine RL.move rfl rfl rfl ?_
  refine RL.bin rfl rfl rfl (BinV.to (d := true) BinV.eql (decide_eq_true (by rw [hE4]; exact liv.2.2.2.2.1))) rfl ?_
  refine RL.pickT rfl rfl rfl rfl ?_
  refine RL.move rfl rfl rfl ?_
  refine RL.move rfl rfl rfl ?_
  refine RL.bin rfl rfl rfl (BinV.to (d := true) BinV.eql (decide_eq_true (by rw [hY3]; exact liv.2.2.2.2.2))) rfl ?_
  refine RL.pickT rfl rfl rfl rfl ?_
  refine RL.assign rfl rfl rfl ?_
  refine RL.nil ?_
  refine NX.seq ?_
  refine TR.ret ?_
  exact NX.ret1 () rfl rfl rfl (fun w hw => ((hw.to 1 [0] 11 [] rfl)).tail)
end Go.Proofs.Ythefimaaeilefaa

namespace Go.Proofs.Ythefimaaeilefaa
open Go.GL
set_option linter.unusedVariables false
theorem wp_bs46_1_0 (x00 : List UInt8) (x010 : List UInt8) (x011 : Int) : BuildSV Try.prog 46 51 1 [(0, .agg #[S x00, S x010, .int .i64 x011])] [S x00, S x010, .int .i64 x011] := fun w => by kernel_rfl
theorem wp_bv49_0 (x0 : List UInt8) : BuildV Try.prog 49 [(0, S x0)] (.agg #[S x0, .int .i64 0]) := fun w => by kernel_rfl
theorem wp_bv51_0_1 (x0 : List UInt8) (x10 : List UInt8) (x11 : Int) : BuildV Try.prog 51 [(0, S x0), (1, .agg #[S x10, .int .i64 x11])] (.agg #[S x0, S x10, .int .i64 x11]) := fun w => by kernel_rfl
theorem wp_ni46 : noInt Try.prog 46 = true := by kernel_rfl
theorem wp_te51 : tyElem Try.prog 51 3 40 = true := by kernel_rfl
theorem wp_tl46 : tySlice Try.prog 46 51 = true := by kernel_rfl
theorem bgN_lt {xs : List Int} {i : Nat} (hi : i < 10) : bgN xs i < 100000 := by
  have h5 := pkN_lt (xs := xs) (i := i) (m := 5000) (by decide)
  unfold bgN
  split
  · split
    · decide
    · unfold bgS
      have e : ∀ a, a < 10 → a * i / 10 ≤ 9 := fun a ha => by
        have : a * i ≤ 9 * 9 := Nat.mul_le_mul (by omega) (by omega)
        omega
      have e1 := e (pkN xs i 5000 / 5 % 10) (by omega)
      have e2 := e (pkN xs i 5000 / 50 % 10) (by omega)
      have e3 := e (pkN xs i 5000 / 500 % 10) (by omega)
      generalize pkN xs i 5000 / 5 % 10 * i / 10 = g1 at e1 ⊢
      generalize pkN xs i 5000 / 50 % 10 * i / 10 = g2 at e2 ⊢
      generalize pkN xs i 5000 / 500 % 10 * i / 10 = g3 at e3 ⊢
      omega
  · omega
theorem mul10 {a b : Nat} (ha : a < 10) (hb : b < 10) : a * b ≤ 81 := Nat.le_trans (Nat.mul_le_mul (Nat.le_of_lt_succ ha) (Nat.le_of_lt_succ hb)) (by decide)
set_option maxHeartbeats 1000000 in
theorem begin_spec {xs : List Int} {oa : Option Addr} {ca : Nat} {M : List HP} {F : List Fact} (ha : ArrF oa (ints xs) ∈ F) (hxs : IntsOk xs) : Ctr Try.prog 24 [.slice oa xs.length ca] M F (Option Addr × Nat) (fun z => .slice z.1 (bgL xs 10).length z.2) (fun z => OwnSl 51 3 z.1 (bgL xs 10).length z.2 (inA (bgL xs 10)) :: M) (fun _ => F) := by
  refine Ctr.body Try.func24 rfl rfl ?_
  refine TR.seq ?_
  refine TR.region ?_
  refine RL.assign rfl rfl rfl ?_
  refine RL.nil ?_
  refine NX.seq ?_
  refine TR.seq ?_
  refine TR.region ?_
  refine RL.assign rfl rfl rfl ?_
  refine RL.weak (fun w hw => OwnSl.nil_new 51 3 hw) ?_
  refine RL.nil ?_
  refine NX.seq ?_
  refine TR.seq ?_
  refine TR.seq ?_
  refine TR.region ?_
  refine RL.assign rfl rfl rfl ?_
  refine RL.nil ?_
  refine NX.seq ?_
  refine TR.block ?_
  refine TR.loopP (ι := (Nat × List (Ky × List UInt8) × Option Addr × Nat)) (fun z => z.1 ≤ 10 ∧ z.2.1 = bgL xs z.1) (fun z => [(0, .slice oa xs.length ca), (3, .slice z.2.2.1 z.2.1.length z.2.2.2), (4, I (z.1 : Nat))]) (fun z => OwnSl 51 3 z.2.2.1 z.2.1.length z.2.2.2 (inA z.2.1) :: M) (fun z => F) (fun z => (10 - z.1)) (0, [], none, 0) ⟨Nat.zero_le _, rfl⟩ ⟨rfl, rfl, rfl, trivial⟩ (fun w hw => (hw.to 1 [0] 0 [] rfl)) (fun z hz => ?_)
  refine TR.seq ?_
  refine TR.seq ?_
  refine TR.region ?_
  refine RL.move rfl rfl rfl ?_
  refine RL.bin rfl rfl rfl BinV.lss rfl ?_
  refine RL.nil ?_
  refine NX.seq ?_
  refine TR.cond rfl (fun h1 => ?_) (fun h1 => ?_)
  · skip
    have hz10 : z.1 < 10 := by have := of_decide_eq_true h1; omega
    have hzl : z.2.1.length = z.1 := by rw [hz.2, bgL_len]
    refine TR.skip ?_
    refine NX.seq ?_
    refine TR.seq ?_
    refine TR.block ?_
    refine TR.seq ?_
    refine TR.region ?_
    refine RL.move rfl rfl rfl ?_
    refine RL.move rfl rfl rfl ?_
    refine RL.call rfl rfl Try.call38 rfl (pick_spec (i := z.1) ha hxs (by decide)) (fun _ => ?_)
    have hn5 := pkN_lt (xs := xs) (i := z.1) (m := 5000) (by decide)
    refine RL.assign rfl rfl rfl ?_
    refine RL.nil ?_
    refine NX.seq ?_
    refine TR.cut (ι := {m : Nat // m = bgN xs z.1}) (fun m => [(0, .slice oa xs.length ca), (3, .slice z.2.2.1 z.2.1.length z.2.2.2), (4, I (z.1 : Nat)), (5, I (m.1 : Nat))]) (fun _ => OwnSl 51 3 z.2.2.1 z.2.1.length z.2.2.2 (inA z.2.1) :: M) (fun _ => F) ?_ (fun m => ?_)
    · skip
      refine TR.seq ?_
      refine TR.region ?_
      refine RL.move rfl rfl rfl ?_
      refine RL.call rfl rfl Try.call38 rfl (pick_spec (i := 10) ha hxs (by decide)) (fun _ => ?_)
      refine RL.bin rfl rfl rfl BinV.gtr rfl ?_
      refine RL.move rfl rfl rfl ?_
      refine RL.part (fun h2 => ?_) (fun h2 => ?_)
      · skip
        have hc3 : 0 < pkN xs 10 3 := by have := of_decide_eq_true h2; omega
        refine RL.move rfl rfl rfl ?_
        refine RL.bin rfl rfl rfl (BinV.remK (a := (pkN xs z.1 5000)) (b := 5) (by decide)) rfl ?_
        refine RL.bin rfl rfl rfl BinV.neq rfl ?_
        refine RL.pickT rfl rfl rfl rfl ?_
        refine RL.nil ?_
        refine NX.seq ?_
        refine TR.cond rfl (fun h3 => ?_) (fun h3 => ?_)
        · skip
          have hc5 : (pkN xs z.1 5000) % 5 ≠ 0 := by have := of_decide_eq_true h3; omega
          refine TR.seq ?_
          have e1 := mul10 (a := (pkN xs z.1 5000) / 5 % 10) (b := z.1) (by omega) hz10
          have e2 := mul10 (a := (pkN xs z.1 5000) / 50 % 10) (b := z.1) (by omega) hz10
          have e3 := mul10 (a := (pkN xs z.1 5000) / 500 % 10) (b := z.1) (by omega) hz10
          generalize hg1 : ((pkN xs z.1 5000) / 5 % 10) * z.1 = g1 at e1
          generalize hg2 : ((pkN xs z.1 5000) / 50 % 10) * z.1 = g2 at e2
          generalize hg3 : ((pkN xs z.1 5000) / 500 % 10) * z.1 = g3 at e3
          refine TR.region ?_
          refine RL.move rfl rfl rfl ?_
          refine RL.bin rfl rfl rfl (BinV.remK (a := (pkN xs z.1 5000)) (b := 5) (by decide)) rfl ?_
          refine RL.move rfl rfl rfl ?_
          refine RL.bin rfl rfl rfl (BinV.quo (by decide) (((pkN xs z.1 5000) / 5 : Nat) : Int) (by rw [Int.tdiv_eq_ediv_of_nonneg (by omega)]; omega) (by omega) (by omega)) rfl ?_
          refine RL.bin rfl rfl rfl (BinV.remK (a := (pkN xs z.1 5000) / 5) (b := 10) (by decide)) rfl ?_
          refine RL.move rfl rfl rfl ?_
          refine RL.bin rfl rfl rfl (BinV.mul ((((pkN xs z.1 5000) / 5 % 10) * z.1 : Nat) : Int) (Int.natCast_mul _ _).symm (by omega) (by omega)) rfl ?_
          refine RL.bin rfl rfl rfl (BinV.quo (by decide) (((((pkN xs z.1 5000) / 5 % 10) * z.1) / 10 : Nat) : Int) (by rw [Int.tdiv_eq_ediv_of_nonneg (by omega)]; omega) (by omega) (by omega)) rfl ?_
          refine RL.bin rfl rfl rfl (BinV.mul ((5 * (((pkN xs z.1 5000) / 5 % 10) * z.1 / 10) : Nat) : Int) (by omega) (by omega) (by omega)) rfl ?_
          refine RL.bin rfl rfl rfl (BinV.add ((((pkN xs z.1 5000) % 5 + 5 * (((pkN xs z.1 5000) / 5 % 10) * z.1 / 10)) : Nat) : Int) (by omega) (by omega) (by omega)) rfl ?_
          refine RL.move rfl rfl rfl ?_
          refine RL.bin rfl rfl rfl (BinV.quo (by decide) (((pkN xs z.1 5000) / 50 : Nat) : Int) (by rw [Int.tdiv_eq_ediv_of_nonneg (by omega)]; omega) (by omega) (by omega)) rfl ?_
          refine RL.bin rfl rfl rfl (BinV.remK (a := (pkN xs z.1 5000) / 50) (b := 10) (by decide)) rfl ?_
          refine RL.move rfl rfl rfl ?_
          refine RL.bin rfl rfl rfl (BinV.mul ((((pkN xs z.1 5000) / 50 % 10) * z.1 : Nat) : Int) (Int.natCast_mul _ _).symm (by omega) (by omega)) rfl ?_
          refine RL.bin rfl rfl rfl (BinV.quo (by decide) (((((pkN xs z.1 5000) / 50 % 10) * z.1) / 10 : Nat) : Int) (by rw [Int.tdiv_eq_ediv_of_nonneg (by omega)]; omega) (by omega) (by omega)) rfl ?_
          refine RL.bin rfl rfl rfl (BinV.mul ((50 * (((pkN xs z.1 5000) / 50 % 10) * z.1 / 10) : Nat) : Int) (by omega) (by omega) (by omega)) rfl ?_
          refine RL.bin rfl rfl rfl (BinV.add (((((pkN xs z.1 5000) % 5 + 5 * (((pkN xs z.1 5000) / 5 % 10) * z.1 / 10)) + 50 * (((pkN xs z.1 5000) / 50 % 10) * z.1 / 10)) : Nat) : Int) (by omega) (by omega) (by omega)) rfl ?_
          refine RL.move rfl rfl rfl ?_
          refine RL.bin rfl rfl rfl (BinV.quo (by decide) (((pkN xs z.1 5000) / 500 : Nat) : Int) (by rw [Int.tdiv_eq_ediv_of_nonneg (by omega)]; omega) (by omega) (by omega)) rfl ?_
          refine RL.bin rfl rfl rfl (BinV.remK (a := (pkN xs z.1 5000) / 500) (b := 10) (by decide)) rfl ?_
          refine RL.move rfl rfl rfl ?_
          refine RL.bin rfl rfl rfl (BinV.mul ((((pkN xs z.1 5000) / 500 % 10) * z.1 : Nat) : Int) (Int.natCast_mul _ _).symm (by omega) (by omega)) rfl ?_
          refine RL.bin rfl rfl rfl (BinV.quo (by decide) (((((pkN xs z.1 5000) / 500 % 10) * z.1) / 10 : Nat) : Int) (by rw [Int.tdiv_eq_ediv_of_nonneg (by omega)]; omega) (by omega) (by omega)) rfl ?_
          refine RL.bin rfl rfl rfl (BinV.mul ((500 * (((pkN xs z.1 5000) / 500 % 10) * z.1 / 10) : Nat) : Int) (by omega) (by omega) (by omega)) rfl ?_
          refine RL.bin rfl rfl rfl (BinV.add ((((((pkN xs z.1 5000) % 5 + 5 * (((pkN xs z.1 5000) / 5 % 10) * z.1 / 10)) + 50 * (((pkN xs z.1 5000) / 50 % 10) * z.1 / 10)) + 500 * (((pkN xs z.1 5000) / 500 % 10) * z.1 / 10)) : Nat) : Int) (by omega) (by omega) (by omega)) rfl ?_
          refine RL.assign rfl rfl rfl ?_
          refine RL.nil ?_
          refine NX.seq ?_
          refine TR.seq ?_
          refine TR.region ?_
          refine RL.move rfl rfl rfl ?_
          refine RL.bin rfl rfl rfl BinV.eql rfl ?_
          refine RL.nil ?_
          refine NX.seq ?_
          refine TR.cond rfl (fun h4 => ?_) (fun h4 => ?_)
          · skip
            have h48 : z.1 = 0 := by have := of_decide_eq_true h4; omega
            refine TR.region ?_
            refine RL.assign rfl rfl rfl ?_
            refine RL.nil ?_
            refine NX.meet ⟨0, by unfold bgN; rw [if_pos ⟨hc3, hc5⟩, if_pos h48]⟩ ⟨rfl, rfl, rfl, rfl, trivial⟩ (fun w hw => hw)
          · skip
            have h48 : ¬ z.1 = 0 := by have := of_decide_eq_false h4; omega
            refine TR.skip ?_
            refine NX.meet ⟨((((pkN xs z.1 5000) % 5 + 5 * (((pkN xs z.1 5000) / 5 % 10) * z.1 / 10)) + 50 * (((pkN xs z.1 5000) / 50 % 10) * z.1 / 10)) + 500 * (((pkN xs z.1 5000) / 500 % 10) * z.1 / 10)), by unfold bgN; rw [if_pos ⟨hc3, hc5⟩, if_neg h48]; rfl⟩ ⟨rfl, rfl, rfl, rfl, trivial⟩ (fun w hw => hw)
        · skip
          have hc5 : ¬ (pkN xs z.1 5000) % 5 ≠ 0 := by have := of_decide_eq_false h3; omega
          refine TR.skip ?_
          refine NX.meet ⟨(pkN xs z.1 5000), by unfold bgN; rw [if_neg (fun e => hc5 e.2)]⟩ ⟨rfl, rfl, rfl, rfl, trivial⟩ (fun w hw => hw)
      · skip
        have hc3 : ¬ 0 < pkN xs 10 3 := by have := of_decide_eq_false h2; omega
        refine RL.skip rfl rfl rfl ?_
        refine RL.skip rfl rfl rfl ?_
        refine RL.skip rfl rfl rfl ?_
        refine RL.pickF rfl rfl rfl rfl ?_
        refine RL.nil ?_
        refine NX.seq ?_
        refine TR.condF rfl ?_
        refine TR.skip ?_
        refine NX.meet ⟨(pkN xs z.1 5000), by unfold bgN; rw [if_neg (fun e => hc3 e.1)]⟩ ⟨rfl, rfl, rfl, rfl, trivial⟩ (fun w hw => hw)
    obtain ⟨m, hm⟩ := m
    have hml := bgN_lt (xs := xs) (i := z.1) hz10
    dsimp only
    refine TR.region ?_
    refine RL.move rfl rfl rfl ?_
    refine RL.move rfl rfl rfl ?_
    refine RL.call rfl rfl Try.call13 rfl (dec_spec (n := z.1) (by omega)) (fun _ => ?_)
    refine RL.bin rfl rfl rfl (BinV.addS (by have := dec_len (n := z.1) (by omega); simp only [List.length_cons, List.length_nil]; omega)) rfl ?_
    refine RL.move rfl rfl rfl ?_
    refine RL.call rfl rfl Try.call14 rfl (text_spec (n := (m : Nat)) (by omega) (by omega)) (fun _ => ?_)
    refine RL.build rfl rfl (wp_bv49_0 _) rfl ?_
    refine RL.build rfl rfl (wp_bv51_0_1 _ _ _) rfl ?_
    refine RL.buildSlice rfl rfl (wp_bs46_1_0 _ _ _) rfl (fun b5 => ?_)
    refine RL.ofGV rfl rfl (GV.append (j := 1) wp_tl46 wp_ni46 wp_te51 rfl rfl rfl (src_box (i := 0) rfl rfl rfl) (by omega) (by omega)) (fun y => ?_)
    refine RL.assign rfl rfl rfl ?_
    refine RL.nil ?_
    refine NX.off ?_
    refine NX.seq ?_
    refine TR.region ?_
    refine RL.move rfl rfl rfl ?_
    refine RL.bin rfl rfl rfl (BinV.add ((z.1 + 1 : Nat) : Int) (by omega) (by omega) (by omega)) rfl ?_
    refine RL.assign rfl rfl rfl ?_
    refine RL.nil ?_
    refine NX.roundP (z.1 + 1, bgL xs (z.1 + 1), y.1, y.2) ⟨by omega, rfl⟩ (by show 10 - (z.1 + 1) < 10 - z.1; omega) ⟨rfl, by show some (Value.slice y.1 (z.2.1.length + 1) y.2) = some (.slice y.1 (bgL xs (z.1 + 1)).length y.2); rw [bgL_len, hzl], rfl, trivial⟩ (fun w hw => (by have h9 := (hw.to 2 [1] 0 [] rfl); show St w (OwnSl 51 3 y.1 (bgL xs (z.1 + 1)).length y.2 (inA (bgL xs (z.1 + 1))) :: M) F; rw [bgL_len, bgL_snoc, inA_append, ← hz.2]; rw [hzl] at h9; show St w (OwnSl 51 3 y.1 (z.1 + 1) y.2 (inA z.2.1 ++ [S (rK z.1), S (txB (arN (bgN xs z.1 : Nat) 5000)), I 0]) :: M) F; rw [← hm]; exact h9))
  · skip
    have hz10 : z.1 = 10 := by have := of_decide_eq_false h1; omega
    refine TR.exit ?_
    refine NX.exitThen ?_
    refine NX.exitThen ?_
    refine NX.exitHere ?_
    refine NX.seq ?_
    refine TR.seq ?_
    refine TR.region ?_
    refine RL.move rfl rfl rfl ?_
    refine RL.assign rfl rfl rfl ?_
    refine RL.nil ?_
    refine NX.seq ?_
    refine TR.ret ?_
    have h9 : z.2.1 = bgL xs 10 := by have h9 := hz.2; rw [hz10] at h9; exact h9
    exact NX.ret1 (z.2.2.1, z.2.2.2) rfl rfl (by rw [h9]) (fun w hw => by rw [← h9]; exact hw)
theorem RfB.new {w : World} {m : Nat} {bud : Int} {M : List HP} {F : List Fact} (h : St w (Box m 76 [I bud, .slice none 0 0, .slice none 0 0, .slice none 0 0, I 0, I 0, .bool false, .slice none 0 0] :: OwnSl 51 3 none 0 0 [] :: M) F) : St w (RfB m bud [] :: M) F := St.exClose (ι := Option Addr × Nat) (none, 0) h
theorem begE_snoc {l : List (Ky × List UInt8)} {i : Nat} {p : Ky × List UInt8} (h : l[i]? = some p) : begE (l.take (i + 1)) = setE p.1 p.2 (begE (l.take i)) := by
  unfold begE
  rw [List.take_add_one, h, List.foldl_append]; rfl
theorem take_snoc {l : List (Ky × List UInt8)} {i : Nat} {p : Ky × List UInt8} (h : l[i]? = some p) : l.take (i + 1) = l.take i ++ [(p.1, p.2)] := by rw [List.take_add_one, h]; rfl
end Go.Proofs.Ythefimaaeilefaa

namespace Go.Proofs.Ythefimaaeilefaa
open Go.GL
set_option linter.unusedVariables false
theorem aSet_same {β : Type} : ∀ {l : List (Ky × β)} {k : Ky} {v : β}, aGet l k = some v → aSet l k v = l
  | p :: l, k, v, h => by
    rw [aGet] at h
    rw [aSet]
    split at h
    · rename_i e; cases h; subst e; rw [if_pos rfl]
    · rename_i e; rw [if_neg e, aSet_same h]
theorem setE_inp (k : Ky) (v : List UInt8) (e : En) : (setE k v e).inp = aSet e.inp k v := by
  unfold setE
  split
  · rename_i h; exact (aSet_same h).symm
  · rfl
theorem setE_gets (k : Ky) (v : List UInt8) (e : En) : (setE k v e).gets = e.gets ∧ (setE k v e).comp = e.comp := by
  unfold setE
  split <;> exact ⟨rfl, rfl⟩
structure Rest (inp : List (Ky × List UInt8)) (n : Nat) (X : EX) : Prop where
  bt : Bt ruleR UR X.en
  inp : X.en.inp = inp
  g0 : 0 ≤ X.en.gets
  g1 : X.en.gets ≤ n
  c : X.en.comp.length ≤ 50 * n
theorem Rest.mono {inp : List (Ky × List UInt8)} {n m : Nat} {X : EX} (h : Rest inp n X) (hm : n ≤ m) : Rest inp m X := ⟨h.bt, h.inp, h.g0, by have := h.g1; omega, by have := h.c; omega⟩
theorem Rest.new : Rest [] 0 newX := ⟨Bt.new, rfl, by decide, by decide, by decide⟩
theorem Rest.set {inp : List (Ky × List UInt8)} {n : Nat} {X : EX} (h : Rest inp n X) (k : Ky) {v : List UInt8} (hv : v.length ≤ 4) : Rest (aSet inp k v) n (setX k v X) := by
  have h1 := setE_gets k v X.en
  refine ⟨by rw [setX_en]; exact h.bt.set k v (.of0 hv), by rw [setX_en, setE_inp, h.inp], ?_, ?_, ?_⟩
  · rw [setX_en, h1.1]; exact h.g0
  · rw [setX_en, h1.1]; exact h.g1
  · rw [setX_en, h1.2]; exact h.c
theorem Rest.comp {inp : List (Ky × List UInt8)} {n : Nat} {X : EX} (h : Rest inp n X) : Rest inp n { X with comp := [] } := ⟨h.bt.comp [], h.inp, h.g0, h.g1, Nat.zero_le _⟩
theorem UR_2 : ∀ k, k ∈ UR → k.length ≤ 2 := by decide
end Go.Proofs.Ythefimaaeilefaa

namespace Go.GL
set_option linter.unusedVariables false
def IterG (P : Program) (gf : FuncId) (cap : List Value) {α : Type} (enc : α → List Value → Prop) (step : List α → α → Prop) (fin : List α → Prop) (L0 : List HP) (F : List Fact) : Prop :=
  ∀ (l : Nat) (J : List α → List HP),
    (∀ pre x args, step pre x → enc x args → ∀ Mi G, (∀ φ, φ ∈ F → φ ∈ G) → YSpec P l args (J pre ++ Mi) G (J (pre ++ [x]) ++ Mi)) →
    ∀ Mi G, (∀ φ, φ ∈ F → φ ∈ G) → Ctr P gf (.func (.yield l) #[] #[] :: cap) (J [] ++ (L0 ++ Mi)) G {xs : List α // fin xs} (fun _ => .tuple #[]) (fun xs => J xs.1 ++ (L0 ++ Mi)) (fun _ => G)
section
variable {P : Program} {r : Option Nat} {N : Nat} {ops : Array Oper} {rest : List Oper} {Q : Exit → Act → World → Prop} {E : Env} {ds : List Deferred} {M : List HP} {F : List Fact}
theorem TR.rangeFuncG {α : Type} {g : Operand} {ps : List Nat} {assign body : Code} {gf : FuncId} {cap : List Value} {enc : α → List Value → Prop} {step : List α → α → Prop} {fin : List α → Prop} {L0 : List HP} {κ : Type}
    (hg : evalO E g = some (.func (.func gf) #[] cap.toArray)) (hcall : ∀ args w, (callFunc gf args).run P w = .ok (.enter gf args) w) (hps : ∀ p, p ∈ ps → Nat.ble (p + 1) N = true) (hlen : ∀ x args, enc x args → args.length = ps.length)
    (hit : IterG P gf cap enc step fin L0 F) (J : List α → List HP) (Mr : List HP) (hJ : ∀ w, St w M F → St w (J [] ++ (L0 ++ Mr)) F)
    (E1 : List α → α → List Value → κ → Env) (M1 : List α → α → List Value → κ → List HP)
    (hassign : ∀ l pre x args, step pre x → enc x args → ∀ Mi G, (∀ φ, φ ∈ F → φ ∈ G) →
      TR P (some l) N assign (Exit.then (fun a w => ∃ i, Sat N (E1 pre x args i) [] a ∧ St w (M1 pre x args i ++ Mi) G) (fun _ _ _ => False)) (envAt ps args E) [] (J pre ++ Mi) G)
    (hbody : ∀ l pre x args i, step pre x → enc x args → ∀ Mi G, (∀ φ, φ ∈ F → φ ∈ G) →
      TR P (some l) N body (RoundQ (J (pre ++ [x]) ++ Mi) G) (E1 pre x args i) [] (M1 pre x args i ++ Mi) G)
    (k : ∀ xs, fin xs → ∀ D, NX N .normal Q E ({ target := .collected D, args := #[] } :: ds) (Pts D (.deferred (some [])) :: (J xs ++ (L0 ++ Mr))) F) :
    TR P none N (.rangeFunc g ps.toArray assign body) Q E ds M F := by
  intro a w ha hw
  refine wpIn_rangeFunc fun fn _ => ?_
  obtain ⟨rec, hrec⟩ : ∃ rec : LoopState → Option Code → Loop, rec = fun st pe => { state := st, pending := pe, fn, tmps := a.tmps, params := ps.toArray, assign, body, defers := w.heap.size } := ⟨_, rfl⟩
  obtain ⟨W1, hW1⟩ : ∃ W1, W1 = (w.alloc (.deferred (some []))).alloc (.loop (rec .ready none)) := ⟨_, rfl⟩
  have h1 : St W1 (Pts (w.heap.size + 1) (.loop (rec .ready none)) :: Pts w.heap.size (.deferred (some [])) :: (J [] ++ (L0 ++ Mr))) F := by
    have := ((hJ w hw).alloc (.deferred (some []))).alloc (.loop (rec .ready none))
    rw [World.size_alloc] at this
    rw [hW1]
    exact this
  refine ⟨w.heap.size + 1, [{ target := .collected w.heap.size, args := #[] }], W1, { target := .fn (.func gf) cap.toArray, args := #[.func (.yield (w.heap.size + 1)) #[] #[]] }, W1, gf,
    (.func (.yield (w.heap.size + 1)) #[] #[] :: cap).toArray, W1, ?_, ?_, fun _ _ => trivial, ?_, fun h => by simp at h, ?_⟩
  · rw [hW1, hrec]; exact run_enterLoop_outer _ _ _ _ _
  · have e0 := ha.eval hg
    have e1 : a.eval (.const (.func (.yield (w.heap.size + 1)) #[] #[])) = .func (.yield (w.heap.size + 1)) #[] #[] := rfl
    simp only [resolve, e0, Deferred.ofValue]
    simp [e1]
  · simp [invoke, hcall]
  · have hJ' := hit (w.heap.size + 1) (fun pre => Pts (w.heap.size + 1) (.loop (rec .ready none)) :: J pre) ?_ (Pts w.heap.size (.deferred (some [])) :: Mr) F (fun _ h => h)
    · have hp : ∀ (r : HP) (L : List HP), (r :: Pts w.heap.size (.deferred (some [])) :: (L ++ (L0 ++ Mr))).Perm ((r :: L) ++ (L0 ++ (Pts w.heap.size (.deferred (some [])) :: Mr))) := fun r L => by
        refine List.Perm.cons r ((List.perm_middle.symm).trans ?_)
        exact List.Perm.append_left L List.perm_middle.symm
      obtain ⟨hF, hc⟩ := hJ' _ (h1.perm (hp _ _))
      refine ⟨hF, fun cs hr => ?_⟩
      obtain ⟨e, w', fr, ⟨xs, he, hst⟩, rest'⟩ := hc cs hr
      subst he
      refine ⟨_, w', fr, ?_, rest'⟩
      have hst' := hst.perm (hp _ _).symm
      have hl := hst'.heap (i := 0) rfl
      refine ⟨none, _, by have := run_endLoop (P := P) hl (by rw [hrec]; simp); rw [hrec] at this; exact this, ?_⟩
      exact k xs.1 xs.2 w.heap.size _ _ (ha.ends _) ((hst'.putObj (i := 0) rfl).tail) |> fun h => by rw [ha.defers]; exact h
    · intro pre x args hx he Mi G hG W hW
      have hW : St W (Pts (w.heap.size + 1) (.loop (rec .ready none)) :: (J pre ++ Mi)) G := hW
      have hl := hW.heap (i := 0) rfl
      have hy := run_yield (P := P) (args := args.toArray) hl (by rw [hrec]; simp [hlen x args he])
      rw [hrec] at hy
      refine ⟨fn, _, assign, body, hy, roundIn_of_wpIn (F := Wd none) trivial ?_⟩
      have hS : Sat N (envAt ps args E) [] ⟨(ps.zip args).foldl (fun t (p, v) => t.setIfInBounds p v) a.tmps, []⟩ := Sat.params ps args (ha.ends []) hps
      have hz : ((ps.toArray.zip args.toArray).foldl (fun tmps (t, a) => tmps.setIfInBounds t a) a.tmps) = (ps.zip args).foldl (fun t (p, v) => t.setIfInBounds p v) a.tmps := by simp
      have hper : ∀ (r : HP) (L L' : List HP), (r :: (L ++ L')).Perm (L ++ (r :: L')) := fun r L L' => List.perm_middle.symm
      refine wpIn_mono (hassign (w.heap.size + 1) pre x args hx he (Pts (w.heap.size + 1) (.loop (rec .ready none)) :: Mi) G hG _ W (by simp only; rw [hz]; exact hS) (hW.perm (hper _ _ _))) ?_
      intro e a1 w1 hq
      cases e with
      | normal =>
        obtain ⟨i, hs1, hw1⟩ := hq
        have hw1' := hw1.perm (hper _ _ _).symm
        have hl1 := hw1'.heap (i := 0) rfl
        refine ⟨_, run_beginRound hl1 (by rw [hrec]), ?_⟩
        have hw2 := (hw1'.putObj (o' := .loop { rec .ready none with state := .busy }) (i := 0) rfl)
        refine wpIn_mono (hbody (w.heap.size + 1) pre x args i hx he (Pts (w.heap.size + 1) (.loop { rec .ready none with state := .busy }) :: Mi) G hG a1 _ hs1 (hw2.perm (hper _ _ _))) ?_
        intro e a3 w3 hq3
        cases e with
        | normal =>
          have hw3 : St w3 (J (pre ++ [x]) ++ (Pts (w.heap.size + 1) (.loop { rec .ready none with state := .busy }) :: Mi)) G := hq3
          have hw3' := hw3.perm (hper _ _ _).symm
          have hl3 := hw3'.heap (i := 0) rfl
          refine ⟨_, _, run_endRound none hl3, (), rfl, ?_⟩
          have := hw3'.putObj (o' := .loop { rec .ready none with state := .ready }) (i := 0) rfl
          rw [hrec] at this ⊢
          exact this
        | _ => exact hq3.elim
      | _ => exact hq.elim
end
end Go.GL

namespace Go.GL
set_option linter.unusedVariables false
theorem BinV.lssS {P : Program} {t : TypeId} {a b : List UInt8} : BinV P .lss t (S a) (S b) (.bool (Op.bytesLess a b)) := ⟨fun w => by
  simp [binOp, Op.stringOp], fun _ _ _ => eqGuard_str _ _ _⟩
def kAt (l : List Ky) (p : Nat) : Ky := l.getD p []
def swpK (l : List Ky) (j : Nat) : List Ky := (l.set j (kAt l (j - 1))).set (j - 1) (kAt l j)
theorem kAt_get {l : List Ky} {p : Nat} (h : p < l.length) : kAt l p = l[p] := by unfold kAt; rw [List.getD_eq_getElem?_getD, List.getElem?_eq_getElem h]; rfl
theorem swpK_len (l : List Ky) (j : Nat) : (swpK l j).length = l.length := by unfold swpK; rw [List.length_set, List.length_set]
theorem swpK_perm {l : List Ky} {j : Nat} (hj : j < l.length) (h0 : 0 < j) : (swpK l j).Perm l := by
  unfold swpK
  rw [kAt_get hj, kAt_get (show j - 1 < l.length by omega)]
  exact List.set_set_perm (by omega) (by omega) |>.trans (List.Perm.refl _)
theorem coC_len (l : List Ky) : (coC l).length = l.length := List.length_map _
theorem coC_kAt {l : List Ky} {v : Int} (p : Nat) (hv : v.toNat = p) (h : p < l.length) : (coC l)[0 + v.toNat * 1]? = some (S (kAt l p)) := by
  rw [hv, Nat.zero_add, Nat.mul_one, kAt_get h]
  unfold coC
  rw [List.getElem?_map, List.getElem?_eq_getElem h]; rfl
theorem coC_set {l : List Ky} {v : Int} {x : Ky} (p : Nat) (hv : v.toNat = p) (h : p < l.length) : (coC l).take (0 + v.toNat * 1) ++ [S x] ++ (coC l).drop (0 + v.toNat * 1 + 1) = coC (l.set p x) := by
  rw [hv, Nat.zero_add, Nat.mul_one]
  unfold coC
  rw [List.map_set, List.set_eq_take_append_cons_drop, if_pos (by rw [List.length_map]; exact h)]
  simp
theorem coC_ne0 {l : List Ky} (h : 0 < l.length) : coC l ≠ [] := fun e => by
  have := congrArg List.length e
  rw [coC_len] at this; simp at this; rw [this] at h; simp at h
def keyE : Ky → List Value → Prop := fun n args => args = [S n]
theorem keyE_len (x : Ky) (args : List Value) (h : keyE x args) : args.length = 1 := by rw [show args = [S x] from h]; rfl
theorem keysS_step {keys pre left : List Ky} {nk : Ky} (hn : keys.Nodup) (h : (pre ++ left).Perm keys) (hm : nk ∈ left) : (pre ++ nk :: left.filter fun y => !decide (y = nk)).Perm keys ∧ ((pre ++ [nk]) ++ left.filter fun y => !decide (y = nk)).Perm keys := by
  have n2 := (List.nodup_append.1 (h.nodup_iff.2 hn)).2.1
  have h1 : (pre ++ nk :: left.filter fun y => !decide (y = nk)).Perm keys := by
    refine List.Perm.trans (List.Perm.append_left pre ?_) h
    refine (List.perm_ext_iff_of_nodup ?_ n2).2 fun a => ?_
    · rw [List.nodup_cons]
      exact ⟨fun h => by simp at h, n2.sublist List.filter_sublist⟩
    · by_cases e : a = nk
      · subst e; simp [hm]
      · simp [e]
  exact ⟨h1, by rw [List.append_assoc]; exact h1⟩
def StrB (b1 : Nat) (xs : List Ky) : HP := Ex (ι := Option Addr × Nat) fun i => [Box b1 35 [.slice i.1 xs.length i.2], OwnSl 9 1 i.1 xs.length i.2 (coC xs)]
section
variable {P : Program} {r : Option Nat} {N : Nat} {ops : Array Oper} {rest : List Oper} {Q : Exit → Act → World → Prop} {E : Env} {ds : List Deferred} {M : List HP} {F : List Fact}
variable {d : Nat} {ty : TypeId} {pos : String} {aft : Array Edge} {gd : Option (Nat × Bool)}
theorem RL.indexSU {T : TypeId} {x y : Operand} {l : List UInt8} {n : Nat} {ik : IntKind} {u : UInt8} (hg : wantedG ops E gd = some true) (ht : tyStr P T = true) (hx : evalO E x = some (S l)) (hy : evalO E y = some (.int ik (n : Int))) (hu : l[n]? = some u) (hN : Nat.ble (d + 1) N = true) (k : RL P r N ops rest Q ((d, .int .u8 u.toNat) :: E) ds M F) : RL P r N ops (⟨some d, .index T x y, ty, pos, aft, gd⟩ :: rest) Q E ds M F :=
  RL.val rfl hg hN (fun ρ hρ w _ => by
    have hlt := (List.getElem?_eq_some_iff.1 hu).1
    have hb : (⟨l.toArray⟩ : ByteArray)[n]? = some u := by
      rw [getElem?_pos (⟨l.toArray⟩ : ByteArray) n (by rw [S_size]; exact hlt)]
      rw [List.getElem?_eq_getElem hlt] at hu
      exact hu
    simp [execOp, hρ _ _ hx, hρ _ _ hy, Instr.index, asIntOf, run_underlying (tyStr_underlying ht), hb]) k
end
end Go.GL

namespace Go.Proofs.Ythefimaaeilefaa
open Go.GL
set_option linter.unusedVariables false
theorem wt_bs35_1_0 (x0 : List UInt8) : BuildSV Try.prog 35 9 1 [(0, S x0)] [S x0] := fun w => by kernel_rfl
theorem wt_ni35 : noInt Try.prog 35 = true := by kernel_rfl
theorem wt_te9 : tyElem Try.prog 9 1 16 = true := by kernel_rfl
theorem wt_ti114 : tyInt Try.prog 114 .u64 = true := by kernel_rfl
theorem wt_ti133 : tyInt Try.prog 133 .u64 = true := by kernel_rfl
theorem wt_ti3 : tyInt Try.prog 3 .i64 = true := by kernel_rfl
theorem wt_ti5 : tyInt Try.prog 5 .u8 = true := by kernel_rfl
theorem wt_tl35 : tySlice Try.prog 35 9 = true := by kernel_rfl
theorem wt_tm61 : tyMap Try.prog 61 9 81 = true := by kernel_rfl
theorem wt_ts35 : tyScalar Try.prog 35 = true := by kernel_rfl
theorem wt_ts61 : tyScalar Try.prog 61 = true := by kernel_rfl
theorem wt_ts9 : tyScalar Try.prog 9 = true := by kernel_rfl
theorem wt_tstr9 : tyStr Try.prog 9 = true := by kernel_rfl
theorem wt_tz9 : tySize Try.prog 9 1 = true := by kernel_rfl
theorem isnanS_spec {a : List UInt8} {M : List HP} {F : List Fact} : Ctr Try.prog 90 [S a] M F Unit (fun _ => .bool false) (fun _ => M) (fun _ => F) := by
  refine Ctr.body Try.func90 rfl rfl ?_
  refine TR.seq ?_
  refine TR.region ?_
  refine RL.assign rfl rfl rfl ?_
  refine RL.nil ?_
  refine NX.seq ?_
  refine TR.seq ?_
  refine TR.region ?_
  refine RL.move rfl rfl rfl ?_
  refine RL.move rfl rfl rfl ?_
  refine RL.bin rfl rfl rfl BinV.neqS rfl ?_
  refine RL.assign rfl rfl rfl ?_
  refine RL.nil ?_
  refine NX.seq ?_
  refine TR.ret ?_
  exact NX.ret1 () rfl rfl (congrArg Value.bool (decide_eq_false (by simp))) (fun w hw => hw)
theorem lessS_spec {a b : List UInt8} {M : List HP} {F : List Fact} : Ctr Try.prog 78 [S a, S b] M F Unit (fun _ => .bool (Op.bytesLess a b)) (fun _ => M) (fun _ => F) := by
  refine Ctr.body Try.func78 rfl rfl ?_
  refine TR.seq ?_
  refine TR.region ?_
  refine RL.assign rfl rfl rfl ?_
  refine RL.nil ?_
  refine NX.seq ?_
  refine TR.seq ?_
  refine TR.region ?_
  refine RL.move rfl rfl rfl ?_
  refine RL.call rfl rfl Try.call90 rfl (isnanS_spec) (fun _ => ?_)
  refine RL.move rfl rfl rfl ?_
  refine RL.skip rfl rfl rfl ?_
  refine RL.skip rfl rfl rfl ?_
  refine RL.skip rfl rfl rfl ?_
  refine RL.pickF rfl rfl rfl rfl ?_
  refine RL.move rfl rfl rfl ?_
  refine RL.move rfl rfl rfl ?_
  refine RL.move rfl rfl rfl ?_
  refine RL.bin rfl rfl rfl BinV.lssS rfl ?_
  refine RL.pickF rfl rfl rfl rfl ?_
  refine RL.assign rfl rfl rfl ?_
  refine RL.nil ?_
  refine NX.seq ?_
  refine TR.ret ?_
  exact NX.ret1 () rfl rfl rfl (fun w hw => hw)
theorem isortS_spec {l0 : List Ky} {oa : Option Addr} {c : Nat} {M : List HP} {F : List Fact} (hl : l0.length ≤ 4611686018427387904) : Ctr Try.prog 72 [.slice oa l0.length c, I 0, I (l0.length : Nat)] (OwnSl 9 1 oa l0.length c (coC l0) :: M) F {l : List Ky // l.Perm l0} (fun _ => .tuple #[]) (fun z => OwnSl 9 1 oa l0.length c (coC z.1) :: M) (fun _ => F) := by
  refine Ctr.body Try.func72 rfl rfl ?_
  refine TR.seq ?_
  refine TR.region ?_
  refine RL.move rfl rfl rfl ?_
  refine RL.bin rfl rfl rfl (BinV.add _ rfl (by omega) (by omega)) rfl ?_
  refine RL.assign rfl rfl rfl ?_
  refine RL.nil ?_
  refine NX.seq ?_
  refine TR.block ?_
  refine TR.loopP (ι := (List Ky × Nat)) (fun x => x.1.length = l0.length ∧ x.1.Perm l0 ∧ 1 ≤ x.2) (fun x => [(0, .slice oa l0.length c), (1, I 0), (2, I (l0.length : Nat)), (6, I (x.2 : Nat))]) (fun x => OwnSl 9 1 oa l0.length c (coC x.1) :: M) (fun _ => F) (fun x => l0.length + 1 - x.2) (l0, 1) ⟨rfl, List.Perm.refl _, Nat.le_refl _⟩ ⟨rfl, rfl, rfl, rfl, trivial⟩ (fun w hw => hw) (fun x hx => ?_)
  refine TR.seq ?_
  refine TR.seq ?_
  refine TR.region ?_
  refine RL.move rfl rfl rfl ?_
  refine RL.move rfl rfl rfl ?_
  refine RL.bin rfl rfl rfl BinV.lss rfl ?_
  refine RL.nil ?_
  refine NX.seq ?_
  refine TR.cond rfl (fun h1 => ?_) (fun h1 => ?_)
  · skip
    have hi : x.2 < l0.length := by have := of_decide_eq_true h1; omega
    have hx1 := hx.1
    refine TR.openP (fun w hw => own_at (i := 0) (M := _ :: M) rfl (coC_ne0 (by omega)) hw) (fun g hga => ?_)
    refine TR.skip ?_
    refine NX.seq ?_
    refine TR.seq ?_
    refine TR.block ?_
    refine TR.seq ?_
    refine TR.region ?_
    refine RL.move rfl rfl rfl ?_
    refine RL.assign rfl rfl rfl ?_
    refine RL.nil ?_
    refine NX.seq ?_
    refine TR.block ?_
    refine TR.loopP (ι := (List Ky × Nat)) (fun y => y.1.length = l0.length ∧ y.1.Perm l0 ∧ y.2 ≤ x.2) (fun y => [(0, .slice oa l0.length c), (1, I 0), (2, I (l0.length : Nat)), (6, I (x.2 : Nat)), (7, I (y.2 : Nat))]) (fun y => OwnSl 9 1 oa l0.length c (coC y.1) :: M) (fun _ => F) (fun y => y.2) (x.1, x.2) ⟨hx.1, hx.2.1, Nat.le_refl _⟩ ⟨rfl, rfl, rfl, rfl, rfl, trivial⟩ (fun w hw => hw) (fun y hy => ?_)
    refine TR.seq ?_
    refine TR.seq ?_
    refine TR.sub (E' := [(0, _), (1, _), (2, _), (6, _), (7, _)]) ⟨rfl, rfl, rfl, rfl, rfl, trivial⟩ ?_
    refine TR.draw mixed ?_
    cases h2 : decide ((0 : Int) < (y.2 : Int))
    · skip
      apply AR.more [(0, _), (1, _), (2, _), (3, .bool false), (4, undef), (5, undef), (6, undef), (7, undef), (8, undef), (9, undef), (10, undef), (11, undef), (12, undef), (13, undef), (14, .bool false)]
      refine AR.last [0, 1, 2, 3, 4, 5, 6, 7, 8, 9, 10, 11, 12, 13, 14] [0, 1, 2, 3, 4, 5, 6, 7, 8, 9, 10, 11, 12, 13, 14] ⟨QOne.yes rfl rfl rfl (PV.move rfl), QOne.yes rfl rfl rfl (PV.move rfl), QOne.yes rfl rfl rfl (PV.bin rfl rfl BinV.gtr), QOne.yes rfl rfl rfl (PV.cast (congrArg Value.bool h2) (PV.move rfl)), QOne.no rfl rfl rfl, QOne.no rfl rfl rfl, QOne.no rfl rfl rfl, QOne.no rfl rfl rfl, QOne.no rfl rfl rfl, QOne.no rfl rfl rfl, QOne.no rfl rfl rfl, QOne.no rfl rfl rfl, QOne.no rfl rfl rfl, QOne.no rfl rfl rfl, QOne.yes rfl rfl rfl (PV.pickF rfl rfl), trivial⟩ rfl rfl rfl ?_
      refine NX.sub (E' := [(0, _), (1, _), (2, _), (6, _), (7, _), (16, _), (17, _), (18, _), (19, _), (20, _), (21, _), (22, _), (23, _), (24, _), (25, _), (26, _), (27, _), (28, _), (29, _), (30, _)]) ⟨rfl, rfl, rfl, rfl, rfl, rfl, rfl, rfl, rfl, rfl, rfl, rfl, rfl, rfl, rfl, rfl, rfl, rfl, rfl, rfl, trivial⟩ ?_
      refine NX.seq ?_
      refine TR.condF rfl ?_
      refine TR.exit ?_
      refine NX.exitThen ?_
      refine NX.exitThen ?_
      refine NX.exitHere ?_
      refine NX.off ?_
      refine NX.seq ?_
      refine TR.region ?_
      refine RL.move rfl rfl rfl ?_
      refine RL.bin rfl rfl rfl (BinV.add _ rfl (by omega) (by omega)) rfl ?_
      refine RL.assign rfl rfl rfl ?_
      refine RL.nil ?_
      refine NX.roundP (y.1, x.2 + 1) ⟨hy.1, hy.2.1, by show 1 ≤ x.2 + 1; omega⟩ (by show l0.length + 1 - (x.2 + 1) < l0.length + 1 - x.2; omega) ⟨rfl, rfl, rfl, rfl, trivial⟩ (fun w hw => hw)
    · skip
      have hj0 : 0 < y.2 := by have := of_decide_eq_true h2; omega
      have hy1 := hy.1
      have hy2 := hy.2.2
      apply AR.more [(0, _), (1, _), (2, _), (3, .bool true), (4, _), (5, _), (6, _), (7, _), (8, _), (9, _), (10, _), (11, _), (12, _)]
      refine AR.eff [0, 1, 2, 3, 4, 5, 6, 7, 8, 9, 10, 11, 12] 13 [0, 1, 2, 3, 4, 5, 6, 7, 8, 9, 10, 11, 12, 13, 14] ⟨QOne.yes rfl rfl rfl (PV.move rfl), QOne.yes rfl rfl rfl (PV.move rfl), QOne.yes rfl rfl rfl (PV.bin rfl rfl BinV.gtr), QOne.yes rfl rfl rfl (PV.cast (congrArg Value.bool h2) (PV.move rfl)), QOne.yes rfl rfl rfl (PV.move rfl), QOne.yes rfl rfl rfl (PV.move rfl), QOne.yes rfl rfl rfl (PV.indexAddr wt_tl35 wt_tz9 (congrArg (fun a => some (Value.slice a _ _)) hga) rfl (by omega) (by omega)), QOne.yes rfl rfl rfl (PV.loadS rfl (own_one (i := 0) rfl hga wt_ts9 (coC_kAt (y.2) (by omega) (by omega)))), QOne.yes rfl rfl rfl (PV.move rfl), QOne.yes rfl rfl rfl (PV.move rfl), QOne.yes rfl rfl rfl (PV.bin rfl rfl (BinV.sub _ rfl (by omega) (by omega))), QOne.yes rfl rfl rfl (PV.indexAddr wt_tl35 wt_tz9 (congrArg (fun a => some (Value.slice a _ _)) hga) rfl (by omega) (by omega)), QOne.yes rfl rfl rfl (PV.loadS rfl (own_one (i := 0) rfl hga wt_ts9 (coC_kAt (y.2 - 1) (by omega) (by omega)))), trivial⟩ rfl rfl rfl rfl rfl rfl rfl (EV.call rfl Try.call78 (lessS_spec)) (fun _ => ?_)
      refine AR.done [7, 12, 3, 2, 11, 6, 4, 5, 8, 10, 0, 1, 9] rfl ?_
      apply AR.more [(14, _)]
      refine AR.last [14] [0, 1, 2, 3, 4, 5, 6, 7, 8, 9, 10, 11, 12, 13, 14] ⟨QOne.yes rfl rfl rfl (PV.pickT rfl rfl), trivial⟩ rfl rfl rfl ?_
      refine NX.sub (E' := [(0, _), (1, _), (2, _), (6, _), (7, _), (16, _), (17, _), (18, _), (19, _), (20, _), (21, _), (22, _), (23, _), (24, _), (25, _), (26, _), (27, _), (28, _), (29, _), (30, _)]) ⟨rfl, rfl, rfl, rfl, rfl, rfl, rfl, rfl, rfl, rfl, rfl, rfl, rfl, rfl, rfl, rfl, rfl, rfl, rfl, rfl, trivial⟩ ?_
      refine NX.seq ?_
      refine TR.cond rfl (fun h3 => ?_) (fun h3 => ?_)
      · skip
        refine TR.skip ?_
        refine NX.seq ?_
        refine TR.seq ?_
        refine TR.block ?_
        refine TR.sub (E' := [(0, _), (1, _), (2, _), (6, _), (7, _), (16, _), (17, _), (18, _), (19, _), (20, _), (21, _), (22, _), (23, _), (24, _), (25, _), (26, _), (27, _), (28, _), (29, _), (30, _)]) ⟨rfl, rfl, rfl, rfl, rfl, rfl, rfl, rfl, rfl, rfl, rfl, rfl, rfl, rfl, rfl, rfl, rfl, rfl, rfl, rfl, trivial⟩ ?_
        refine TR.draw mixed ?_
        apply AR.more [(0, _), (1, _), (2, _), (3, _), (4, _), (5, _), (6, _), (7, _), (8, _), (9, _), (10, _), (11, _), (12, _), (13, _), (14, _)]
        refine AR.eff [0, 1, 2, 3, 4, 5, 6, 7, 8, 9, 10, 11, 12, 13, 14] 15 [0, 1, 2, 3, 4, 5, 6, 7, 8, 9, 10, 11, 12, 13, 14, 15, 16, 17] ⟨QOne.yes rfl rfl rfl (PV.move rfl), QOne.yes rfl rfl rfl (PV.move rfl), QOne.yes rfl rfl rfl (PV.move rfl), QOne.yes rfl rfl rfl (PV.move rfl), QOne.yes rfl rfl rfl (PV.bin rfl rfl (BinV.sub _ rfl (by omega) (by omega))), QOne.yes rfl rfl rfl (PV.move rfl), QOne.yes rfl rfl rfl (PV.move rfl), QOne.yes rfl rfl rfl (PV.bin rfl rfl (BinV.sub _ rfl (by omega) (by omega))), QOne.yes rfl rfl rfl (PV.indexAddr wt_tl35 wt_tz9 (congrArg (fun a => some (Value.slice a _ _)) hga) rfl (by omega) (by omega)), QOne.yes rfl rfl rfl (PV.loadS rfl (own_one (i := 0) rfl hga wt_ts9 (coC_kAt (y.2 - 1) (by omega) (by omega)))), QOne.yes rfl rfl rfl (PV.move rfl), QOne.yes rfl rfl rfl (PV.move rfl), QOne.yes rfl rfl rfl (PV.indexAddr wt_tl35 wt_tz9 (congrArg (fun a => some (Value.slice a _ _)) hga) rfl (by omega) (by omega)), QOne.yes rfl rfl rfl (PV.loadS rfl (own_one (i := 0) rfl hga wt_ts9 (coC_kAt (y.2) (by omega) (by omega)))), QOne.yes rfl rfl rfl (PV.indexAddr wt_tl35 wt_tz9 (congrArg (fun a => some (Value.slice a _ _)) hga) rfl (by omega) (by omega)), trivial⟩ rfl rfl rfl rfl rfl rfl rfl (EV.storeO (vs := [S (kAt y.1 (y.2 - 1))]) 0 rfl rfl rfl hga wt_tz9 rfl (by rw [coC_len]; simp; omega) rfl) (fun _ => ?_)
        refine AR.done [14, 9, 0, 1, 5, 6, 7, 8, 13, 12, 10, 11] rfl ?_
        apply AR.more [(16, _)]
        refine AR.eff [2, 3, 4, 16] 17 [0, 1, 2, 3, 4, 5, 6, 7, 8, 9, 10, 11, 12, 13, 14, 15, 16, 17] ⟨QOne.yes rfl rfl rfl (PV.move rfl), QOne.yes rfl rfl rfl (PV.move rfl), QOne.yes rfl rfl rfl (PV.bin rfl rfl (BinV.sub _ rfl (by omega) (by omega))), QOne.yes rfl rfl rfl (PV.indexAddr wt_tl35 wt_tz9 (congrArg (fun a => some (Value.slice a _ _)) hga) rfl (by omega) (by omega)), trivial⟩ rfl rfl rfl rfl rfl rfl rfl (EV.storeO (vs := [S (kAt y.1 y.2)]) 0 rfl rfl rfl hga wt_tz9 rfl (by simp [coC_len]; omega) rfl) (fun _ => ?_)
        refine AR.done [16, 2, 3, 4] rfl ?_
        refine AR.last [] [0, 1, 2, 3, 4, 5, 6, 7, 8, 9, 10, 11, 12, 13, 14, 15, 16, 17] trivial rfl rfl rfl ?_
        refine NX.sub (E' := [(0, _), (1, _), (2, _), (6, _), (7, _), (16, _), (17, _), (18, _), (19, _), (20, _), (21, _), (22, _), (23, _), (24, _), (25, _), (26, _), (27, _), (28, _), (29, _), (30, _), (33, _), (34, _), (35, _), (36, _), (37, _), (38, _), (39, _), (40, _), (41, _), (42, _), (43, _), (44, _), (45, _), (46, _), (47, _), (48, _)]) ⟨rfl, rfl, rfl, rfl, rfl, rfl, rfl, rfl, rfl, rfl, rfl, rfl, rfl, rfl, rfl, rfl, rfl, rfl, rfl, rfl, rfl, rfl, rfl, rfl, rfl, rfl, rfl, rfl, rfl, rfl, rfl, rfl, rfl, rfl, rfl, rfl, trivial⟩ ?_
        refine NX.off ?_
        refine NX.seq ?_
        refine TR.region ?_
        refine RL.move rfl rfl rfl ?_
        refine RL.bin rfl rfl rfl (BinV.sub _ rfl (by omega) (by omega)) rfl ?_
        refine RL.assign rfl rfl rfl ?_
        refine RL.nil ?_
        refine NX.roundP (swpK y.1 y.2, y.2 - 1) ⟨(swpK_len _ _).trans hy.1, (swpK_perm (by omega) hj0).trans hy.2.1, by show y.2 - 1 ≤ _; omega⟩ (by show y.2 - 1 < y.2; omega) ⟨rfl, rfl, rfl, rfl, ?_, trivial⟩ (fun w hw => ?_)
        · show some (I ((y.2 : Int) - 1)) = some (I ((y.2 - 1 : Nat) : Int)); congr 2; omega
        · have e1 := coC_set (l := y.1) (v := (y.2 : Int)) (x := kAt y.1 (y.2 - 1)) y.2 (by omega) (by omega)
          have e2 := coC_set (l := y.1.set y.2 (kAt y.1 (y.2 - 1))) (v := (y.2 : Int) - 1) (x := kAt y.1 y.2) (y.2 - 1) (by omega) (by rw [List.length_set]; omega)
          show St w (OwnSl 9 1 oa l0.length c (coC (swpK y.1 y.2)) :: M) F
          unfold swpK
          rw [← e2, ← e1]
          exact hw
      · skip
        refine TR.exit ?_
        refine NX.exitThen ?_
        refine NX.exitThen ?_
        refine NX.exitHere ?_
        refine NX.off ?_
        refine NX.seq ?_
        refine TR.region ?_
        refine RL.move rfl rfl rfl ?_
        refine RL.bin rfl rfl rfl (BinV.add _ rfl (by omega) (by omega)) rfl ?_
        refine RL.assign rfl rfl rfl ?_
        refine RL.nil ?_
        refine NX.roundP (y.1, x.2 + 1) ⟨hy.1, hy.2.1, by show 1 ≤ x.2 + 1; omega⟩ (by show l0.length + 1 - (x.2 + 1) < l0.length + 1 - x.2; omega) ⟨rfl, rfl, rfl, rfl, trivial⟩ (fun w hw => hw)
  · skip
    have hi : ¬ x.2 < l0.length := by have := of_decide_eq_false h1; omega
    refine TR.exit ?_
    refine NX.exitThen ?_
    refine NX.exitThen ?_
    refine NX.exitHere ?_
    exact NX.end0 (⟨x.1, hx.2.1⟩ : {l : List Ky // l.Perm l0}) rfl rfl (fun w hw => hw)
theorem pdqS_spec {l0 : List Ky} {oa : Option Addr} {c : Nat} {n : Int} {M : List HP} {F : List Fact} (h12 : l0.length ≤ 12) : Ctr Try.prog 64 [.slice oa l0.length c, I 0, I (l0.length : Nat), I n] (OwnSl 9 1 oa l0.length c (coC l0) :: M) F {l : List Ky // l.Perm l0} (fun _ => .tuple #[]) (fun z => OwnSl 9 1 oa l0.length c (coC z.1) :: M) (fun _ => F) := by
  refine Ctr.body Try.func64 rfl rfl ?_
  refine TR.seq ?_
  refine TR.region ?_
  refine RL.assign rfl rfl rfl ?_
  refine RL.nil ?_
  refine NX.seq ?_
  refine TR.seq ?_
  refine TR.region ?_
  refine RL.assign rfl rfl rfl ?_
  refine RL.nil ?_
  refine NX.seq ?_
  refine TR.block ?_
  refine TR.loopP (ι := Nat) (fun k => k ≤ 0) (fun _ => [(0, .slice oa l0.length c), (1, I 0), (2, I (l0.length : Nat))]) (fun _ => OwnSl 9 1 oa l0.length c (coC l0) :: M) (fun _ => F) (fun k => k) 0 (Nat.le_refl _) ⟨rfl, rfl, rfl, trivial⟩ (fun w hw => hw) (fun k hk => ?_)
  refine TR.block ?_
  refine TR.seq ?_
  refine TR.region ?_
  refine RL.move rfl rfl rfl ?_
  refine RL.move rfl rfl rfl ?_
  refine RL.bin rfl rfl rfl (BinV.sub _ rfl (by omega) (by omega)) rfl ?_
  refine RL.assign rfl rfl rfl ?_
  refine RL.nil ?_
  refine NX.seq ?_
  refine TR.seq ?_
  refine TR.seq ?_
  refine TR.region ?_
  refine RL.move rfl rfl rfl ?_
  refine RL.bin rfl rfl rfl (BinV.to (d := true) BinV.leq (decide_eq_true (by omega))) rfl ?_
  refine RL.nil ?_
  refine NX.seq ?_
  refine TR.condT rfl ?_
  refine TR.seq ?_
  refine TR.region ?_
  refine RL.move rfl rfl rfl ?_
  refine RL.move rfl rfl rfl ?_
  refine RL.move rfl rfl rfl ?_
  refine RL.call rfl rfl Try.call72 rfl (isortS_spec (by omega)) (fun z => ?_)
  refine RL.nil ?_
  refine NX.seq ?_
  refine TR.ret ?_
  refine NX.retThen ?_
  refine NX.retBlock ?_
  refine NX.retThen ?_
  refine NX.retBlock ?_
  exact NX.ret0 z rfl rfl (fun w hw => hw)
set_option maxRecDepth 100000 in
set_option maxHeartbeats 1000000 in
theorem len64_spec {x : Nat} {M : List HP} {F : List Fact} : Ctr Try.prog 82 [U x] M F Int (fun n => I n) (fun _ => M) (fun _ => F) := by
  refine Ctr.body Try.func82 rfl rfl ?_
  refine TR.seq ?_
  refine TR.region ?_
  refine RL.assign rfl rfl rfl ?_
  refine RL.nil ?_
  refine NX.seq ?_
  refine TR.seq ?_
  refine TR.seq ?_
  refine TR.region ?_
  refine RL.move rfl rfl rfl ?_
  refine RL.bin rfl rfl rfl BinV.geq rfl ?_
  refine RL.nil ?_
  refine NX.seq ?_
  refine TR.cond rfl (fun h1 => ?_) (fun h1 => ?_)
  · skip
    refine TR.seq ?_
    refine TR.region ?_
    refine RL.move rfl rfl rfl ?_
    refine RL.bin rfl rfl rfl (BinV.shrU (s := 32) (by omega)) rfl ?_
    refine RL.assign rfl rfl rfl ?_
    refine RL.nil ?_
    refine NX.seq ?_
    refine TR.region ?_
    refine RL.assign rfl rfl rfl ?_
    refine RL.nil ?_
    refine NX.seq ?_
    refine TR.seq ?_
    refine TR.seq ?_
    refine TR.region ?_
    refine RL.move rfl rfl rfl ?_
    refine RL.bin rfl rfl rfl BinV.geq rfl ?_
    refine RL.nil ?_
    refine NX.seq ?_
    refine TR.cond rfl (fun h2 => ?_) (fun h2 => ?_)
    · skip
      refine TR.seq ?_
      refine TR.region ?_
      refine RL.move rfl rfl rfl ?_
      refine RL.bin rfl rfl rfl (BinV.shrU (s := 16) (by omega)) rfl ?_
      refine RL.assign rfl rfl rfl ?_
      refine RL.nil ?_
      refine NX.seq ?_
      refine TR.region ?_
      refine RL.move rfl rfl rfl ?_
      refine RL.bin rfl rfl rfl (BinV.add _ rfl (by omega) (by omega)) rfl ?_
      refine RL.assign rfl rfl rfl ?_
      refine RL.nil ?_
      refine NX.seq ?_
      refine TR.seq ?_
      refine TR.seq ?_
      refine TR.region ?_
      refine RL.move rfl rfl rfl ?_
      refine RL.bin rfl rfl rfl BinV.geq rfl ?_
      refine RL.nil ?_
      refine NX.seq ?_
      refine TR.cond rfl (fun h3 => ?_) (fun h3 => ?_)
      · skip
        refine TR.seq ?_
        refine TR.region ?_
        refine RL.move rfl rfl rfl ?_
        refine RL.bin rfl rfl rfl (BinV.shrU (s := 8) (by omega)) rfl ?_
        refine RL.assign rfl rfl rfl ?_
        refine RL.nil ?_
        refine NX.seq ?_
        refine TR.region ?_
        refine RL.move rfl rfl rfl ?_
        refine RL.bin rfl rfl rfl (BinV.add _ rfl (by omega) (by omega)) rfl ?_
        refine RL.assign rfl rfl rfl ?_
        refine RL.nil ?_
        refine NX.seq ?_
        refine TR.seq ?_
        refine TR.region ?_
        refine RL.move rfl rfl rfl ?_
        refine RL.move rfl rfl rfl ?_
        refine RL.conv rfl rfl (ConvV.ub wt_ti133 wt_ti5) rfl ?_
        refine RL.indexSU rfl wt_tstr9 rfl rfl (List.getElem?_eq_getElem (by show _ < 256; omega)) rfl ?_
        refine RL.conv rfl rfl (ConvV.int wt_ti5 wt_ti3) rfl ?_
        refine RL.bin rfl rfl rfl BinV.addW rfl ?_
        refine RL.assign rfl rfl rfl ?_
        refine RL.nil ?_
        refine NX.seq ?_
        refine TR.ret ?_
        exact NX.ret1 _ rfl rfl rfl (fun w hw => hw)
      · skip
        refine TR.skip ?_
        refine NX.seq ?_
        refine TR.seq ?_
        refine TR.region ?_
        refine RL.move rfl rfl rfl ?_
        refine RL.move rfl rfl rfl ?_
        refine RL.conv rfl rfl (ConvV.ub wt_ti133 wt_ti5) rfl ?_
        refine RL.indexSU rfl wt_tstr9 rfl rfl (List.getElem?_eq_getElem (by show _ < 256; omega)) rfl ?_
        refine RL.conv rfl rfl (ConvV.int wt_ti5 wt_ti3) rfl ?_
        refine RL.bin rfl rfl rfl BinV.addW rfl ?_
        refine RL.assign rfl rfl rfl ?_
        refine RL.nil ?_
        refine NX.seq ?_
        refine TR.ret ?_
        exact NX.ret1 _ rfl rfl rfl (fun w hw => hw)
    · skip
      refine TR.skip ?_
      refine NX.seq ?_
      refine TR.seq ?_
      refine TR.seq ?_
      refine TR.region ?_
      refine RL.move rfl rfl rfl ?_
      refine RL.bin rfl rfl rfl BinV.geq rfl ?_
      refine RL.nil ?_
      refine NX.seq ?_
      refine TR.cond rfl (fun h4 => ?_) (fun h4 => ?_)
      · skip
        refine TR.seq ?_
        refine TR.region ?_
        refine RL.move rfl rfl rfl ?_
        refine RL.bin rfl rfl rfl (BinV.shrU (s := 8) (by omega)) rfl ?_
        refine RL.assign rfl rfl rfl ?_
        refine RL.nil ?_
        refine NX.seq ?_
        refine TR.region ?_
        refine RL.move rfl rfl rfl ?_
        refine RL.bin rfl rfl rfl (BinV.add _ rfl (by omega) (by omega)) rfl ?_
        refine RL.assign rfl rfl rfl ?_
        refine RL.nil ?_
        refine NX.seq ?_
        refine TR.seq ?_
        refine TR.region ?_
        refine RL.move rfl rfl rfl ?_
        refine RL.move rfl rfl rfl ?_
        refine RL.conv rfl rfl (ConvV.ub wt_ti133 wt_ti5) rfl ?_
        refine RL.indexSU rfl wt_tstr9 rfl rfl (List.getElem?_eq_getElem (by show _ < 256; omega)) rfl ?_
        refine RL.conv rfl rfl (ConvV.int wt_ti5 wt_ti3) rfl ?_
        refine RL.bin rfl rfl rfl BinV.addW rfl ?_
        refine RL.assign rfl rfl rfl ?_
        refine RL.nil ?_
        refine NX.seq ?_
        refine TR.ret ?_
        exact NX.ret1 _ rfl rfl rfl (fun w hw => hw)
      · skip
        refine TR.skip ?_
        refine NX.seq ?_
        refine TR.seq ?_
        refine TR.region ?_
        refine RL.move rfl rfl rfl ?_
        refine RL.move rfl rfl rfl ?_
        refine RL.conv rfl rfl (ConvV.ub wt_ti133 wt_ti5) rfl ?_
        refine RL.indexSU rfl wt_tstr9 rfl rfl (List.getElem?_eq_getElem (by show _ < 256; omega)) rfl ?_
        refine RL.conv rfl rfl (ConvV.int wt_ti5 wt_ti3) rfl ?_
        refine RL.bin rfl rfl rfl BinV.addW rfl ?_
        refine RL.assign rfl rfl rfl ?_
        refine RL.nil ?_
        refine NX.seq ?_
        refine TR.ret ?_
        exact NX.ret1 _ rfl rfl rfl (fun w hw => hw)
  · skip
    refine TR.skip ?_
    refine NX.seq ?_
    refine TR.seq ?_
    refine TR.seq ?_
    refine TR.region ?_
    refine RL.move rfl rfl rfl ?_
    refine RL.bin rfl rfl rfl BinV.geq rfl ?_
    refine RL.nil ?_
    refine NX.seq ?_
    refine TR.cond rfl (fun h5 => ?_) (fun h5 => ?_)
    · skip
      refine TR.seq ?_
      refine TR.region ?_
      refine RL.move rfl rfl rfl ?_
      refine RL.bin rfl rfl rfl (BinV.shrU (s := 16) (by omega)) rfl ?_
      refine RL.assign rfl rfl rfl ?_
      refine RL.nil ?_
      refine NX.seq ?_
      refine TR.region ?_
      refine RL.move rfl rfl rfl ?_
      refine RL.bin rfl rfl rfl (BinV.add _ rfl (by omega) (by omega)) rfl ?_
      refine RL.assign rfl rfl rfl ?_
      refine RL.nil ?_
      refine NX.seq ?_
      refine TR.seq ?_
      refine TR.seq ?_
      refine TR.region ?_
      refine RL.move rfl rfl rfl ?_
      refine RL.bin rfl rfl rfl BinV.geq rfl ?_
      refine RL.nil ?_
      refine NX.seq ?_
      refine TR.cond rfl (fun h6 => ?_) (fun h6 => ?_)
      · skip
        refine TR.seq ?_
        refine TR.region ?_
        refine RL.move rfl rfl rfl ?_
        refine RL.bin rfl rfl rfl (BinV.shrU (s := 8) (by omega)) rfl ?_
        refine RL.assign rfl rfl rfl ?_
        refine RL.nil ?_
        refine NX.seq ?_
        refine TR.region ?_
        refine RL.move rfl rfl rfl ?_
        refine RL.bin rfl rfl rfl (BinV.add _ rfl (by omega) (by omega)) rfl ?_
        refine RL.assign rfl rfl rfl ?_
        refine RL.nil ?_
        refine NX.seq ?_
        refine TR.seq ?_
        refine TR.region ?_
        refine RL.move rfl rfl rfl ?_
        refine RL.move rfl rfl rfl ?_
        refine RL.conv rfl rfl (ConvV.ub wt_ti133 wt_ti5) rfl ?_
        refine RL.indexSU rfl wt_tstr9 rfl rfl (List.getElem?_eq_getElem (by show _ < 256; omega)) rfl ?_
        refine RL.conv rfl rfl (ConvV.int wt_ti5 wt_ti3) rfl ?_
        refine RL.bin rfl rfl rfl BinV.addW rfl ?_
        refine RL.assign rfl rfl rfl ?_
        refine RL.nil ?_
        refine NX.seq ?_
        refine TR.ret ?_
        exact NX.ret1 _ rfl rfl rfl (fun w hw => hw)
      · skip
        refine TR.skip ?_
        refine NX.seq ?_
        refine TR.seq ?_
        refine TR.region ?_
        refine RL.move rfl rfl rfl ?_
        refine RL.move rfl rfl rfl ?_
        refine RL.conv rfl rfl (ConvV.ub wt_ti133 wt_ti5) rfl ?_
        refine RL.indexSU rfl wt_tstr9 rfl rfl (List.getElem?_eq_getElem (by show _ < 256; omega)) rfl ?_
        refine RL.conv rfl rfl (ConvV.int wt_ti5 wt_ti3) rfl ?_
        refine RL.bin rfl rfl rfl BinV.addW rfl ?_
        refine RL.assign rfl rfl rfl ?_
        refine RL.nil ?_
        refine NX.seq ?_
        refine TR.ret ?_
        exact NX.ret1 _ rfl rfl rfl (fun w hw => hw)
    · skip
      refine TR.skip ?_
      refine NX.seq ?_
      refine TR.seq ?_
      refine TR.seq ?_
      refine TR.region ?_
      refine RL.move rfl rfl rfl ?_
      refine RL.bin rfl rfl rfl BinV.geq rfl ?_
      refine RL.nil ?_
      refine NX.seq ?_
      refine TR.cond rfl (fun h7 => ?_) (fun h7 => ?_)
      · skip
        refine TR.seq ?_
        refine TR.region ?_
        refine RL.move rfl rfl rfl ?_
        refine RL.bin rfl rfl rfl (BinV.shrU (s := 8) (by omega)) rfl ?_
        refine RL.assign rfl rfl rfl ?_
        refine RL.nil ?_
        refine NX.seq ?_
        refine TR.region ?_
        refine RL.move rfl rfl rfl ?_
        refine RL.bin rfl rfl rfl (BinV.add _ rfl (by omega) (by omega)) rfl ?_
        refine RL.assign rfl rfl rfl ?_
        refine RL.nil ?_
        refine NX.seq ?_
        refine TR.seq ?_
        refine TR.region ?_
        refine RL.move rfl rfl rfl ?_
        refine RL.move rfl rfl rfl ?_
        refine RL.conv rfl rfl (ConvV.ub wt_ti133 wt_ti5) rfl ?_
        refine RL.indexSU rfl wt_tstr9 rfl rfl (List.getElem?_eq_getElem (by show _ < 256; omega)) rfl ?_
        refine RL.conv rfl rfl (ConvV.int wt_ti5 wt_ti3) rfl ?_
        refine RL.bin rfl rfl rfl BinV.addW rfl ?_
        refine RL.assign rfl rfl rfl ?_
        refine RL.nil ?_
        refine NX.seq ?_
        refine TR.ret ?_
        exact NX.ret1 _ rfl rfl rfl (fun w hw => hw)
      · skip
        refine TR.skip ?_
        refine NX.seq ?_
        refine TR.seq ?_
        refine TR.region ?_
        refine RL.move rfl rfl rfl ?_
        refine RL.move rfl rfl rfl ?_
        refine RL.conv rfl rfl (ConvV.ub wt_ti133 wt_ti5) rfl ?_
        refine RL.indexSU rfl wt_tstr9 rfl rfl (List.getElem?_eq_getElem (by show _ < 256; omega)) rfl ?_
        refine RL.conv rfl rfl (ConvV.int wt_ti5 wt_ti3) rfl ?_
        refine RL.bin rfl rfl rfl BinV.addW rfl ?_
        refine RL.assign rfl rfl rfl ?_
        refine RL.nil ?_
        refine NX.seq ?_
        refine TR.ret ?_
        exact NX.ret1 _ rfl rfl rfl (fun w hw => hw)
theorem len_spec {x : Nat} {M : List HP} {F : List Fact} : Ctr Try.prog 65 [U x] M F Int (fun n => I n) (fun _ => M) (fun _ => F) := by
  refine Ctr.body Try.func65 rfl rfl ?_
  refine TR.seq ?_
  refine TR.region ?_
  refine RL.assign rfl rfl rfl ?_
  refine RL.nil ?_
  refine NX.seq ?_
  refine TR.seq ?_
  refine TR.condF rfl ?_
  refine TR.skip ?_
  refine NX.seq ?_
  refine TR.seq ?_
  refine TR.region ?_
  refine RL.move rfl rfl rfl ?_
  refine RL.call rfl rfl Try.call82 rfl (len64_spec (x := x)) (fun n => ?_)
  refine RL.assign rfl rfl rfl ?_
  refine RL.nil ?_
  refine NX.seq ?_
  refine TR.ret ?_
  exact NX.ret1 n rfl rfl rfl (fun w hw => hw)
theorem sortS_spec {l0 : List Ky} {oa : Option Addr} {c : Nat} {M : List HP} {F : List Fact} (h12 : l0.length ≤ 12) : Ctr Try.prog 54 [.slice oa l0.length c] (OwnSl 9 1 oa l0.length c (coC l0) :: M) F {l : List Ky // l.Perm l0} (fun _ => .tuple #[]) (fun z => OwnSl 9 1 oa l0.length c (coC z.1) :: M) (fun _ => F) := by
  refine Ctr.body Try.func54 rfl rfl ?_
  refine TR.seq ?_
  refine TR.region ?_
  refine RL.move rfl rfl rfl ?_
  refine RL.lenSlice rfl wt_tl35 rfl rfl ?_
  refine RL.assign rfl rfl rfl ?_
  refine RL.nil ?_
  refine NX.seq ?_
  refine TR.region ?_
  refine RL.move rfl rfl rfl ?_
  refine RL.move rfl rfl rfl ?_
  refine RL.move rfl rfl rfl ?_
  refine RL.conv rfl rfl (ConvV.iu wt_ti3 wt_ti114 (by omega)) rfl ?_
  refine RL.call rfl rfl Try.call65 rfl (len_spec) (fun n => ?_)
  refine RL.call rfl rfl Try.call64 rfl (pdqS_spec h12) (fun z => ?_)
  refine RL.nil ?_
  exact NX.end0 z rfl rfl (fun w hw => hw)
theorem keysS_iter {bm m : Nat} {kvs : KV} {F : List Fact} (hk : (kvs.map Prod.fst).Nodup) : IterG Try.prog 55 [.pointer (some ⟨bm, 0, none⟩)] keyE (fun pre x => ∃ suf, (pre ++ x :: suf).Perm (kvs.map Prod.fst)) (fun xs => xs.Perm (kvs.map Prod.fst)) [Box bm 61 [.map (some m)], MpB m kvs] F := by
  intro l J hY Mi G hG
  refine Ctr.weak (M := [Box bm 61 [.map (some m)], MpB m kvs] ++ (J [] ++ Mi)) (M' := fun xs : {xs : List Ky // xs.Perm (kvs.map Prod.fst)} => [Box bm 61 [.map (some m)], MpB m kvs] ++ (J xs.1 ++ Mi)) (F := G) (F' := fun _ => G) ?_ (fun w hw => hw.perm (perm_mid _ _ _)) id (fun _ => rfl) (fun i w hw => hw.perm (perm_mid _ _ _))
  refine Ctr.body Try.func55 rfl rfl ?_
  refine TR.seq ?_
  refine TR.region ?_
  refine RL.load1 0 rfl wt_ts61 rfl rfl rfl rfl ?_
  refine RL.ofGV rfl rfl (GV.range 1 wt_tm61 rfl rfl) (fun q => ?_)
  refine RL.nil ?_
  refine NX.seq ?_
  refine TR.block ?_
  refine TR.loopP (ι := (List Ky × List Ky × Option Ky)) (fun x => (x.1 ++ x.2.1).Perm (kvs.map Prod.fst)) (fun x => [(0, .func (.yield l) #[] #[]), (5, .pointer (some ⟨q, 0, none⟩))]) (fun x => Box bm 61 [.map (some m)] :: RgB m q kvs x.2.1 x.2.2 :: (J x.1 ++ Mi)) (fun _ => G) (fun x => x.2.1.length) ([], kvs.map Prod.fst, none) (List.Perm.refl _) ⟨rfl, rfl, trivial⟩ (fun w hw => hw) (fun x hx => ?_)
  refine TR.seq ?_
  refine TR.region ?_
  refine RL.ofGV rfl rfl (GV.next 1 rfl rfl) (fun nx => ?_)
  obtain ⟨_ | nx, hnx⟩ := nx
  · skip
    refine RL.extract rfl rfl rfl rfl ?_
    refine RL.nil ?_
    refine NX.seq ?_
    refine TR.seq ?_
    refine TR.condF rfl ?_
    refine TR.exit ?_
    refine NX.exitThen ?_
    refine NX.exitThen ?_
    refine NX.exitHere ?_
    have hl : x.2.1 = [] := hnx
    exact NX.end0 (⟨x.1, by have h9 := hx; rw [hl, List.append_nil] at h9; exact h9⟩ : {xs : List Ky // xs.Perm (kvs.map Prod.fst)}) rfl rfl (fun w hw => hw)
  · skip
    refine RL.extract rfl rfl rfl rfl ?_
    refine RL.nil ?_
    refine NX.seq ?_
    refine TR.seq ?_
    refine TR.condT rfl ?_
    refine TR.skip ?_
    refine NX.seq ?_
    refine TR.block ?_
    refine TR.seq ?_
    refine TR.region ?_
    obtain ⟨nk, nv⟩ := nx
    have hst := keysS_step hk hx hnx.1
    refine RL.entry 1 rfl rfl rfl hnx.2 rfl ?_
    refine RL.extract rfl rfl rfl rfl ?_
    refine RL.assign rfl rfl rfl ?_
    refine RL.nil ?_
    refine NX.seq ?_
    refine TR.seq ?_
    refine TR.region ?_
    refine RL.move rfl rfl rfl ?_
    refine RL.move rfl rfl rfl ?_
    refine RL.callYield rfl rfl rfl rfl (YSpec.frame [_, _] (hY x.1 nk _ ⟨_, hst.1⟩ rfl ([_, _] ++ Mi) G hG)) ?_
    refine RL.not rfl rfl rfl ?_
    refine RL.nil ?_
    refine NX.seq ?_
    refine TR.condF rfl ?_
    refine TR.skip ?_
    refine NX.off ?_
    exact NX.roundP (x.1 ++ [nk], x.2.1.filter fun y => !decide (y = nk), some nk) hst.2 (leftS_lt hnx.1) ⟨rfl, rfl, trivial⟩ (fun w hw => hw)
theorem mkeysS_spec {m : Nat} {M : List HP} {F : List Fact} : Ctr Try.prog 36 [.map (some m)] M F Nat (fun bm => .func (.func 55) #[] #[.pointer (some ⟨bm, 0, none⟩)]) (fun bm => Box bm 61 [.map (some m)] :: M) (fun _ => F) := by
  refine Ctr.body Try.func36 rfl rfl ?_
  refine TR.seq ?_
  refine TR.region ?_
  refine RL.box1 rfl rfl rfl rfl (fun b1 => ?_)
  refine RL.assign rfl rfl rfl ?_
  refine RL.nil ?_
  refine NX.seq ?_
  refine TR.seq ?_
  refine TR.region ?_
  refine RL.makeFunc rfl rfl rfl rfl ?_
  refine RL.assign rfl rfl rfl ?_
  refine RL.nil ?_
  refine NX.seq ?_
  refine TR.ret ?_
  exact NX.ret1 b1 rfl rfl rfl (fun w hw => hw)
theorem apseqS_spec {gf : FuncId} {cap : List Value} {step : List Ky → Ky → Prop} {fin : List Ky → Prop} {L0 M : List HP} {F : List Fact} (hcall : ∀ args w, (callFunc gf args).run Try.prog w = .ok (.enter gf args) w) (hit : IterG Try.prog gf cap keyE step fin L0 F) (hst : ∀ pre x, step pre x → pre.length < 1000) : Ctr Try.prog 63 [.slice none 0 0, .func (.func gf) #[] cap.toArray] (L0 ++ M) F {z : List Ky × Option Addr × Nat // fin z.1} (fun z => .slice z.1.2.1 z.1.1.length z.1.2.2) (fun z => OwnSl 9 1 z.1.2.1 z.1.1.length z.1.2.2 (coC z.1.1) :: (L0 ++ M)) (fun _ => F) := by
  refine Ctr.bodyM Try.func63 rfl rfl ?_
  refine TR.seq ?_
  refine TR.region ?_
  refine RL.box1 rfl rfl rfl rfl (fun b1 => ?_)
  refine RL.assign rfl rfl rfl ?_
  refine RL.nil ?_
  refine NX.seq ?_
  refine TR.seq ?_
  refine TR.seq ?_
  refine TR.region ?_
  refine RL.move rfl rfl rfl ?_
  refine RL.nil ?_
  refine NX.seq ?_
  refine TR.block ?_
  refine TR.rangeFuncG (κ := Unit) rfl hcall (by simp) keyE_len hit (fun pre => [StrB b1 pre]) M (fun w hw => (by have h9 := hw.tail; exact St.exClose (M0 := fun i : Option Addr × Nat => [Box b1 35 [.slice i.1 ([] : List Ky).length i.2], OwnSl 9 1 i.1 ([] : List Ky).length i.2 (coC [])]) (none, 0) (show St w ([_, _] ++ (L0 ++ M)) F from (OwnSl.nil_new 9 1 hw).swap))) (fun pre x args _ => [(2, .pointer (some ⟨b1, 0, none⟩)), (5, S x)]) (fun pre x args _ => [StrB b1 pre]) ?as0 ?bd0 ?ki0
  case as0 =>
    intro l pre x args hx he Mi G hG
    obtain rfl : args = [S x] := he
    have hpl := hst pre x hx
    refine TR.region ?_
    refine RL.assign rfl rfl rfl ?_
    refine RL.nil ?_
    exact NX.meet () ⟨rfl, rfl, trivial⟩ (fun w hw => hw)
  case bd0 =>
    intro l pre x args i hx he Mi G hG
    obtain rfl : args = [S x] := he
    have hpl := hst pre x hx
    refine TR.open (fun w hw => (St.exOpen (show St w (Ex _ :: _) G from hw))) (fun oc => ?_)
    refine TR.block ?_
    refine TR.region ?_
    refine RL.load1 0 rfl wt_ts35 rfl rfl rfl rfl ?_
    refine RL.move rfl rfl rfl ?_
    refine RL.buildSlice rfl rfl (wt_bs35_1_0 _) rfl (fun b2 => ?_)
    refine RL.ofGV rfl rfl (GV.append (j := 2) wt_tl35 wt_ni35 wt_te9 rfl rfl rfl (src_box (i := 0) rfl rfl rfl) (by omega) (by omega)) (fun z => ?_)
    refine RL.store1 1 rfl wt_ts35 rfl rfl rfl rfl rfl ?_
    refine RL.nil ?_
    refine NX.off ?_
    exact fun aa w _ hw => by
      have h9 : St w (Box b1 35 [.slice z.1 (pre.length + 1) z.2] :: OwnSl 9 1 z.1 (pre.length + 1) z.2 (coC pre ++ [S x]) :: Mi) G := hw.drop 0 rfl
      refine St.exClose (M0 := fun i : Option Addr × Nat => [Box b1 35 [.slice i.1 (pre ++ [x]).length i.2], OwnSl 9 1 i.1 (pre ++ [x]).length i.2 (coC (pre ++ [x]))]) z ?_
      rw [List.length_append, show coC (pre ++ [x]) = coC pre ++ [S x] from List.map_append]
      exact h9
  case ki0 =>
    intro xs hfin D
    refine NX.off ?_
    refine NX.seq ?_
    refine TR.seq ?_
    refine TR.pick 2 [1, 0] rfl ?_
    refine TR.open (fun w hw => (St.exOpen (show St w (Ex _ :: _) F from hw))) (fun oc => ?_)
    refine TR.region ?_
    refine RL.load1 0 rfl wt_ts35 rfl rfl rfl rfl ?_
    refine RL.assign rfl rfl rfl ?_
    refine RL.nil ?_
    refine NX.seq ?_
    refine TR.ret ?_
    refine NX.retM 2 (⟨(xs, oc), hfin⟩ : {z : List Ky × Option Addr × Nat // fin z.1}) rfl rfl rfl rfl (fun w hw => ?_)
    exact hw.drop 0 rfl
theorem collectS_spec {gf : FuncId} {cap : List Value} {step : List Ky → Ky → Prop} {fin : List Ky → Prop} {L0 M : List HP} {F : List Fact} (hcall : ∀ args w, (callFunc gf args).run Try.prog w = .ok (.enter gf args) w) (hit : IterG Try.prog gf cap keyE step fin L0 F) (hst : ∀ pre x, step pre x → pre.length < 1000) : Ctr Try.prog 53 [.func (.func gf) #[] cap.toArray] (L0 ++ M) F {z : List Ky × Option Addr × Nat // fin z.1} (fun z => .slice z.1.2.1 z.1.1.length z.1.2.2) (fun z => OwnSl 9 1 z.1.2.1 z.1.1.length z.1.2.2 (coC z.1.1) :: (L0 ++ M)) (fun _ => F) := by
  refine Ctr.body Try.func53 rfl rfl ?_
  refine TR.seq ?_
  refine TR.region ?_
  refine RL.assign rfl rfl rfl ?_
  refine RL.nil ?_
  refine NX.seq ?_
  refine TR.seq ?_
  refine TR.region ?_
  refine RL.move rfl rfl rfl ?_
  refine RL.call rfl rfl Try.call63 rfl (apseqS_spec hcall hit hst) (fun z => ?_)
  refine RL.assign rfl rfl rfl ?_
  refine RL.nil ?_
  refine NX.seq ?_
  refine TR.ret ?_
  exact NX.ret1 z rfl rfl rfl (fun w hw => hw)
theorem sortedS_spec {gf : FuncId} {cap : List Value} {step : List Ky → Ky → Prop} {fin : List Ky → Prop} {L0 M : List HP} {F : List Fact} (hcall : ∀ args w, (callFunc gf args).run Try.prog w = .ok (.enter gf args) w) (hit : IterG Try.prog gf cap keyE step fin L0 F) (hst : ∀ pre x, step pre x → pre.length < 1000) (hfl : ∀ xs, fin xs → xs.length ≤ 12) : Ctr Try.prog 35 [.func (.func gf) #[] cap.toArray] (L0 ++ M) F {z : List Ky × Option Addr × Nat // ∃ l0 : List Ky, fin l0 ∧ z.1.Perm l0} (fun z => .slice z.1.2.1 z.1.1.length z.1.2.2) (fun z => OwnSl 9 1 z.1.2.1 z.1.1.length z.1.2.2 (coC z.1.1) :: (L0 ++ M)) (fun _ => F) := by
  refine Ctr.body Try.func35 rfl rfl ?_
  refine TR.seq ?_
  refine TR.region ?_
  refine RL.assign rfl rfl rfl ?_
  refine RL.nil ?_
  refine NX.seq ?_
  refine TR.seq ?_
  refine TR.region ?_
  refine RL.move rfl rfl rfl ?_
  refine RL.call rfl rfl Try.call53 rfl (collectS_spec hcall hit hst) (fun z => ?_)
  refine RL.assign rfl rfl rfl ?_
  refine RL.nil ?_
  refine NX.seq ?_
  refine TR.seq ?_
  refine TR.region ?_
  refine RL.move rfl rfl rfl ?_
  refine RL.call rfl rfl Try.call54 rfl (sortS_spec (l0 := z.1.1) (hfl z.1.1 z.2)) (fun y => ?_)
  refine RL.nil ?_
  refine NX.seq ?_
  refine TR.seq ?_
  refine TR.region ?_
  refine RL.move rfl rfl rfl ?_
  refine RL.assign rfl rfl rfl ?_
  refine RL.nil ?_
  refine NX.seq ?_
  refine TR.ret ?_
  exact NX.ret1 (⟨(y.1, z.1.2.1, z.1.2.2), z.1.1, z.2, y.2⟩ : {z : List Ky × Option Addr × Nat // ∃ l0 : List Ky, fin l0 ∧ z.1.Perm l0}) rfl rfl (by rw [y.2.length_eq]) (fun w hw => by rw [y.2.length_eq]; exact hw)
end Go.Proofs.Ythefimaaeilefaa

namespace Go.GL
set_option linter.unusedVariables false
structure Nw (e e' : En) : Prop where
  le : KnLe e e'
  ex : ∃ new, e'.comp = e.comp ++ new ∧ new.Nodup ∧ ∀ x, x ∈ new → ¬ Kn e x ∧ Kn e' x
theorem Nw.same {e e' : En} (h : KnLe e e') (hc : e'.comp = e.comp) : Nw e e' := ⟨h, [], by rw [hc, List.append_nil], List.nodup_nil, fun x hx => by cases hx⟩
theorem Nw.refl (e : En) : Nw e e := Nw.same (KnLe.refl e) rfl
theorem Nw.trans {a b c : En} (h : Nw a b) (h' : Nw b c) : Nw a c := by
  obtain ⟨n1, a1, a2, a3⟩ := h.ex
  obtain ⟨n2, b1, b2, b3⟩ := h'.ex
  refine ⟨h.le.trans h'.le, n1 ++ n2, by rw [b1, a1, List.append_assoc], ?_, fun x hx => ?_⟩
  · rw [List.nodup_append]
    exact ⟨a2, b2, fun x hx y hy e => (b3 y hy).1 (by rw [← e]; exact (a3 x hx).2)⟩
  · rcases List.mem_append.1 hx with hx | hx
    · exact ⟨(a3 x hx).1, h'.le x (a3 x hx).2⟩
    · exact ⟨fun hk => (b3 x hx).1 (h.le x hk), (b3 x hx).2⟩
section
variable {ob : Ky → Nat → En → An × En}
end
section
variable {S : Ky → Prop}
structure SI (S : Ky → Prop) (e : En) : Prop where
  old : ∀ k, S k → okOf e.qs k = none → ∃ q, aGet e.qs k = some q ∧ ∀ p, p ∈ q.tr → S p.1 ∨ aGet e.inp p.1 ≠ none
def Hit (S : Ky → Prop) (e e' : En) : Prop := e'.comp = e.comp ∨ ∃ x, x ∈ e'.comp ∧ S x
theorem SI.same {e e' : En} (h : SI S e) (h1 : e'.inp = e.inp) (h2 : e'.qs = e.qs) : SI S e' := ⟨by rw [h1, h2]; exact h.old⟩
theorem okOf_none_set {qs : List (Ky × Qy)} {k j : Ky} {q : Qy} (h : q.ok = true) (hn : okOf (aSet qs k q) j = none) : okOf qs j = none ∧ aGet (aSet qs k q) j = aGet qs j := by
  rw [okOf_set h] at hn
  split at hn
  · cases hn
  · rename_i e; exact ⟨hn, by rw [aGet_set, if_neg e]⟩
theorem okOf_none_put {gets : Int} {c : Bool} : ∀ {grp : List Fr} {qs : List (Ky × Qy)} {j : Ky}, okOf (putAll gets c grp qs) j = none → okOf qs j = none ∧ aGet (putAll gets c grp qs) j = aGet qs j
  | [], qs, j, h => ⟨h, rfl⟩
  | f :: l, qs, j, h => by
    obtain ⟨h1, h2⟩ := okOf_none_put (grp := l) (qs := aSet qs f.key (toQ gets (c || f.self) f)) h
    obtain ⟨h3, h4⟩ := okOf_none_set (q := toQ gets (c || f.self) f) rfl h1
    exact ⟨h3, h2.trans h4⟩
def Sob (S : Ky → Prop) (ob : Ky → Nat → En → An × En) : Prop := ∀ k b e, SI S e → SI S (ob k b e).2 ∧ (ob k b e).2.inp = e.inp
variable {ob : Ky → Nat → En → An × En}
theorem hold_si (hs : Sob S ob) {own : Nat} : ∀ (T : Tr) (e : En), SI S e → SI S (holdG ob own T e).2 ∧ (holdG ob own T e).2.inp = e.inp
  | [], e, h => ⟨h, rfl⟩
  | (k, a) :: T, e, h => by
    obtain ⟨h1, h2⟩ := hs k own e h
    rw [holdG]
    split
    · exact ⟨h1, h2⟩
    · obtain ⟨h3, h4⟩ := hold_si hs (own := own) T _ h1
      exact ⟨h3, h4.trans h2⟩
theorem run_si (hs : Sob S ob) {own : Nat} : ∀ (r : Ru) (e : En), SI S e → SI S (runG ob own r e).2 ∧ (runG ob own r e).2.inp = e.inp := by
  intro r
  induction r with
  | ret a => exact fun e h => ⟨h, rfl⟩
  | ask k f ih =>
    intro e h
    rw [runG]
    split
    · exact ih _ e h
    · obtain ⟨h1, h2⟩ := hs k own e h
      obtain ⟨h3, h4⟩ := ih (ob k own e).1 (addTr (ob k own e).2 own k (ob k own e).1) (h1.same rfl rfl)
      exact ⟨h3, h4.trans h2⟩
theorem comp_si (hs : Sob S ob) {own : Nat} (r : Ru) (k : Ky) (e : En) (h : SI S e) : SI S (compG ob r k own e) ∧ (compG ob r k own e).inp = e.inp := by
  unfold compG
  split
  · exact ⟨h.same rfl rfl, rfl⟩
  · obtain ⟨h1, h2⟩ := run_si hs (own := own) r { e with fuel := e.fuel - 1 } (h.same rfl rfl)
    split
    · exact ⟨h1, h2⟩
    · exact ⟨h1.same rfl rfl, h2⟩
theorem visit_si (hs : Sob S ob) (r : Ru) (k : Ky) (e : En) (h : SI S e) : SI S (visit ob r k e) ∧ (visit ob r k e).inp = e.inp := by
  unfold visit
  split
  · rename_i q _
    obtain ⟨h1, h2⟩ := hold_si hs (own := e.st.length) q.tr (push e k) (h.same rfl rfl)
    split
    · exact ⟨h1.same rfl rfl, h2⟩
    · obtain ⟨h3, h4⟩ := comp_si hs (own := e.st.length) r k (holdG ob e.st.length q.tr (push e k)).2 h1
      exact ⟨h3, h4.trans h2⟩
  · exact comp_si hs r k (push e k) (h.same rfl rfl)
theorem leave_si (by_ : Option Nat) (own : Nat) (e : En) (h : SI S e) : SI S (leave by_ own e).2 ∧ (leave by_ own e).2.inp = e.inp := by
  unfold leave
  split
  · exact ⟨h, rfl⟩
  · split
    · unfold bump
      split
      · exact ⟨h, rfl⟩
      · exact ⟨h.same rfl rfl, rfl⟩
    · refine ⟨⟨fun k hk hn => ?_⟩, rfl⟩
      obtain ⟨h1, h2⟩ := okOf_none_put (grp := e.st.drop own) (qs := e.qs) (gets := e.gets) (c := decide (1 < (e.st.drop own).length)) hn
      obtain ⟨q, a1, a2⟩ := h.old k hk h1
      exact ⟨q, h2.trans a1, a2⟩
theorem hit_si {e : En} (by_ : Option Nat) (i : Nat) (h : SI S e) : SI S (hit e by_ i) ∧ (hit e by_ i).inp = e.inp := by
  unfold hit
  split
  · exact ⟨h, rfl⟩
  · split
    · exact ⟨h, rfl⟩
    · exact ⟨h.same rfl rfl, rfl⟩
theorem obt_si (rule : Ky → Ru) : ∀ d k by_ e, SI S e → SI S (obt rule d k by_ e).2 ∧ (obt rule d k by_ e).2.inp = e.inp
  | 0, k, by_, e, h => ⟨h, rfl⟩
  | d + 1, k, by_, e, h => by
    rw [obt]
    split
    · exact ⟨h, rfl⟩
    · split
      · exact ⟨h, rfl⟩
      · split
        · exact hit_si by_ _ h
        · split
          · rename_i q hq
            refine ⟨⟨fun j hj hn => ?_⟩, rfl⟩
            obtain ⟨h1, h2⟩ := okOf_none_set (q := { q with used := e.gets }) (okOf_get hq).2 hn
            obtain ⟨q', a1, a2⟩ := h.old j hj h1
            exact ⟨q', h2.trans a1, a2⟩
          · obtain ⟨h1, h2⟩ := visit_si (ob := fun k b e => obt rule d k (some b) e) (fun k b e => obt_si rule d k (some b) e) (rule k) k e h
            obtain ⟨h3, h4⟩ := leave_si by_ e.st.length (visit (fun k b e => obt rule d k (some b) e) (rule k) k e) h1
            exact ⟨h3, h4.trans h2⟩
theorem Hit.trans {a b c : En} (h : Hit S a b) (h' : Hit S b c) (hn : Nw b c) : Hit S a c := by
  rcases h' with h' | h'
  · rcases h with h | ⟨x, h1, h2⟩
    · exact .inl (h'.trans h)
    · exact .inr ⟨x, by rw [h']; exact h1, h2⟩
  · exact .inr h'
theorem Hit.more {a b c : En} (h : Hit S a b) (hc : c.comp = b.comp) : Hit S a c := by
  unfold Hit at h ⊢; rw [hc]; exact h
end
def AllOk (e : En) : Prop := ∀ k q, aGet e.qs k = some q → q.ok = true
section
variable {rule : Ky → Ru} {U : List Ky}
theorem okOf_all {e : En} (h : AllOk e) (k : Ky) : okOf e.qs k = aGet e.qs k := by
  unfold okOf
  cases hq : aGet e.qs k with
  | none => rfl
  | some q => simp only; rw [if_pos (h k q hq)]
theorem okOf_put {gets : Int} {c : Bool} : ∀ {grp : List Fr} {qs : List (Ky × Qy)}, (∀ k q, aGet qs k = some q → q.ok = true) → ∀ k q, aGet (putAll gets c grp qs) k = some q → q.ok = true
  | [], qs, h => h
  | f :: l, qs, h => okOf_put (grp := l) (qs := aSet qs f.key (toQ gets (c || f.self) f)) fun k q hk => by
    rw [aGet_set] at hk
    split at hk
    · cases hk; rfl
    · exact h k q hk
def Aob (ob : Ky → Nat → En → An × En) : Prop := ∀ k b e, AllOk e → AllOk (ob k b e).2
variable {ob : Ky → Nat → En → An × En}
theorem hold_all (ho : Aob ob) {own : Nat} : ∀ (T : Tr) (e : En), AllOk e → AllOk (holdG ob own T e).2
  | [], e, h => h
  | (k, a) :: T, e, h => by
    rw [holdG]
    split
    · exact ho k own e h
    · exact hold_all ho T _ (ho k own e h)
theorem run_all (ho : Aob ob) {own : Nat} : ∀ (r : Ru) (e : En), AllOk e → AllOk (runG ob own r e).2 := by
  intro r
  induction r with
  | ret a => exact fun e h => h
  | ask k f ih =>
    intro e h
    rw [runG]
    split
    · exact ih _ e h
    · exact ih (ob k own e).1 (addTr (ob k own e).2 own k (ob k own e).1) (ho k own e h)
theorem comp_all (ho : Aob ob) {own : Nat} (r : Ru) (k : Ky) (e : En) (h : AllOk e) : AllOk (compG ob r k own e) := by
  unfold compG
  split
  · exact h
  · have h1 := run_all ho (own := own) r { e with fuel := e.fuel - 1 } h
    split
    · exact h1
    · exact h1
theorem obt_all (rule : Ky → Ru) : ∀ d k by_ e, AllOk e → AllOk (obt rule d k by_ e).2
  | 0, k, by_, e, h => h
  | d + 1, k, by_, e, h => by
    have ho : Aob (fun k b e => obt rule d k (some b) e) := fun k b e => obt_all rule d k (some b) e
    rw [obt]
    split
    · exact h
    · split
      · exact h
      · split
        · unfold hit
          split
          · exact h
          · split
            · exact h
            · exact h
        · split
          · rename_i q hq
            intro j q' hj
            have hj : aGet (aSet e.qs k { q with used := e.gets }) j = some q' := hj
            rw [aGet_set] at hj
            split at hj
            · cases hj; exact (okOf_get hq).2
            · exact h j q' hj
          · have hv : AllOk (visit (fun k b e => obt rule d k (some b) e) (rule k) k e) := by
              unfold visit
              split
              · rename_i q _
                have h1 := hold_all ho (own := e.st.length) q.tr (push e k) h
                split
                · exact h1
                · exact comp_all ho _ k _ h1
              · exact comp_all ho _ k (push e k) h
            unfold leave
            split
            · exact hv
            · split
              · unfold bump
                split
                · exact hv
                · exact hv
              · exact okOf_put hv
end
end Go.GL

namespace Go.Proofs.Ythefimaaeilefaa
open Go.GL
set_option linter.unusedVariables false
theorem wu_tf65_3 : fieldOff Try.prog 65 3 3 = true := by kernel_rfl
theorem wu_ts61 : tyScalar Try.prog 61 = true := by kernel_rfl
theorem keys_spec {b : Nat} {bud : Int} {fv : Value} {X : EX} {M : List HP} {F : List Fact} (h12 : X.qs.length ≤ 12) : Ctr Try.prog 21 [PtV b] (EngI b bud fv X :: M) F {z : List Ky × Option Addr × Nat // z.1.Perm (X.qs.map Prod.fst)} (fun z => .slice z.1.2.1 z.1.1.length z.1.2.2) (fun z => OwnSl 9 1 z.1.2.1 z.1.1.length z.1.2.2 (coC z.1.1) :: EngI b bud fv X :: M) (fun _ => F) := by
  refine Ctr.body Try.func21 rfl rfl ?_
  refine TR.seq ?_
  refine TR.region ?_
  refine RL.assign rfl rfl rfl ?_
  refine RL.nil ?_
  refine NX.seq ?_
  refine TR.seq ?_
  refine TR.open (fun w hw => (St.exOpen (show St w (Ex _ :: _) _ from hw))) (fun ic => ?_)
  refine TR.open1 (fun w hw => ⟨mp_nodup (i := 2) hw rfl, hw⟩) (fun hnd => ?_)
  refine TR.region ?_
  refine RL.move rfl rfl rfl ?_
  refine RL.nilCheck rfl rfl rfl ?_
  refine RL.fieldAddr rfl wu_tf65_3 rfl rfl ?_
  refine RL.load1 0 rfl wu_ts61 rfl rfl rfl rfl ?_
  refine RL.call rfl rfl Try.call36 rfl (mkeysS_spec (m := ic.qb)) (fun bm => ?_)
  refine RL.call rfl rfl Try.call35 rfl (Ctr.pick 6 [0, 3, 1, 2, 4, 5] rfl (sortedS_spec (cap := [.pointer (some ⟨bm, 0, none⟩)]) Try.call55 (keysS_iter hnd) (fun pre x ⟨suf, h⟩ => by have := h.length_eq; rw [qsC_keys, List.length_map, List.length_append, List.length_cons] at this; omega) (fun ys h => by have := h.length_eq; rw [qsC_keys, List.length_map] at this; omega))) (fun z => ?_)
  refine RL.assign rfl rfl rfl ?_
  refine RL.nil ?_
  refine NX.seq ?_
  refine TR.ret ?_
  refine NX.ret1 (⟨z.1, by obtain ⟨l0, h1, h2⟩ := z.2; exact (h2.trans h1).trans (List.Perm.of_eq (qsC_keys X.qs))⟩ : {z : List Ky × Option Addr × Nat // z.1.Perm (X.qs.map Prod.fst)}) rfl rfl rfl (fun w hw => ?_)
  have h1 := (hw.to 7 [3, 4, 2, 5, 6, 0] 0 [] rfl)
  exact (St.engIClose X ic rfl rfl rfl rfl rfl rfl (show St w (_ :: _ :: _ :: _ :: _ :: (_ :: M)) F from h1)).swap
end Go.Proofs.Ythefimaaeilefaa

namespace Go.GL
open Go.ChangeMaps (setBlock)
set_option linter.unusedVariables false
theorem filter_eraseIdx {α : Type} {p : α → Bool} {e0 : α} (hp : p e0 = false) : ∀ {l : List α} {j : Nat}, l[j]? = some e0 → (l.eraseIdx j).filter p = l.filter p
  | [], j, h => by simp at h
  | x :: l, 0, h => by
    simp at h; subst h
    rw [List.eraseIdx_cons_zero, List.filter_cons, if_neg (by rw [hp]; decide)]
  | x :: l, j + 1, h => by
    rw [List.eraseIdx_cons_succ, List.filter_cons, List.filter_cons, filter_eraseIdx hp (by simpa using h)]
theorem rg_del {P : Program} {w : World} {M : List HP} {F : List Fact} {b r i : Nat} {t k e : TypeId} {kvs : KV} {left : List (List UInt8)} {cur : Option (List UInt8)} {n : List UInt8} (ht : tyMap P t k e = true) (hn : KO n) (hw : St w M F) (hi : M[i]? = some (RgB b r kvs left cur)) (hl : n ∉ left) (ts : Array TypeId) (hts : ts[0]? = some t) (ty : TypeId) :
    ∃ w', (Builtin.delete_ ts ty #[.map (some b), S n]).run P w = .ok (.tuple #[]) w' ∧ St w' (M.set i (RgB b r (kvDel kvs n) left none)) F := by
  obtain ⟨z, hz, hb, hr, hst⟩ := rg_at hw hi
  obtain ⟨hm, hk⟩ := tyMap_is ht
  have hx := key_mk hk hn
  have K := tyMap_keyed ht
  rcases hz.ok.find (w := w) ht hn with ⟨h1, h2⟩ | ⟨j, e0, h1, h2, h3, h4⟩
  · refine ⟨setBlock w b (.map z.es z.clock), ?_, ?_⟩
    · simp [Builtin.delete_, hts, run_underlying hm, MapKept.run_getObj_map hb, K.check w _ hx, h1, MapKept.run_setObj_map _ hb, Result.andThen, setBlock]
    · have hset := MapKept.heap_set (o' := .map z.es z.clock) hb
      have h5 : St (setBlock w b (.map z.es z.clock)) (Pts b (.map z.es z.clock) :: Pts r (.mapIter (some b) z.since z.seen z.c0) :: M.eraseIdx i) F :=
        St.putHeap (i := 0) (b := b) (o := .map z.es z.clock) hst rfl rfl rfl rfl (by simp [setBlock]) hset.1 hset.2
      rw [kvDel_none h2]
      exact rg_close (z := z) hi ⟨hz.ok, hz.old, hz.sc, hz.sk, hz.rest, fun k hk => by cases hk⟩ h5
  · have hok := hz.ok.erase h2 h4
    have hel : (z.es.eraseIdxIfInBounds j).toList = z.es.toList.eraseIdx j := by
      have hlt := (List.getElem?_eq_some_iff.1 h2).1
      simp at hlt
      simp [Array.eraseIdxIfInBounds, hlt]
    refine ⟨setBlock w b (.map (z.es.eraseIdxIfInBounds j) z.clock), ?_, ?_⟩
    · simp [Builtin.delete_, hts, run_underlying hm, MapKept.run_getObj_map hb, K.check w _ hx, h1, MapKept.run_setObj_map _ hb, Result.andThen, setBlock]
    · have hset := MapKept.heap_set (o' := .map (z.es.eraseIdxIfInBounds j) z.clock) hb
      have h5 : St (setBlock w b (.map (z.es.eraseIdxIfInBounds j) z.clock)) (Pts b (.map (z.es.eraseIdxIfInBounds j) z.clock) :: Pts r (.mapIter (some b) z.since z.seen z.c0) :: M.eraseIdx i) F :=
        St.putHeap (i := 0) (b := b) (o := .map z.es z.clock) hst rfl rfl rfl rfl (by simp [setBlock]) hset.1 hset.2
      have he0 : (!z.seen.contains e0.born) = false := by
        cases hs : z.seen.contains e0.born with
        | true => rfl
        | false =>
          exfalso
          have hm0 : e0 ∈ (leftOf z.es z.seen).toList := mem_leftOf.2 ⟨List.mem_of_getElem? h2, hs⟩
          have hm1 : e0.key ∈ left.map (S ·) := by rw [← hz.rest]; exact List.mem_map_of_mem hm0
          obtain ⟨x, hx1, hx2⟩ := List.mem_map.1 hm1
          rw [h3] at hx2
          exact hl (by rw [← S_eq.1 hx2]; exact hx1)
      have hrest : (leftOf (z.es.eraseIdxIfInBounds j) z.seen).toList = (leftOf z.es z.seen).toList := by
        unfold leftOf
        rw [Array.toList_filter, Array.toList_filter, hel]
        exact filter_eraseIdx (p := fun e => !z.seen.contains e.born) (e0 := e0) he0 h2
      exact rg_close (z := ⟨z.es.eraseIdxIfInBounds j, z.clock, z.since, z.seen, z.c0⟩) hi ⟨hok, (fun x hx => hz.old x (by rw [hel] at hx; exact List.mem_of_mem_eraseIdx hx)), hz.sc, hz.sk, by rw [hrest]; exact hz.rest, fun k hk => by cases hk⟩ h5
section
variable {P : Program} {r : Option Nat} {N : Nat} {ops : Array Oper} {rest : List Oper} {Q : Exit → Act → World → Prop} {E : Env} {ds : List Deferred} {M : List HP} {F : List Fact}
variable {d : Nat} {ty : TypeId} {pos : String} {aft : Array Edge} {gd : Option (Nat × Bool)}
theorem EV.rangeDelete {t k e : TypeId} {aty : Array TypeId} {x y : Operand} {b q : Nat} {n : List UInt8} {kvs : KV} {left : List (List UInt8)} {cur : Option (List UInt8)} (i : Nat) (ht : tyMap P t k e = true) (hx : evalO E x = some (.map (some b))) (hy : evalO E y = some (S n)) (hn : KO n) (hi : M[i]? = some (RgB b q kvs left cur)) (hl : n ∉ left) (hT : aty[0]? = some t := by rfl) :
    EV P r Q E M F ⟨none, .call ⟨.builtin .delete, #[x, y], aty⟩, ty, pos, aft, gd⟩ Unit (fun _ => .tuple #[]) (fun _ => M.set i (RgB b q (kvDel kvs n) left none)) (fun _ => F) :=
  EV.of_gen rfl fun ρ hρ w hw => by
    obtain ⟨w', hrun, hst⟩ := rg_del ht hn hw hi hl aty hT ty
    exact ⟨(), _, by simp [execOp, resolve, hρ _ _ hx, hρ _ _ hy, invoke, builtin, hrun], hst⟩
end
end Go.GL

namespace Go.Proofs.Ythefimaaeilefaa
open Go.GL
set_option linter.unusedVariables false
theorem wx_tf65_3 : fieldOff Try.prog 65 3 3 = true := by kernel_rfl
theorem wx_tf87_4 : fieldOff Try.prog 87 4 5 = true := by kernel_rfl
theorem wx_tl35 : tySlice Try.prog 35 9 = true := by kernel_rfl
theorem wx_tm61 : tyMap Try.prog 61 9 81 = true := by kernel_rfl
theorem wx_ts24 : tyScalar Try.prog 24 = true := by kernel_rfl
theorem wx_ts3 : tyScalar Try.prog 3 = true := by kernel_rfl
theorem wx_ts61 : tyScalar Try.prog 61 = true := by kernel_rfl
theorem wx_ts9 : tyScalar Try.prog 9 = true := by kernel_rfl
theorem wx_tz9 : tySize Try.prog 9 1 = true := by kernel_rfl
theorem isnanI_spec {a : Int} {M : List HP} {F : List Fact} : Ctr Try.prog 62 [I a] M F Unit (fun _ => .bool false) (fun _ => M) (fun _ => F) := by
  refine Ctr.body Try.func62 rfl rfl ?_
  refine TR.seq ?_
  refine TR.region ?_
  refine RL.assign rfl rfl rfl ?_
  refine RL.nil ?_
  refine NX.seq ?_
  refine TR.seq ?_
  refine TR.region ?_
  refine RL.move rfl rfl rfl ?_
  refine RL.move rfl rfl rfl ?_
  refine RL.bin rfl rfl rfl BinV.neq rfl ?_
  refine RL.assign rfl rfl rfl ?_
  refine RL.nil ?_
  refine NX.seq ?_
  refine TR.ret ?_
  exact NX.ret1 () rfl rfl (congrArg Value.bool (decide_eq_false (by simp))) (fun w hw => hw)
theorem compare_spec {a b : Int} {M : List HP} {F : List Fact} : Ctr Try.prog 47 [I a, I b] M F Int (fun z => I z) (fun _ => M) (fun _ => F) := by
  refine Ctr.body Try.func47 rfl rfl ?_
  refine TR.seq ?_
  refine TR.region ?_
  refine RL.assign rfl rfl rfl ?_
  refine RL.nil ?_
  refine NX.seq ?_
  refine TR.seq ?_
  refine TR.region ?_
  refine RL.move rfl rfl rfl ?_
  refine RL.call rfl rfl Try.call62 rfl (isnanI_spec) (fun _ => ?_)
  refine RL.assign rfl rfl rfl ?_
  refine RL.nil ?_
  refine NX.seq ?_
  refine TR.seq ?_
  refine TR.region ?_
  refine RL.move rfl rfl rfl ?_
  refine RL.call rfl rfl Try.call62 rfl (isnanI_spec) (fun _ => ?_)
  refine RL.assign rfl rfl rfl ?_
  refine RL.nil ?_
  refine NX.seq ?_
  refine TR.seq ?_
  refine TR.seq ?_
  refine TR.region ?_
  refine RL.move rfl rfl rfl ?_
  refine RL.nil ?_
  refine NX.seq ?_
  refine TR.condF rfl ?_
  refine TR.skip ?_
  refine NX.seq ?_
  refine TR.seq ?_
  refine TR.seq ?_
  refine TR.region ?_
  refine RL.move rfl rfl rfl ?_
  refine RL.nil ?_
  refine NX.seq ?_
  refine TR.condF rfl ?_
  refine TR.skip ?_
  refine NX.seq ?_
  refine TR.seq ?_
  refine TR.seq ?_
  refine TR.region ?_
  refine RL.move rfl rfl rfl ?_
  refine RL.move rfl rfl rfl ?_
  refine RL.bin rfl rfl rfl BinV.lss rfl ?_
  refine RL.nil ?_
  refine NX.seq ?_
  refine TR.cond rfl (fun h1 => ?_) (fun h1 => ?_)
  · skip
    refine TR.seq ?_
    refine TR.region ?_
    refine RL.assign rfl rfl rfl ?_
    refine RL.nil ?_
    refine NX.seq ?_
    refine TR.ret ?_
    refine NX.retThen ?_
    exact NX.ret1 (-1 : Int) rfl rfl rfl (fun w hw => hw)
  · skip
    refine TR.skip ?_
    refine NX.seq ?_
    refine TR.seq ?_
    refine TR.seq ?_
    refine TR.region ?_
    refine RL.move rfl rfl rfl ?_
    refine RL.move rfl rfl rfl ?_
    refine RL.bin rfl rfl rfl BinV.gtr rfl ?_
    refine RL.nil ?_
    refine NX.seq ?_
    refine TR.cond rfl (fun h2 => ?_) (fun h2 => ?_)
    · skip
      refine TR.seq ?_
      refine TR.region ?_
      refine RL.assign rfl rfl rfl ?_
      refine RL.nil ?_
      refine NX.seq ?_
      refine TR.ret ?_
      refine NX.retThen ?_
      exact NX.ret1 (1 : Int) rfl rfl rfl (fun w hw => hw)
    · skip
      refine TR.skip ?_
      refine NX.seq ?_
      refine TR.seq ?_
      refine TR.region ?_
      refine RL.assign rfl rfl rfl ?_
      refine RL.nil ?_
      refine NX.seq ?_
      refine TR.ret ?_
      exact NX.ret1 (0 : Int) rfl rfl rfl (fun w hw => hw)
def ShR (b1 b : Nat) (bud : Int) (fv : Value) (X : EX) : HP := Ex (ι := Unit) fun _ => [Box b1 24 [PtV b], EngI b bud fv X]
theorem shcmp_spec {b1 b : Nat} {bud : Int} {fv : Value} {X : EX} {M : List HP} {F : List Fact} {ka kb : Ky} (hoa : KO ka) (hob2 : KO kb) (hka : ∃ x, aGet X.qs ka = some x) (hkb : ∃ x, aGet X.qs kb = some x) : Ctr Try.prog 46 [S ka, S kb, PtV b1] (ShR b1 b bud fv X :: M) F Int (fun z => I z) (fun _ => ShR b1 b bud fv X :: M) (fun _ => F) := by
  refine Ctr.body Try.func46 rfl rfl ?_
  refine TR.seq ?_
  refine TR.region ?_
  refine RL.assign rfl rfl rfl ?_
  refine RL.nil ?_
  refine NX.seq ?_
  refine TR.seq ?_
  refine TR.open (fun w hw => (St.exOpen (show St w (Ex _ :: _) _ from hw))) (fun _ => ?_)
  refine TR.pick 2 [1, 0] rfl ?_
  refine TR.open (fun w hw => (St.exOpen (show St w (Ex _ :: _) _ from hw))) (fun ic => ?_)
  obtain ⟨xa, hxa⟩ := hka
  obtain ⟨xb, hxb⟩ := hkb
  obtain ⟨ja, hja, _⟩ := aGet_at hxa
  obtain ⟨jb, hjb, _⟩ := aGet_at hxb
  refine TR.sub (E' := [(0, _), (1, _), (2, _), (5, _)]) ⟨rfl, rfl, rfl, rfl, trivial⟩ ?_
  refine TR.draw mixed ?_
  apply AR.more [(0, _), (1, _), (2, _), (3, _), (4, _), (5, _), (6, _), (7, _), (8, _), (9, _), (10, _), (11, _), (12, _), (13, _), (14, _), (15, _), (16, _), (17, _)]
  refine AR.eff [0, 1, 2, 3, 4, 5, 6, 7, 8, 9, 10, 11, 12, 13, 14, 15, 16, 17] 18 [0, 1, 2, 3, 4, 5, 6, 7, 8, 9, 10, 11, 12, 13, 14, 15, 16, 17, 18, 19] ⟨QOne.yes rfl rfl rfl (PV.load1 5 wx_ts24 rfl rfl rfl), QOne.yes rfl rfl rfl (PV.nilCheck rfl), QOne.yes rfl rfl rfl (PV.fieldAddr wx_tf65_3 rfl), QOne.yes rfl rfl rfl (PV.load1 0 wx_ts61 rfl rfl rfl), QOne.yes rfl rfl rfl (PV.move rfl), QOne.yes rfl rfl rfl (PV.cast (by rw [qsC_get, hxa]; rfl) (PV.lookup 2 wx_tm61 rfl rfl hoa rfl Try.zeroValue81)), QOne.yes rfl rfl rfl (PV.nilCheck rfl), QOne.yes rfl rfl rfl (PV.fieldAddr wx_tf87_4 rfl), QOne.yes rfl rfl rfl (PV.loadS rfl (al_one (i := 4) (j := ja) rfl (qb_at hja) wx_ts3 rfl)), QOne.yes rfl rfl rfl (PV.load1 5 wx_ts24 rfl rfl rfl), QOne.yes rfl rfl rfl (PV.nilCheck rfl), QOne.yes rfl rfl rfl (PV.fieldAddr wx_tf65_3 rfl), QOne.yes rfl rfl rfl (PV.load1 0 wx_ts61 rfl rfl rfl), QOne.yes rfl rfl rfl (PV.move rfl), QOne.yes rfl rfl rfl (PV.cast (by rw [qsC_get, hxb]; rfl) (PV.lookup 2 wx_tm61 rfl rfl hob2 rfl Try.zeroValue81)), QOne.yes rfl rfl rfl (PV.nilCheck rfl), QOne.yes rfl rfl rfl (PV.fieldAddr wx_tf87_4 rfl), QOne.yes rfl rfl rfl (PV.loadS rfl (al_one (i := 4) (j := jb) rfl (qb_at hjb) wx_ts3 rfl)), trivial⟩ rfl rfl rfl rfl rfl rfl rfl (EV.call rfl Try.call47 (compare_spec)) (fun cz => ?_)
  refine AR.done [8, 17, 16, 7, 6, 15, 14, 5, 3, 4, 12, 13, 11, 2, 1, 10, 9, 0] rfl ?_
  apply AR.more [(19, _)]
  refine AR.last [19] [0, 1, 2, 3, 4, 5, 6, 7, 8, 9, 10, 11, 12, 13, 14, 15, 16, 17, 18, 19] ⟨QOne.yes rfl rfl rfl (PV.assign rfl), trivial⟩ rfl rfl rfl ?_
  refine NX.sub (E' := [(5, _)]) ⟨rfl, trivial⟩ ?_
  refine NX.seq ?_
  refine TR.ret ?_
  refine NX.ret1 cz rfl rfl rfl (fun w hw => ?_)
  have h1 := (hw.to 6 [0, 1, 2, 3, 4, 5] 0 [] rfl)
  exact St.exClose () (show St w (Box b1 24 [PtV b] :: EngI b bud fv X :: M) F from (St.engIClose X ic rfl rfl rfl rfl rfl rfl (show St w (_ :: _ :: _ :: _ :: _ :: (_ :: M)) F from h1)).swap)
theorem kmem {l l0 : List Ky} {n : Nat} (hn : l.length = n) (h : l.Perm l0) (p : Nat) (hp : p < n) : kAt l p ∈ l0 := by
  rw [kAt_get (by omega)]; exact h.mem_iff.1 (List.getElem_mem _)
theorem isortC_spec {l0 : List Ky} {oa : Option Addr} {c : Nat} {M : List HP} {F : List Fact} {cf : FuncId} {cap : List Value} {R : HP} (henter : ∀ args w, (callFunc cf args).run Try.prog w = .ok (.enter cf args) w) (hcmp : ∀ ka kb M F, ka ∈ l0 → kb ∈ l0 → Ctr Try.prog cf ([S ka, S kb] ++ cap) (R :: M) F Int (fun z => I z) (fun _ => R :: M) (fun _ => F)) (hl : l0.length ≤ 1000) : Ctr Try.prog 70 [.slice oa l0.length c, I 0, I (l0.length : Nat), .func (.func cf) [].toArray cap.toArray] (OwnSl 9 1 oa l0.length c (coC l0) :: R :: M) F {l : List Ky // l.Perm l0} (fun _ => .tuple #[]) (fun z => OwnSl 9 1 oa l0.length c (coC z.1) :: R :: M) (fun _ => F) := by
  refine Ctr.body Try.func70 rfl rfl ?_
  refine TR.seq ?_
  refine TR.region ?_
  refine RL.move rfl rfl rfl ?_
  refine RL.bin rfl rfl rfl (BinV.add _ rfl (by omega) (by omega)) rfl ?_
  refine RL.assign rfl rfl rfl ?_
  refine RL.nil ?_
  refine NX.seq ?_
  refine TR.block ?_
  refine TR.loopP (ι := (List Ky × Nat)) (fun x => x.1.length = l0.length ∧ x.1.Perm l0 ∧ 1 ≤ x.2) (fun x => [(0, .slice oa l0.length c), (1, I 0), (2, I (l0.length : Nat)), (3, .func (.func cf) [].toArray cap.toArray), (8, I (x.2 : Nat))]) (fun x => OwnSl 9 1 oa l0.length c (coC x.1) :: R :: M) (fun x => F) (fun x => (l0.length + 1 - x.2)) (l0, 1) ⟨rfl, List.Perm.refl _, Nat.le_refl _⟩ ⟨rfl, rfl, rfl, rfl, rfl, trivial⟩ (fun w hw => (hw.to 2 [0, 1] 0 [] rfl)) (fun x hx => ?_)
  refine TR.seq ?_
  refine TR.seq ?_
  refine TR.region ?_
  refine RL.move rfl rfl rfl ?_
  refine RL.move rfl rfl rfl ?_
  refine RL.bin rfl rfl rfl BinV.lss rfl ?_
  refine RL.nil ?_
  refine NX.seq ?_
  refine TR.cond rfl (fun h1 => ?_) (fun h1 => ?_)
  · skip
    have hi : x.2 < l0.length := by have := of_decide_eq_true h1; omega
    have hx1 := hx.1
    refine TR.openP (fun w hw => own_at (i := 0) rfl (coC_ne0 (by omega)) hw) (fun g hga => ?_)
    refine TR.skip ?_
    refine NX.seq ?_
    refine TR.seq ?_
    refine TR.block ?_
    refine TR.seq ?_
    refine TR.region ?_
    refine RL.move rfl rfl rfl ?_
    refine RL.assign rfl rfl rfl ?_
    refine RL.nil ?_
    refine NX.seq ?_
    refine TR.block ?_
    refine TR.loopP (ι := (List Ky × Nat)) (fun y => y.1.length = l0.length ∧ y.1.Perm l0 ∧ y.2 ≤ x.2) (fun y => [(0, .slice oa l0.length c), (1, I 0), (2, I (l0.length : Nat)), (3, .func (.func cf) [].toArray cap.toArray), (8, I (x.2 : Nat)), (9, I (y.2 : Nat))]) (fun y => OwnSl 9 1 oa l0.length c (coC y.1) :: R :: M) (fun y => F) (fun y => y.2) (x.1, x.2) ⟨hx.1, hx.2.1, Nat.le_refl _⟩ ⟨rfl, rfl, rfl, rfl, rfl, rfl, trivial⟩ (fun w hw => (hw.to 2 [0, 1] 0 [] rfl)) (fun y hy => ?_)
    refine TR.seq ?_
    refine TR.seq ?_
    refine TR.sub (E' := [(0, _), (1, _), (2, _), (3, _), (8, _), (9, _)]) ⟨rfl, rfl, rfl, rfl, rfl, rfl, trivial⟩ ?_
    refine TR.draw mixed ?_
    cases h2 : decide ((0 : Int) < (y.2 : Int))
    · skip
      apply AR.more [(0, _), (1, _), (2, _), (3, .bool false), (4, undef), (5, undef), (6, undef), (7, undef), (8, undef), (9, undef), (10, undef), (11, undef), (12, undef), (13, undef), (14, undef), (15, undef), (16, .bool false)]
      refine AR.last [0, 1, 2, 3, 4, 5, 6, 7, 8, 9, 10, 11, 12, 13, 14, 15, 16] [0, 1, 2, 3, 4, 5, 6, 7, 8, 9, 10, 11, 12, 13, 14, 15, 16] ⟨QOne.yes rfl rfl rfl (PV.move rfl), QOne.yes rfl rfl rfl (PV.move rfl), QOne.yes rfl rfl rfl (PV.bin rfl rfl BinV.gtr), QOne.yes rfl rfl rfl (PV.cast (congrArg Value.bool h2) (PV.move rfl)), QOne.no rfl rfl rfl, QOne.no rfl rfl rfl, QOne.no rfl rfl rfl, QOne.no rfl rfl rfl, QOne.no rfl rfl rfl, QOne.no rfl rfl rfl, QOne.no rfl rfl rfl, QOne.no rfl rfl rfl, QOne.no rfl rfl rfl, QOne.no rfl rfl rfl, QOne.no rfl rfl rfl, QOne.no rfl rfl rfl, QOne.yes rfl rfl rfl (PV.pickF rfl rfl), trivial⟩ rfl rfl rfl ?_
      refine NX.sub (E' := [(0, _), (1, _), (2, _), (3, _), (8, _), (9, _), (18, _), (19, _), (20, _), (21, _), (22, _), (23, _), (24, _), (25, _), (26, _), (27, _), (28, _), (29, _), (30, _), (31, _), (32, _), (33, _), (34, _)]) ⟨rfl, rfl, rfl, rfl, rfl, rfl, rfl, rfl, rfl, rfl, rfl, rfl, rfl, rfl, rfl, rfl, rfl, rfl, rfl, rfl, rfl, rfl, rfl, trivial⟩ ?_
      refine NX.seq ?_
      refine TR.condF rfl ?_
      refine TR.exit ?_
      refine NX.exitThen ?_
      refine NX.exitThen ?_
      refine NX.exitHere ?_
      refine NX.off ?_
      refine NX.seq ?_
      refine TR.region ?_
      refine RL.move rfl rfl rfl ?_
      refine RL.bin rfl rfl rfl (BinV.add ((x.2 + 1 : Nat) : Int) (by omega) (by omega) (by omega)) rfl ?_
      refine RL.assign rfl rfl rfl ?_
      refine RL.nil ?_
      refine NX.roundP (y.1, x.2 + 1) ⟨hy.1, hy.2.1, by show 1 ≤ x.2 + 1; omega⟩ (by show l0.length + 1 - (x.2 + 1) < l0.length + 1 - x.2; omega) ⟨rfl, rfl, rfl, rfl, rfl, trivial⟩ (fun w hw => (hw.to 2 [0, 1] 0 [] rfl))
    · skip
      have hj0 : 0 < y.2 := by have := of_decide_eq_true h2; omega
      have hy1 := hy.1
      have hy2 := hy.2.2
      apply AR.more [(0, _), (1, _), (2, _), (3, .bool true), (4, _), (5, _), (6, _), (7, _), (8, _), (9, _), (10, _), (11, _), (12, _), (13, _)]
      refine AR.eff [0, 1, 2, 3, 4, 5, 6, 7, 8, 9, 10, 11, 12, 13] 14 [0, 1, 2, 3, 4, 5, 6, 7, 8, 9, 10, 11, 12, 13, 14, 15, 16] ⟨QOne.yes rfl rfl rfl (PV.move rfl), QOne.yes rfl rfl rfl (PV.move rfl), QOne.yes rfl rfl rfl (PV.bin rfl rfl BinV.gtr), QOne.yes rfl rfl rfl (PV.cast (congrArg Value.bool h2) (PV.move rfl)), QOne.yes rfl rfl rfl (PV.move rfl), QOne.yes rfl rfl rfl (PV.move rfl), QOne.yes rfl rfl rfl (PV.move rfl), QOne.yes rfl rfl rfl (PV.indexAddr wx_tl35 wx_tz9 (congrArg (fun a => some (Value.slice a _ _)) hga) rfl (by omega) (by omega)), QOne.yes rfl rfl rfl (PV.loadS rfl (own_one (i := 0) rfl hga wx_ts9 (coC_kAt (y.2) (by omega) (by omega)))), QOne.yes rfl rfl rfl (PV.move rfl), QOne.yes rfl rfl rfl (PV.move rfl), QOne.yes rfl rfl rfl (PV.bin rfl rfl (BinV.sub _ rfl (by omega) (by omega))), QOne.yes rfl rfl rfl (PV.indexAddr wx_tl35 wx_tz9 (congrArg (fun a => some (Value.slice a _ _)) hga) rfl (by omega) (by omega)), QOne.yes rfl rfl rfl (PV.loadS rfl (own_one (i := 0) rfl hga wx_ts9 (coC_kAt (y.2 - 1) (by omega) (by omega)))), trivial⟩ rfl rfl rfl rfl rfl rfl rfl (EV.callV (fst := []) (cap := cap) rfl rfl henter (Ctr.pick 2 [1, 0] rfl (hcmp _ _ _ _ (kmem (by omega) hy.2.1 _ (by omega)) (kmem (by omega) hy.2.1 _ (by omega))))) (fun cz => ?_)
      refine AR.done [4, 8, 13, 3, 2, 12, 7, 5, 6, 9, 11, 0, 1, 10] rfl ?_
      apply AR.more [(15, _), (16, _)]
      refine AR.last [15, 16] [0, 1, 2, 3, 4, 5, 6, 7, 8, 9, 10, 11, 12, 13, 14, 15, 16] ⟨QOne.yes rfl rfl rfl (PV.bin rfl rfl BinV.lss), QOne.yes rfl rfl rfl (PV.pickT rfl rfl), trivial⟩ rfl rfl rfl ?_
      refine NX.sub (E' := [(0, _), (1, _), (2, _), (3, _), (8, _), (9, _), (18, _), (19, _), (20, _), (21, _), (22, _), (23, _), (24, _), (25, _), (26, _), (27, _), (28, _), (29, _), (30, _), (31, _), (32, _), (33, _), (34, _)]) ⟨rfl, rfl, rfl, rfl, rfl, rfl, rfl, rfl, rfl, rfl, rfl, rfl, rfl, rfl, rfl, rfl, rfl, rfl, rfl, rfl, rfl, rfl, rfl, trivial⟩ ?_
      refine NX.seq ?_
      refine TR.cond rfl (fun h3 => ?_) (fun h3 => ?_)
      · skip
        refine TR.skip ?_
        refine NX.seq ?_
        refine TR.seq ?_
        refine TR.block ?_
        refine TR.sub (E' := [(0, _), (1, _), (2, _), (3, _), (8, _), (9, _), (18, _), (19, _), (20, _), (21, _), (22, _), (23, _), (24, _), (25, _), (26, _), (27, _), (28, _), (29, _), (30, _), (31, _), (32, _), (33, _), (34, _)]) ⟨rfl, rfl, rfl, rfl, rfl, rfl, rfl, rfl, rfl, rfl, rfl, rfl, rfl, rfl, rfl, rfl, rfl, rfl, rfl, rfl, rfl, rfl, rfl, trivial⟩ ?_
        refine TR.draw mixed ?_
        apply AR.more [(0, _), (1, _), (2, _), (3, _), (4, _), (5, _), (6, _), (7, _), (8, _), (9, _), (10, _), (11, _), (12, _), (13, _), (14, _)]
        refine AR.eff [0, 1, 2, 3, 4, 5, 6, 7, 8, 9, 10, 11, 12, 13, 14] 15 [0, 1, 2, 3, 4, 5, 6, 7, 8, 9, 10, 11, 12, 13, 14, 15, 16, 17] ⟨QOne.yes rfl rfl rfl (PV.move rfl), QOne.yes rfl rfl rfl (PV.move rfl), QOne.yes rfl rfl rfl (PV.move rfl), QOne.yes rfl rfl rfl (PV.move rfl), QOne.yes rfl rfl rfl (PV.bin rfl rfl (BinV.sub _ rfl (by omega) (by omega))), QOne.yes rfl rfl rfl (PV.move rfl), QOne.yes rfl rfl rfl (PV.move rfl), QOne.yes rfl rfl rfl (PV.bin rfl rfl (BinV.sub _ rfl (by omega) (by omega))), QOne.yes rfl rfl rfl (PV.indexAddr wx_tl35 wx_tz9 (congrArg (fun a => some (Value.slice a _ _)) hga) rfl (by omega) (by omega)), QOne.yes rfl rfl rfl (PV.loadS rfl (own_one (i := 1) rfl hga wx_ts9 (coC_kAt (y.2 - 1) (by omega) (by omega)))), QOne.yes rfl rfl rfl (PV.move rfl), QOne.yes rfl rfl rfl (PV.move rfl), QOne.yes rfl rfl rfl (PV.indexAddr wx_tl35 wx_tz9 (congrArg (fun a => some (Value.slice a _ _)) hga) rfl (by omega) (by omega)), QOne.yes rfl rfl rfl (PV.loadS rfl (own_one (i := 1) rfl hga wx_ts9 (coC_kAt (y.2) (by omega) (by omega)))), QOne.yes rfl rfl rfl (PV.indexAddr wx_tl35 wx_tz9 (congrArg (fun a => some (Value.slice a _ _)) hga) rfl (by omega) (by omega)), trivial⟩ rfl rfl rfl rfl rfl rfl rfl (EV.storeO (vs := [S (kAt y.1 (y.2 - 1))]) 1 rfl rfl rfl hga wx_tz9 rfl (by simp [coC_len]; omega) rfl) (fun _ => ?_)
        refine AR.done [14, 9, 0, 1, 5, 6, 7, 8, 13, 12, 10, 11] rfl ?_
        apply AR.more [(16, _)]
        refine AR.eff [2, 3, 4, 16] 17 [0, 1, 2, 3, 4, 5, 6, 7, 8, 9, 10, 11, 12, 13, 14, 15, 16, 17] ⟨QOne.yes rfl rfl rfl (PV.move rfl), QOne.yes rfl rfl rfl (PV.move rfl), QOne.yes rfl rfl rfl (PV.bin rfl rfl (BinV.sub _ rfl (by omega) (by omega))), QOne.yes rfl rfl rfl (PV.indexAddr wx_tl35 wx_tz9 (congrArg (fun a => some (Value.slice a _ _)) hga) rfl (by omega) (by omega)), trivial⟩ rfl rfl rfl rfl rfl rfl rfl (EV.storeO (vs := [S (kAt y.1 y.2)]) 1 rfl rfl rfl hga wx_tz9 rfl (by simp [coC_len]; omega) rfl) (fun _ => ?_)
        refine AR.done [16, 2, 3, 4] rfl ?_
        refine AR.last [] [0, 1, 2, 3, 4, 5, 6, 7, 8, 9, 10, 11, 12, 13, 14, 15, 16, 17] trivial rfl rfl rfl ?_
        refine NX.sub (E' := [(0, _), (1, _), (2, _), (3, _), (8, _), (9, _), (18, _), (19, _), (20, _), (21, _), (22, _), (23, _), (24, _), (25, _), (26, _), (27, _), (28, _), (29, _), (30, _), (31, _), (32, _), (33, _), (34, _), (37, _), (38, _), (39, _), (40, _), (41, _), (42, _), (43, _), (44, _), (45, _), (46, _), (47, _), (48, _), (49, _), (50, _), (51, _), (52, _)]) ⟨rfl, rfl, rfl, rfl, rfl, rfl, rfl, rfl, rfl, rfl, rfl, rfl, rfl, rfl, rfl, rfl, rfl, rfl, rfl, rfl, rfl, rfl, rfl, rfl, rfl, rfl, rfl, rfl, rfl, rfl, rfl, rfl, rfl, rfl, rfl, rfl, rfl, rfl, rfl, trivial⟩ ?_
        refine NX.off ?_
        refine NX.seq ?_
        refine TR.region ?_
        refine RL.move rfl rfl rfl ?_
        refine RL.bin rfl rfl rfl (BinV.sub _ rfl (by omega) (by omega)) rfl ?_
        refine RL.assign rfl rfl rfl ?_
        refine RL.nil ?_
        refine NX.roundP (swpK y.1 y.2, y.2 - 1) ⟨(swpK_len _ _).trans hy.1, (swpK_perm (by omega) hj0).trans hy.2.1, by show y.2 - 1 ≤ _; omega⟩ (by show y.2 - 1 < y.2; omega) ⟨rfl, rfl, rfl, rfl, rfl, by show some (I ((y.2 : Int) - 1)) = some (I ((y.2 - 1 : Nat) : Int)); congr 2; omega, trivial⟩ (fun w hw => (by
          have h9 := (hw.to 2 [1, 0] 0 [] rfl)
          have e1 := coC_set (l := y.1) (v := (y.2 : Int)) (x := kAt y.1 (y.2 - 1)) y.2 (by omega) (by omega)
          have e2 := coC_set (l := y.1.set y.2 (kAt y.1 (y.2 - 1))) (v := (y.2 : Int) - 1) (x := kAt y.1 y.2) (y.2 - 1) (by omega) (by rw [List.length_set]; omega)
          show St w (OwnSl 9 1 oa l0.length c (coC (swpK y.1 y.2)) :: R :: M) F
          unfold swpK
          rw [← e2, ← e1]
          exact h9))
      · skip
        refine TR.exit ?_
        refine NX.exitThen ?_
        refine NX.exitThen ?_
        refine NX.exitHere ?_
        refine NX.off ?_
        refine NX.seq ?_
        refine TR.region ?_
        refine RL.move rfl rfl rfl ?_
        refine RL.bin rfl rfl rfl (BinV.add ((x.2 + 1 : Nat) : Int) (by omega) (by omega) (by omega)) rfl ?_
        refine RL.assign rfl rfl rfl ?_
        refine RL.nil ?_
        refine NX.roundP (y.1, x.2 + 1) ⟨hy.1, hy.2.1, by show 1 ≤ x.2 + 1; omega⟩ (by show l0.length + 1 - (x.2 + 1) < l0.length + 1 - x.2; omega) ⟨rfl, rfl, rfl, rfl, rfl, trivial⟩ (fun w hw => (hw.to 2 [1, 0] 0 [] rfl))
  · skip
    have hi : ¬ x.2 < l0.length := by have := of_decide_eq_false h1; omega
    refine TR.exit ?_
    refine NX.exitThen ?_
    refine NX.exitThen ?_
    refine NX.exitHere ?_
    exact NX.end0 (⟨x.1, hx.2.1⟩ : {l : List Ky // l.Perm l0}) rfl rfl (fun w hw => (hw.to 2 [0, 1] 0 [] rfl))
theorem stable_spec {l0 : List Ky} {oa : Option Addr} {c : Nat} {M : List HP} {F : List Fact} {cf : FuncId} {cap : List Value} {R : HP} (henter : ∀ args w, (callFunc cf args).run Try.prog w = .ok (.enter cf args) w) (hcmp : ∀ ka kb M F, ka ∈ l0 → kb ∈ l0 → Ctr Try.prog cf ([S ka, S kb] ++ cap) (R :: M) F Int (fun z => I z) (fun _ => R :: M) (fun _ => F)) (h12 : l0.length ≤ 12) : Ctr Try.prog 61 [.slice oa l0.length c, I (l0.length : Nat), .func (.func cf) [].toArray cap.toArray] (OwnSl 9 1 oa l0.length c (coC l0) :: R :: M) F {l : List Ky // l.Perm l0} (fun _ => .tuple #[]) (fun z => OwnSl 9 1 oa l0.length c (coC z.1) :: R :: M) (fun _ => F) := by
  refine Ctr.body Try.func61 rfl rfl ?_
  refine TR.seq ?_
  refine TR.region ?_
  refine RL.assign rfl rfl rfl ?_
  refine RL.nil ?_
  refine NX.seq ?_
  refine TR.seq ?_
  refine TR.region ?_
  refine RL.move rfl rfl rfl ?_
  refine RL.assign rfl rfl rfl ?_
  refine RL.assign rfl rfl rfl ?_
  refine RL.nil ?_
  refine NX.seq ?_
  refine TR.seq ?_
  refine TR.block ?_
  refine TR.loopP (ι := Unit) (fun u => True) (fun u => [(0, .slice oa l0.length c), (1, I (l0.length : Nat)), (2, .func (.func cf) [].toArray cap.toArray), (6, I 20), (7, I 0), (8, I 20)]) (fun u => OwnSl 9 1 oa l0.length c (coC l0) :: R :: M) (fun u => F) (fun u => 0) () trivial ⟨rfl, rfl, rfl, rfl, rfl, rfl, trivial⟩ (fun w hw => (hw.to 2 [0, 1] 0 [] rfl)) (fun u hu => ?_)
  refine TR.seq ?_
  refine TR.seq ?_
  refine TR.region ?_
  refine RL.move rfl rfl rfl ?_
  refine RL.move rfl rfl rfl ?_
  refine RL.bin rfl rfl rfl (BinV.to (d := false) BinV.leq (decide_eq_false (by omega))) rfl ?_
  refine RL.nil ?_
  refine NX.seq ?_
  refine TR.condF rfl ?_
  refine TR.exit ?_
  refine NX.exitThen ?_
  refine NX.exitThen ?_
  refine NX.exitHere ?_
  refine NX.seq ?_
  refine TR.seq ?_
  refine TR.region ?_
  refine RL.move rfl rfl rfl ?_
  refine RL.move rfl rfl rfl ?_
  refine RL.move rfl rfl rfl ?_
  refine RL.move rfl rfl rfl ?_
  refine RL.call rfl rfl Try.call70 rfl (isortC_spec henter hcmp (by omega)) (fun z => ?_)
  refine RL.nil ?_
  refine NX.seq ?_
  refine TR.block ?_
  refine TR.loopP (ι := Unit) (fun u2 => True) (fun u2 => [(0, .slice oa l0.length c), (1, I (l0.length : Nat)), (2, .func (.func cf) [].toArray cap.toArray), (6, I 20), (7, I 0), (8, I 20)]) (fun u2 => OwnSl 9 1 oa l0.length c (coC z.1) :: R :: M) (fun u2 => F) (fun u2 => 0) () trivial ⟨rfl, rfl, rfl, rfl, rfl, rfl, trivial⟩ (fun w hw => (hw.to 2 [0, 1] 0 [] rfl)) (fun u2 hu2 => ?_)
  refine TR.seq ?_
  refine TR.seq ?_
  refine TR.region ?_
  refine RL.move rfl rfl rfl ?_
  refine RL.move rfl rfl rfl ?_
  refine RL.bin rfl rfl rfl (BinV.to (d := false) BinV.lss (decide_eq_false (by omega))) rfl ?_
  refine RL.nil ?_
  refine NX.seq ?_
  refine TR.condF rfl ?_
  refine TR.exit ?_
  refine NX.exitThen ?_
  refine NX.exitThen ?_
  refine NX.exitHere ?_
  exact NX.end0 z rfl rfl (fun w hw => (hw.to 2 [0, 1] 0 [] rfl))
theorem sortC_spec {l0 : List Ky} {oa : Option Addr} {c : Nat} {M : List HP} {F : List Fact} {cf : FuncId} {cap : List Value} {R : HP} (henter : ∀ args w, (callFunc cf args).run Try.prog w = .ok (.enter cf args) w) (hcmp : ∀ ka kb M F, ka ∈ l0 → kb ∈ l0 → Ctr Try.prog cf ([S ka, S kb] ++ cap) (R :: M) F Int (fun z => I z) (fun _ => R :: M) (fun _ => F)) (h12 : l0.length ≤ 12) : Ctr Try.prog 45 [.slice oa l0.length c, .func (.func cf) [].toArray cap.toArray] (OwnSl 9 1 oa l0.length c (coC l0) :: R :: M) F {l : List Ky // l.Perm l0} (fun _ => .tuple #[]) (fun z => OwnSl 9 1 oa l0.length c (coC z.1) :: R :: M) (fun _ => F) := by
  refine Ctr.body Try.func45 rfl rfl ?_
  refine TR.region ?_
  refine RL.move rfl rfl rfl ?_
  refine RL.move rfl rfl rfl ?_
  refine RL.lenSlice rfl wx_tl35 rfl rfl ?_
  refine RL.move rfl rfl rfl ?_
  refine RL.call rfl rfl Try.call61 rfl (stable_spec henter hcmp h12) (fun z => ?_)
  refine RL.nil ?_
  exact NX.end0 z rfl rfl (fun w hw => (hw.to 2 [0, 1] 0 [] rfl))
end Go.Proofs.Ythefimaaeilefaa

namespace Go.Proofs.Ythefimaaeilefaa
open Go.GL
set_option linter.unusedVariables false
theorem wy_tf65_0 : fieldOff Try.prog 65 0 0 = true := by kernel_rfl
theorem wy_tf65_3 : fieldOff Try.prog 65 3 3 = true := by kernel_rfl
theorem wy_tf87_2 : fieldOff Try.prog 87 2 3 = true := by kernel_rfl
theorem wy_tl35 : tySlice Try.prog 35 9 = true := by kernel_rfl
theorem wy_tm61 : tyMap Try.prog 61 9 81 = true := by kernel_rfl
theorem wy_tp81 : tyPtr Try.prog 81 87 = true := by kernel_rfl
theorem wy_ts24 : tyScalar Try.prog 24 = true := by kernel_rfl
theorem wy_ts3 : tyScalar Try.prog 3 = true := by kernel_rfl
theorem wy_ts4 : tyScalar Try.prog 4 = true := by kernel_rfl
theorem wy_ts61 : tyScalar Try.prog 61 = true := by kernel_rfl
theorem wy_ts9 : tyScalar Try.prog 9 = true := by kernel_rfl
theorem wy_tz9 : tySize Try.prog 9 1 = true := by kernel_rfl
structure SzQ (qs : List (Ky × QM)) : Prop where
  len : qs.length ≤ 12
  sz : ∀ p, p ∈ qs → KO p.1 ∧ p.1.length + p.2.q.own.s.length ≤ 1000
theorem SzQ.sub {qs qs' : List (Ky × QM)} (h : SzQ qs) (hs : qs'.Sublist qs) : SzQ qs' := ⟨Nat.le_trans hs.length_le h.len, fun p hp => h.sz p (hs.subset hp)⟩
theorem SzQ.bytes {qs : List (Ky × QM)} (h : SzQ qs) : bytesQ qs ≤ 12000 := by
  refine Nat.le_trans (sumS_le (c := 1000) _ fun k _ => ?_) ?_
  · unfold qSize
    split
    · rename_i x hx; exact (h.sz (k, x) (aGet_mem hx)).2
    · exact Nat.zero_le _
  · rw [List.length_map]; have := h.len; omega
theorem al_fewer {w : World} {M : List HP} {F : List Fact} {qs qs' : List (Ky × QM)} (hs : qs'.Sublist qs) (h : St w (Al (qs.map qB) :: M) F) : St w (Al (qs'.map qB) :: M) F :=
  St.alClose (al_sub (M := M) (hs.map qB) (St.alOpen h))
theorem forget_spec {b : Nat} {bud : Int} {fv : Value} {X : EX} {M : List HP} {F : List Fact} {k : Ky} (hk : KO k) (hS : SzQ X.qs) : Ctr Try.prog 48 [PtV b, S k] (EngI b bud fv X :: M) F {z : List (Ky × QM) × Nat // z.1.Sublist X.qs ∧ z.2 ≤ 12000} (fun z => I (z.1.2 : Nat)) (fun z => EngI b bud fv { X with qs := z.1.1 } :: M) (fun _ => F) := by
  refine Ctr.body Try.func48 rfl rfl ?_
  refine TR.seq ?_
  refine TR.region ?_
  refine RL.assign rfl rfl rfl ?_
  refine RL.nil ?_
  refine NX.seq ?_
  refine TR.seq ?_
  refine TR.open (fun w hw => (St.exOpen (show St w (Ex _ :: _) _ from hw))) (fun ic => ?_)
  refine TR.region ?_
  refine RL.move rfl rfl rfl ?_
  refine RL.nilCheck rfl rfl rfl ?_
  refine RL.fieldAddr rfl wy_tf65_3 rfl rfl ?_
  refine RL.load1 0 rfl wy_ts61 rfl rfl rfl rfl ?_
  refine RL.move rfl rfl rfl ?_
  rcases hks : aGet X.qs k with _ | x0
  · skip
    refine RL.val rfl rfl rfl (PV.cast (by rw [qsC_get, hks] <;> rfl) (PV.lookup 2 wy_tm61 rfl rfl hk rfl Try.zeroValue81)).2 ?_
    refine RL.assign rfl rfl rfl ?_
    refine RL.nil ?_
    refine NX.seq ?_
    refine TR.seq ?_
    refine TR.seq ?_
    refine TR.region ?_
    refine RL.move rfl rfl rfl ?_
    refine RL.bin rfl rfl rfl (BinV.eqlPtrNil wy_tp81) rfl ?_
    refine RL.nil ?_
    refine NX.seq ?_
    refine TR.condT rfl ?_
    refine TR.seq ?_
    refine TR.region ?_
    refine RL.assign rfl rfl rfl ?_
    refine RL.nil ?_
    refine NX.seq ?_
    refine TR.ret ?_
    refine NX.retThen ?_
    exact NX.ret1 (⟨(X.qs, 0), List.Sublist.refl _, Nat.zero_le _⟩ : {z : List (Ky × QM) × Nat // z.1.Sublist X.qs ∧ z.2 ≤ 12000}) rfl rfl rfl (fun w hw => St.engIClose (X) ic rfl rfl rfl rfl rfl rfl (hw.to 5 [0, 1, 2, 3, 4] 0 [] rfl))
  · skip
    refine RL.val rfl rfl rfl (PV.cast (by rw [qsC_get, hks] <;> rfl) (PV.lookup 2 wy_tm61 rfl rfl hk rfl Try.zeroValue81)).2 ?_
    obtain ⟨j0, hj0, _⟩ := aGet_at hks
    refine RL.assign rfl rfl rfl ?_
    refine RL.nil ?_
    refine NX.seq ?_
    refine TR.seq ?_
    refine TR.seq ?_
    refine TR.region ?_
    refine RL.move rfl rfl rfl ?_
    refine RL.bin rfl rfl rfl (BinV.eqlPtrNil wy_tp81) rfl ?_
    refine RL.nil ?_
    refine NX.seq ?_
    refine TR.condF rfl ?_
    refine TR.skip ?_
    refine NX.seq ?_
    refine TR.seq ?_
    have hlk : (qsC X.qs).map Prod.fst = X.qs.map Prod.fst := qsC_keys X.qs
    refine TR.region ?_
    refine RL.assign rfl rfl rfl ?_
    refine RL.nil ?_
    refine NX.seq ?_
    refine TR.seq ?_
    refine TR.seq ?_
    refine TR.region ?_
    refine RL.move rfl rfl rfl ?_
    refine RL.nilCheck rfl rfl rfl ?_
    refine RL.fieldAddr rfl wy_tf65_3 rfl rfl ?_
    refine RL.load1 0 rfl wy_ts61 rfl rfl rfl rfl ?_
    refine RL.ofGV rfl rfl (GV.range 2 wy_tm61 rfl rfl) (fun q => ?_)
    refine RL.nil ?_
    refine NX.seq ?_
    refine TR.block ?_
    refine TR.loopP (ι := (List Ky × Option Ky × List (Ky × QM) × Nat)) (fun x => x.2.2.1.Sublist X.qs ∧ x.2.2.2 + 1000 * x.1.length ≤ 12000) (fun x => [(0, PtV b), (1, S k), (5, PtV x0.ptr), (6, I (x.2.2.2 : Nat)), (21, .pointer (some ⟨q, 0, none⟩))]) (fun x => Box b 65 [I bud, fv, .map (some ic.ib), .map (some ic.qb), .slice ic.co X.comp.length ic.cc, I X.gets, I (X.fuel : Nat), .bool X.out, .slice ic.so ic.sn ic.sc, .map ic.ab] :: MpB ic.ib (inC X.inp) :: RgB ic.qb q (qsC x.2.2.1) x.1 x.2.1 :: OwnSl 9 1 ic.co X.comp.length ic.cc (coC X.comp) :: Al (X.qs.map qB) :: M) (fun x => F) (fun x => x.1.length) ((qsC X.qs).map Prod.fst, none, X.qs, 0) ⟨List.Sublist.refl _, by show 0 + 1000 * ((qsC X.qs).map Prod.fst).length ≤ 12000; rw [hlk, List.length_map]; have := hS.len; omega⟩ ⟨rfl, rfl, rfl, rfl, rfl, trivial⟩ (fun w hw => (hw.to 5 [0, 1, 2, 3, 4] 0 [] rfl)) (fun x hx => ?_)
    refine TR.seq ?_
    refine TR.region ?_
    refine RL.ofGV rfl rfl (GV.next 2 rfl rfl) (fun nx => ?_)
    obtain ⟨_ | nx, hnx⟩ := nx
    · skip
      refine RL.extract rfl rfl rfl rfl ?_
      refine RL.nil ?_
      refine NX.seq ?_
      refine TR.seq ?_
      refine TR.condF rfl ?_
      refine TR.exit ?_
      refine NX.exitThen ?_
      refine NX.exitThen ?_
      refine NX.exitHere ?_
      refine NX.seq ?_
      refine TR.seq ?_
      refine TR.region ?_
      refine RL.move rfl rfl rfl ?_
      refine RL.assign rfl rfl rfl ?_
      refine RL.nil ?_
      refine NX.seq ?_
      refine TR.ret ?_
      have hl : x.1 = [] := hnx
      refine NX.ret1 (⟨(x.2.2.1, x.2.2.2), hx.1, by have := hx.2; omega⟩ : {z : List (Ky × QM) × Nat // z.1.Sublist X.qs ∧ z.2 ≤ 12000}) rfl rfl rfl (fun w hw => ?_)
      have h1 := al_fewer hx.1 ((hw.to 5 [4, 0, 1, 2, 3] 0 [] rfl))
      exact St.engIClose { X with qs := x.2.2.1 } ic rfl rfl rfl rfl rfl rfl (show St w (_ :: _ :: _ :: _ :: _ :: M) F from h1.toM 5 [1, 2, 3, 4, 0] rfl)
    · skip
      refine RL.extract rfl rfl rfl rfl ?_
      refine RL.nil ?_
      refine NX.seq ?_
      refine TR.seq ?_
      refine TR.condT rfl ?_
      refine TR.skip ?_
      refine NX.seq ?_
      refine TR.block ?_
      refine TR.seq ?_
      refine TR.region ?_
      obtain ⟨nk, nv⟩ := nx
      obtain ⟨y, hy, hyv⟩ := qsC_mem hnx.2
      have hyv2 : nv = PtV y.ptr := hyv
      subst hyv2
      have hyX : (nk, y) ∈ X.qs := hx.1.subset hy
      have hsz : nk.length + y.q.own.s.length ≤ 1000 := (hS.sz _ hyX).2
      obtain ⟨j, hj⟩ := List.mem_iff_getElem?.1 hyX
      have hnl : nk ∉ x.1.filter fun y => !decide (y = nk) := by simp
      have hlt : (x.1.filter fun y => !decide (y = nk)).length < x.1.length := leftS_lt hnx.1
      have hxb := hx.2
      dsimp only
      refine RL.entry 2 rfl rfl rfl hnx.2 rfl ?_
      refine RL.extract rfl rfl rfl rfl ?_
      refine RL.extract rfl rfl rfl rfl ?_
      refine RL.assign rfl rfl rfl ?_
      refine RL.assign rfl rfl rfl ?_
      refine RL.nil ?_
      refine NX.seq ?_
      refine TR.seq ?_
      refine TR.region ?_
      refine RL.move rfl rfl rfl ?_
      refine RL.move rfl rfl rfl ?_
      refine RL.bin rfl rfl rfl BinV.eqlS rfl ?_
      refine RL.move rfl rfl rfl ?_
      refine RL.part (fun h1 => ?_) (fun h1 => ?_)
      · skip
        refine RL.skip rfl rfl rfl ?_
        refine RL.skip rfl rfl rfl ?_
        refine RL.skip rfl rfl rfl ?_
        refine RL.skip rfl rfl rfl ?_
        refine RL.skip rfl rfl rfl ?_
        refine RL.skip rfl rfl rfl ?_
        refine RL.skip rfl rfl rfl ?_
        refine RL.skip rfl rfl rfl ?_
        refine RL.skip rfl rfl rfl ?_
        refine RL.skip rfl rfl rfl ?_
        refine RL.pickT rfl rfl rfl rfl ?_
        refine RL.nil ?_
        refine NX.seq ?_
        refine TR.condT rfl ?_
        refine TR.seq ?_
        refine TR.region ?_
        refine RL.move rfl rfl rfl ?_
        refine RL.move rfl rfl rfl ?_
        refine RL.move rfl rfl rfl ?_
        refine RL.call rfl rfl Try.call60 rfl (Ctr.pick 5 [4, 0, 1, 2, 3] rfl (size_spec (x := y) (qb_at hj) (by omega) (by omega))) (fun _ => ?_)
        refine RL.bin rfl rfl rfl (BinV.add ((x.2.2.2 + (nk.length + y.q.own.s.length) : Nat) : Int) (by omega) (by omega) (by omega)) rfl ?_
        refine RL.assign rfl rfl rfl ?_
        refine RL.nil ?_
        refine NX.seq ?_
        refine TR.region ?_
        refine RL.move rfl rfl rfl ?_
        refine RL.nilCheck rfl rfl rfl ?_
        refine RL.fieldAddr rfl wy_tf65_3 rfl rfl ?_
        refine RL.load1 1 rfl wy_ts61 rfl rfl rfl rfl ?_
        refine RL.move rfl rfl rfl ?_
        refine RL.ofEV rfl rfl (EV.rangeDelete 3 wy_tm61 rfl rfl (hS.sz _ hyX).1 rfl hnl rfl) ?_
        rw [qsC_del]
        refine RL.nil ?_
        refine NX.off ?_
        refine NX.roundP (x.1.filter fun y => !decide (y = nk), none, aDel x.2.2.1 nk, x.2.2.2 + (nk.length + y.q.own.s.length)) ⟨(aDel_sub _ _).trans hx.1, by show x.2.2.2 + (nk.length + y.q.own.s.length) + 1000 * (x.1.filter fun y => !decide (y = nk)).length ≤ _; omega⟩ (leftS_lt hnx.1) ⟨rfl, rfl, rfl, rfl, rfl, trivial⟩ (fun w hw => (hw.to 5 [1, 2, 3, 4, 0] 0 [] rfl))
      · skip
        refine RL.move rfl rfl rfl ?_
        refine RL.nilCheck rfl rfl rfl ?_
        refine RL.fieldAddr rfl wy_tf87_2 rfl rfl ?_
        refine RL.loadS rfl rfl (al_one (i := 4) (j := j0) rfl (qb_at hj0) wy_ts4 rfl) rfl ?_
        refine RL.move rfl rfl rfl ?_
        refine RL.part (fun h2 => ?_) (fun h2 => ?_)
        · skip
          refine RL.move rfl rfl rfl ?_
          refine RL.nilCheck rfl rfl rfl ?_
          refine RL.fieldAddr rfl wy_tf87_2 rfl rfl ?_
          refine RL.loadS rfl rfl (al_one (i := 4) (j := j) rfl (qb_at hj) wy_ts4 rfl) rfl ?_
          refine RL.pickT rfl rfl rfl rfl ?_
          refine RL.pickF rfl rfl rfl rfl ?_
          refine RL.nil ?_
          refine NX.seq ?_
          refine TR.cond rfl (fun h3 => ?_) (fun h3 => ?_)
          · skip
            refine TR.seq ?_
            refine TR.region ?_
            refine RL.move rfl rfl rfl ?_
            refine RL.move rfl rfl rfl ?_
            refine RL.move rfl rfl rfl ?_
            refine RL.call rfl rfl Try.call60 rfl (Ctr.pick 5 [4, 0, 1, 2, 3] rfl (size_spec (x := y) (qb_at hj) (by omega) (by omega))) (fun _ => ?_)
            refine RL.bin rfl rfl rfl (BinV.add ((x.2.2.2 + (nk.length + y.q.own.s.length) : Nat) : Int) (by omega) (by omega) (by omega)) rfl ?_
            refine RL.assign rfl rfl rfl ?_
            refine RL.nil ?_
            refine NX.seq ?_
            refine TR.region ?_
            refine RL.move rfl rfl rfl ?_
            refine RL.nilCheck rfl rfl rfl ?_
            refine RL.fieldAddr rfl wy_tf65_3 rfl rfl ?_
            refine RL.load1 1 rfl wy_ts61 rfl rfl rfl rfl ?_
            refine RL.move rfl rfl rfl ?_
            refine RL.ofEV rfl rfl (EV.rangeDelete 3 wy_tm61 rfl rfl (hS.sz _ hyX).1 rfl hnl rfl) ?_
            rw [qsC_del]
            refine RL.nil ?_
            refine NX.off ?_
            refine NX.roundP (x.1.filter fun y => !decide (y = nk), none, aDel x.2.2.1 nk, x.2.2.2 + (nk.length + y.q.own.s.length)) ⟨(aDel_sub _ _).trans hx.1, by show x.2.2.2 + (nk.length + y.q.own.s.length) + 1000 * (x.1.filter fun y => !decide (y = nk)).length ≤ _; omega⟩ (leftS_lt hnx.1) ⟨rfl, rfl, rfl, rfl, rfl, trivial⟩ (fun w hw => (hw.to 5 [1, 2, 3, 4, 0] 0 [] rfl))
          · skip
            refine TR.skip ?_
            refine NX.off ?_
            refine NX.roundP (x.1.filter fun y => !decide (y = nk), some nk, x.2.2.1, x.2.2.2) ⟨hx.1, by show x.2.2.2 + 1000 * (x.1.filter fun y => !decide (y = nk)).length ≤ _; omega⟩ (leftS_lt hnx.1) ⟨rfl, rfl, rfl, rfl, rfl, trivial⟩ (fun w hw => (hw.to 5 [0, 1, 2, 3, 4] 0 [] rfl))
        · skip
          refine RL.skip rfl rfl rfl ?_
          refine RL.skip rfl rfl rfl ?_
          refine RL.skip rfl rfl rfl ?_
          refine RL.skip rfl rfl rfl ?_
          refine RL.pickF rfl rfl rfl rfl ?_
          refine RL.pickF rfl rfl rfl rfl ?_
          refine RL.nil ?_
          refine NX.seq ?_
          refine TR.condF rfl ?_
          refine TR.skip ?_
          refine NX.off ?_
          refine NX.roundP (x.1.filter fun y => !decide (y = nk), some nk, x.2.2.1, x.2.2.2) ⟨hx.1, by show x.2.2.2 + 1000 * (x.1.filter fun y => !decide (y = nk)).length ≤ _; omega⟩ (leftS_lt hnx.1) ⟨rfl, rfl, rfl, rfl, rfl, trivial⟩ (fun w hw => (hw.to 5 [0, 1, 2, 3, 4] 0 [] rfl))
theorem engI_bud {P : Program} {M : List HP} {F : List Fact} {i b t : Nat} {bud : Int} {fv : Value} {X : EX} (hi : M[i]? = some (EngI b bud fv X)) (hT : tyScalar P t = true) : ∀ w, St w M F → Reads P w t ⟨b, 0, none⟩ (I bud) := fun w hw => by
  obtain ⟨h, h1⟩ := (hw.front hi).exOpen
  exact run_loadVar_scalar hT (by rw [cell_of_box (h1.heap (i := 0) rfl)]; rfl)
theorem sz_key {qs : List (Ky × QM)} (h : SzQ qs) {k : Ky} (hk : k ∈ qs.map Prod.fst) : KO k ∧ ∃ x, aGet qs k = some x := by
  obtain ⟨p, hp, rfl⟩ := List.mem_map.1 hk
  refine ⟨(h.sz p hp).1, ?_⟩
  cases hq : aGet qs p.1 with
  | none => exact absurd hk (aGet_none.1 hq)
  | some x => exact ⟨x, rfl⟩
set_option maxHeartbeats 1000000 in
theorem shrink_drop {b : Nat} {bud : Int} {fv : Value} {X : EX} {M : List HP} {F : List Fact} (hS : SzQ X.qs) : Ctr Try.prog 32 [PtV b] (EngI b bud fv X :: M) F Unit (fun _ => .tuple #[]) (fun _ => M) (fun _ => F) := by
  refine Ctr.body Try.func32 rfl rfl ?_
  refine TR.seq ?_
  refine TR.region ?_
  refine RL.box1 rfl rfl rfl rfl (fun b1 => ?_)
  refine RL.nil ?_
  refine NX.seq ?_
  refine TR.seq ?_
  refine TR.region ?_
  refine RL.load1 0 rfl wy_ts24 rfl rfl rfl rfl ?_
  refine RL.call rfl rfl Try.call44 rfl (Ctr.pick 2 [1, 0] rfl (bytes_spec (by have := hS.bytes; omega))) (fun _ => ?_)
  have hby := hS.bytes
  refine RL.assign rfl rfl rfl ?_
  refine RL.nil ?_
  refine NX.seq ?_
  refine TR.seq ?_
  refine TR.seq ?_
  refine TR.region ?_
  refine RL.move rfl rfl rfl ?_
  refine RL.load1 1 rfl wy_ts24 rfl rfl rfl rfl ?_
  refine RL.nilCheck rfl rfl rfl ?_
  refine RL.fieldAddr rfl wy_tf65_0 rfl rfl ?_
  refine RL.loadS rfl rfl (engI_bud (i := 0) rfl wy_ts3) rfl ?_
  refine RL.bin rfl rfl rfl BinV.leq rfl ?_
  refine RL.nil ?_
  refine NX.seq ?_
  refine TR.cond rfl (fun h2 => ?_) (fun h2 => ?_)
  · skip
    refine TR.ret ?_
    refine NX.retThen ?_
    exact NX.ret0 () rfl rfl (fun w hw => ((hw.to 2 [0] 0 [] rfl)).tail)
  · skip
    refine TR.skip ?_
    refine NX.seq ?_
    refine TR.seq ?_
    refine TR.region ?_
    refine RL.load1 1 rfl wy_ts24 rfl rfl rfl rfl ?_
    refine RL.call rfl rfl Try.call21 rfl (keys_spec hS.len) (fun kz => ?_)
    have hkl := kz.2.length_eq
    rw [List.length_map] at hkl
    have hk12 := hS.len
    have hkk : ∀ k, k ∈ kz.1.1 → KO k ∧ ∃ x, aGet X.qs k = some x := fun k hk => sz_key hS (kz.2.mem_iff.1 hk)
    refine RL.assign rfl rfl rfl ?_
    refine RL.nil ?_
    refine NX.seq ?_
    refine TR.seq ?_
    refine TR.weak (fun w hw => (show St w (ShR b1 b bud fv X :: _) _ from St.exClose () (show St w (Box b1 24 [PtV b] :: EngI b bud fv X :: _) F from hw.toM 3 [2, 1, 0] rfl))) ?_
    refine TR.region ?_
    refine RL.move rfl rfl rfl ?_
    refine RL.makeFunc rfl rfl rfl rfl ?_
    refine RL.call rfl rfl Try.call45 rfl (Ctr.pick 2 [1, 0] rfl (sortC_spec (l0 := kz.1.1) (cap := [PtV b1]) (R := ShR b1 b bud fv X) Try.call46 (fun ka kb M F h1 h2 => shcmp_spec (hkk ka h1).1 (hkk kb h2).1 (hkk ka h1).2 (hkk kb h2).2) (by omega))) (fun lz => ?_)
    have hll := lz.2.length_eq
    refine RL.nil ?_
    refine NX.seq ?_
    refine TR.seq ?_
    refine TR.pick 2 [1, 0] rfl ?_
    refine TR.open (fun w hw => (St.exOpen (show St w (Ex _ :: _) _ from hw))) (fun _ => ?_)
    refine TR.region ?_
    refine RL.move rfl rfl rfl ?_
    refine RL.lenSlice rfl wy_tl35 rfl rfl ?_
    refine RL.move rfl rfl rfl ?_
    refine RL.nil ?_
    refine NX.seq ?_
    refine TR.block ?_
    refine TR.loopP (ι := (Nat × List (Ky × QM) × Int)) (fun z => z.1 ≤ kz.1.1.length ∧ z.2.1.Sublist X.qs ∧ -12000 * (z.1 : Int) ≤ z.2.2 ∧ z.2.2 ≤ 12000) (fun z => [(1, PtV b1), (2, I z.2.2), (19, .slice kz.1.2.1 kz.1.1.length kz.1.2.2), (20, I (kz.1.1.length : Nat)), (21, I (z.1 : Nat))]) (fun z => Box b1 24 [PtV b] :: EngI b bud fv { X with qs := z.2.1 } :: OwnSl 9 1 kz.1.2.1 kz.1.1.length kz.1.2.2 (coC lz.1) :: M) (fun z => F) (fun z => (kz.1.1.length - z.1)) (0, X.qs, ((bytesQ X.qs : Nat) : Int)) ⟨Nat.zero_le _, List.Sublist.refl _, by simp, by show ((bytesQ X.qs : Nat) : Int) ≤ 12000; omega⟩ ⟨rfl, rfl, rfl, rfl, rfl, trivial⟩ (fun w hw => (hw.to 3 [0, 1, 2] 0 [] rfl)) (fun z hz => ?_)
    refine TR.seq ?_
    refine TR.region ?_
    refine RL.bin rfl rfl rfl BinV.lss rfl ?_
    refine RL.nil ?_
    refine NX.seq ?_
    refine TR.seq ?_
    refine TR.cond rfl (fun h3 => ?_) (fun h3 => ?_)
    · skip
      have hi : z.1 < kz.1.1.length := by have := of_decide_eq_true h3; omega
      have hzb := hz.2.2
      refine TR.openP (fun w hw => own_at (i := 2) rfl (coC_ne0 (by omega)) hw) (fun g hg => ?_)
      refine TR.skip ?_
      refine NX.seq ?_
      refine TR.seq ?_
      refine TR.block ?_
      refine TR.seq ?_
      refine TR.region ?_
      refine RL.indexAddr rfl wy_tl35 wy_tz9 (congrArg (fun a => some (Value.slice a _ _)) hg) rfl (by omega) (by omega) rfl ?_
      refine RL.loadS rfl rfl (own_one (i := 2) rfl hg wy_ts9 (coC_kAt z.1 (by omega) (by omega))) rfl ?_
      refine RL.assign rfl rfl rfl ?_
      refine RL.nil ?_
      refine NX.seq ?_
      refine TR.seq ?_
      refine TR.seq ?_
      refine TR.region ?_
      refine RL.move rfl rfl rfl ?_
      refine RL.load1 0 rfl wy_ts24 rfl rfl rfl rfl ?_
      refine RL.nilCheck rfl rfl rfl ?_
      refine RL.fieldAddr rfl wy_tf65_0 rfl rfl ?_
      refine RL.loadS rfl rfl (engI_bud (i := 1) rfl wy_ts3) rfl ?_
      refine RL.bin rfl rfl rfl BinV.leq rfl ?_
      refine RL.nil ?_
      refine NX.seq ?_
      refine TR.cond rfl (fun h4 => ?_) (fun h4 => ?_)
      · skip
        refine TR.ret ?_
        refine NX.retThen ?_
        refine NX.retBlock ?_
        refine NX.retThen ?_
        refine NX.retThen ?_
        refine NX.retBlock ?_
        exact NX.ret0 () rfl rfl (fun w hw => ((hw.to 3 [1] 0 [] rfl)).tail)
      · skip
        refine TR.skip ?_
        refine NX.seq ?_
        refine TR.region ?_
        refine RL.move rfl rfl rfl ?_
        refine RL.load1 0 rfl wy_ts24 rfl rfl rfl rfl ?_
        refine RL.move rfl rfl rfl ?_
        refine RL.call rfl rfl Try.call48 rfl (Ctr.pick 3 [1, 0, 2] rfl (forget_spec (X := { X with qs := z.2.1 }) (k := kAt lz.1 z.1) (hkk _ (kmem (n := lz.1.length) rfl lz.2 _ (by omega))).1 (hS.sub hz.2.1))) (fun fz => ?_)
        have hfz := fz.2.2
        refine RL.bin rfl rfl rfl (BinV.sub (z.2.2 - (fz.1.2 : Nat)) rfl (by omega) (by omega)) rfl ?_
        refine RL.assign rfl rfl rfl ?_
        refine RL.nil ?_
        refine NX.off ?_
        refine NX.seq ?_
        refine TR.region ?_
        refine RL.bin rfl rfl rfl (BinV.add ((z.1 + 1 : Nat) : Int) (by omega) (by omega) (by omega)) rfl ?_
        refine RL.move rfl rfl rfl ?_
        refine RL.nil ?_
        refine NX.roundP (z.1 + 1, fz.1.1, z.2.2 - (fz.1.2 : Nat)) ⟨by omega, fz.2.1.trans hz.2.1, by show -12000 * ((z.1 + 1 : Nat) : Int) ≤ z.2.2 - (fz.1.2 : Nat); omega, by show z.2.2 - (fz.1.2 : Nat) ≤ 12000; omega⟩ (by show kz.1.1.length - (z.1 + 1) < kz.1.1.length - z.1; omega) ⟨rfl, rfl, rfl, rfl, rfl, trivial⟩ (fun w hw => (hw.to 3 [1, 0, 2] 0 [] rfl))
    · skip
      refine TR.exit ?_
      refine NX.exitThen ?_
      refine NX.exitThen ?_
      refine NX.exitHere ?_
      exact NX.end0 () rfl rfl (fun w hw => ((hw.to 3 [1] 0 [] rfl)).tail)
end Go.Proofs.Ythefimaaeilefaa

namespace Go.Proofs.Ythefimaaeilefaa
open Go.GL
set_option linter.unusedVariables false
theorem wz_ta53 : tyAgg Try.prog 53 2 = true := by kernel_rfl
theorem wz_tf53_0 : fieldOff Try.prog 53 0 0 = true := by kernel_rfl
theorem wz_tf53_1 : fieldOff Try.prog 53 1 1 = true := by kernel_rfl
theorem wz_tf65_5 : fieldOff Try.prog 65 5 5 = true := by kernel_rfl
theorem wz_tf65_6 : fieldOff Try.prog 65 6 6 = true := by kernel_rfl
theorem wz_tf65_7 : fieldOff Try.prog 65 7 7 = true := by kernel_rfl
theorem wz_tf65_8 : fieldOff Try.prog 65 8 8 = true := by kernel_rfl
theorem wz_tf65_9 : fieldOff Try.prog 65 9 9 = true := by kernel_rfl
theorem wz_tf71_0 : fieldOff Try.prog 71 0 0 = true := by kernel_rfl
theorem wz_tf71_1 : fieldOff Try.prog 71 1 1 = true := by kernel_rfl
theorem wz_tl54 : tySlice Try.prog 54 53 = true := by kernel_rfl
theorem wz_ts25 : tyScalar Try.prog 25 = true := by kernel_rfl
theorem wz_ts3 : tyScalar Try.prog 3 = true := by kernel_rfl
theorem wz_ts4 : tyScalar Try.prog 4 = true := by kernel_rfl
theorem wz_ts62 : tyScalar Try.prog 62 = true := by kernel_rfl
theorem wz_ts63 : tyScalar Try.prog 63 = true := by kernel_rfl
theorem wz_ts9 : tyScalar Try.prog 9 = true := by kernel_rfl
theorem wz_tz53 : tySize Try.prog 53 2 = true := by kernel_rfl
theorem wz_tz71 : tySize Try.prog 71 2 = true := by kernel_rfl
def UN2 : List Ky := [[110, 48], [110, 49], [110, 50], [110, 51], [110, 52], [110, 53], [110, 54], [110, 55], [110, 56], [110, 57]]
def Cov (e : En) : Prop := ∀ k, k ∈ UR → aGet e.inp k = none → k ∈ UN2
theorem sz_of {Y : EX} (h : Bt ruleR UR Y.en) (hc : Cov Y.en) : SzQ Y.qs := by
  have hk : Y.en.qs.map Prod.fst = Y.qs.map Prod.fst := by show (Y.qs.map (fun p => (p.1, p.2.q))).map Prod.fst = _; rw [List.map_map]; rfl
  refine ⟨?_, fun p hp => ?_⟩
  · have h1 := nodup_sub h.q.nd (m := UN2) fun x hx => by
      obtain ⟨p, hp, rfl⟩ := List.mem_map.1 hx
      obtain ⟨c1, _, c3, _⟩ := h.q.old p.1 p.2 (aGet_of h.q.nd hp)
      exact hc p.1 c3 c1
    rw [hk, List.length_map] at h1
    exact Nat.le_trans h1 (by decide)
  · have hp2 : (p.1, p.2.q) ∈ Y.en.qs := List.mem_map.2 ⟨p, hp, rfl⟩
    have h1 := (h.q.old p.1 p.2.q (aGet_of h.q.nd hp2)).2.2.1
    have h2 := UR_ko _ h1
    have h3 : p.2.q.own.s.length ≤ 8 := (h.w.qb _ hp2).le
    exact ⟨h2.1, by omega⟩
theorem begE_bt2 : ∀ (l : List (Ky × List UInt8)) (e : En), Bt ruleR UR e → (∀ p, p ∈ l → p.2.length ≤ 4) → Bt ruleR UR (l.foldl (fun e p => setE p.1 p.2 e) e)
  | [], e, h, _ => h
  | p :: l, e, h, hl => begE_bt2 l _ (h.set p.1 p.2 (.of0 (hl p (.head _)))) fun q hq => hl q (.tail _ hq)
theorem begE_gc : ∀ (l : List (Ky × List UInt8)) (e : En), (l.foldl (fun e p => setE p.1 p.2 e) e).gets = e.gets ∧ (l.foldl (fun e p => setE p.1 p.2 e) e).comp = e.comp
  | [], e => ⟨rfl, rfl⟩
  | p :: l, e => by
    obtain ⟨h1, h2⟩ := begE_gc l (setE p.1 p.2 e)
    have h3 := setE_gets p.1 p.2 e
    exact ⟨h1.trans h3.1, h2.trans h3.2⟩
theorem begE_g (l : List (Ky × List UInt8)) : (begE l).gets = 0 := (begE_gc l newE).1
theorem begE_c (l : List (Ky × List UInt8)) : (begE l).comp = [] := (begE_gc l newE).2
theorem cov_get {e : En} {d f : Nat} {k : Ky} (h : Bt ruleR UR e) (hd : UR.length < d) (hk : k ∈ UR) (hc : Cov e) : Cov (getE ruleR d k f e).2 := by
  intro j hj hn
  rw [(h.get (d := d) (fuel := f) ruleR_k hd hk).2.1] at hn
  exact hc j hj hn
def in2 : List (Ky × List UInt8) → List Value
  | [] => []
  | p :: l => S p.1 :: S p.2 :: in2 l
theorem in2_append : ∀ (a b : List (Ky × List UInt8)), in2 (a ++ b) = in2 a ++ in2 b
  | [], b => rfl
  | p :: l, b => by simp only [List.cons_append, in2, in2_append l b]
theorem in2_at : ∀ {l : List (Ky × List UInt8)} {i : Nat} {p : Ky × List UInt8}, l[i]? = some p → ∀ j v, [S p.1, S p.2][j]? = some v → (in2 l)[i * 2 + j]? = some v
  | q :: l, 0, p, h, j, v, hv => by
    simp at h; subst h
    match j, hv with
    | 0, hv => simpa [in2] using hv
    | 1, hv => simpa [in2] using hv
    | j + 2, hv => simp at hv
  | q :: l, i + 1, p, h, j, v, hv => by
    rw [show (i + 1) * 2 + j = (i * 2 + j) + 2 from by omega]
    simp only [in2, List.getElem?_cons_succ]
    exact in2_at (by simpa using h) j v hv
theorem in2_ne {l : List (Ky × List UInt8)} {i : Nat} {p : Ky × List UInt8} (h : l[i]? = some p) : in2 l ≠ [] := by
  cases l with
  | nil => simp at h
  | cons q l => simp [in2]
theorem run_in2 {P : Program} {w : World} {K : List Nat} {b off T : Nat} {l : List (Ky × List UInt8)} {i : Nat} {p : Ky × List UInt8} (h : CellsAt w K b off (in2 l)) (hT : tyAgg P T 2 = true) (hp : l[i]? = some p) : Reads P w T ⟨b, off + ((i : Nat) : Int).toNat * 2, none⟩ (.agg #[S p.1, S p.2]) :=
  run_loadCellsAt (cs := [S p.1, S p.2]) (h.at (o := ((i : Nat) : Int).toNat * 2) (by rw [Int.toNat_natCast]; exact in2_at hp)) hT
theorem getd_spec {b : Nat} {bud : Int} {X : EX} {M : List HP} {F : List Fact} {k : Ky} {fz : Int} (hk : k ∈ UR) (hBt : Bt ruleR UR X.en) (hcov : Cov X.en) (hg : 0 ≤ X.gets) (hg2 : X.gets ≤ 1099511627776) (hsu : X.comp.length + fz.toNat ≤ 1099511627776) (hQ : QF X.qs ∈ F) : Ctr Try.prog 15 [PtV b, S k, I fz] (EngI b bud ruV.val X :: M) F Unit (fun _ => .tuple #[S (getE ruleR (UR.length + 1) k fz.toNat X.en).1.s, I (getE ruleR (UR.length + 1) k fz.toNat X.en).1.e]) (fun _ => M) (fun _ => F) := by
  refine Ctr.body Try.func15 rfl rfl ?_
  refine TR.seq ?_
  refine TR.region ?_
  refine RL.assign rfl rfl rfl ?_
  refine RL.assign rfl rfl rfl ?_
  refine RL.nil ?_
  refine NX.seq ?_
  refine TR.seq ?_
  refine TR.open (fun w hw => (St.exOpen (show St w (Ex _ :: _) _ from hw))) (fun ic => ?_)
  refine TR.region ?_
  refine RL.move rfl rfl rfl ?_
  refine RL.nilCheck rfl rfl rfl ?_
  refine RL.fieldAddr rfl wz_tf65_5 rfl rfl ?_
  refine RL.load1 0 rfl wz_ts3 rfl rfl rfl rfl ?_
  refine RL.bin rfl rfl rfl (BinV.add _ rfl (by omega) (by omega)) rfl ?_
  refine RL.nilCheck rfl rfl rfl ?_
  refine RL.fieldAddr rfl wz_tf65_5 rfl rfl ?_
  refine RL.store1 0 rfl wz_ts3 rfl rfl rfl rfl rfl ?_
  refine RL.nil ?_
  refine NX.seq ?_
  refine TR.seq ?_
  refine TR.region ?_
  refine RL.move rfl rfl rfl ?_
  refine RL.move rfl rfl rfl ?_
  refine RL.move rfl rfl rfl ?_
  refine RL.max rfl rfl rfl rfl ?_
  refine RL.nilCheck rfl rfl rfl ?_
  refine RL.fieldAddr rfl wz_tf65_6 rfl rfl ?_
  refine RL.store1 0 rfl wz_ts3 rfl rfl rfl rfl rfl ?_
  refine RL.nilCheck rfl rfl rfl ?_
  refine RL.fieldAddr rfl wz_tf65_7 rfl rfl ?_
  refine RL.store1 0 rfl wz_ts4 rfl rfl rfl rfl rfl ?_
  refine RL.nil ?_
  refine NX.seq ?_
  refine TR.seq ?_
  refine TR.region ?_
  refine RL.move rfl rfl rfl ?_
  refine RL.move rfl rfl rfl ?_
  refine RL.ofGV rfl rfl GV.makeMap (fun b1 => ?_)
  refine RL.nilCheck rfl rfl rfl ?_
  refine RL.fieldAddr rfl wz_tf65_8 rfl rfl ?_
  refine RL.store1 1 rfl wz_ts62 rfl rfl rfl rfl rfl ?_
  refine RL.nilCheck rfl rfl rfl ?_
  refine RL.fieldAddr rfl wz_tf65_9 rfl rfl ?_
  refine RL.store1 1 rfl wz_ts63 rfl rfl rfl rfl rfl ?_
  refine RL.nil ?_
  refine NX.seq ?_
  refine TR.seq ?_
  refine TR.weak (fun w hw => St.engClose (begX fz.toNat X) (⟨ic.ib, ic.qb, b1, ic.co, ic.cc, none, 0⟩ : EH) (by show [_, _, _, _, _, _, I (max 0 fz), _, _, _] = [I bud, ruV.val, .map (some ic.ib), .map (some ic.qb), .slice ic.co X.comp.length ic.cc, I (X.gets + 1), I ((fz.toNat : Nat) : Int), .bool false, .slice none 0 0, .map (some b1)]; rw [show ((fz.toNat : Nat) : Int) = max 0 fz from by omega]) rfl rfl rfl rfl rfl rfl rfl rfl rfl (show St w (_ :: _ :: _ :: _ :: _ :: _ :: _ :: _ :: M) F from (OwnSl.nil_new 88 1 (St.alClose (L := []) (hw.toM 6 [1, 2, 3, 0, 4, 5] rfl))).toM 8 [2, 3, 4, 5, 6, 0, 1, 7] rfl)) ?_
  refine TR.region ?_
  refine RL.move rfl rfl rfl ?_
  refine RL.move rfl rfl rfl ?_
  refine RL.call rfl rfl Try.call31 rfl (obtain_all UR_ko (by decide) ruleR_k ruV (UR.length + 1) (X := (begX fz.toNat X)) (by_ := none) (bv := .pointer none) ⟨hBt.w.same rfl rfl rfl, (by show _ ≤ 0 + (UR.length + 1); omega), hsu⟩ hk (.inl ⟨rfl, rfl, rfl⟩) hQ) (fun Y => ?_)
  obtain ⟨Y, hYe, hYk⟩ := Y
  have hYe : Y.en = (getE ruleR (UR.length + 1) k fz.toNat X.en).2 := hYe
  dsimp only
  refine RL.allocA rfl (Try.zeroValue71) rfl (fun b2 => ?_)
  refine RL.storeA 0 rfl rfl rfl rfl wz_tz71 rfl rfl ?_
  refine RL.nil ?_
  refine NX.seq ?_
  refine TR.seq ?_
  refine TR.pick 2 [1, 0] rfl ?_
  refine TR.weak (fun w hw => St.toI (show St w (EngB b bud ruV.val Y :: _) _ from hw)) ?_
  refine TR.region ?_
  refine RL.move rfl rfl rfl ?_
  refine RL.call rfl rfl Try.call32 rfl (shrink_drop (X := Y) (sz_of (by rw [hYe]; exact (hBt.get ruleR_k (Nat.lt_succ_self _) hk).1) (by rw [hYe]; exact cov_get hBt (Nat.lt_succ_self _) hk hcov))) (fun _ => ?_)
  refine RL.nil ?_
  refine NX.seq ?_
  refine TR.seq ?_
  refine TR.sub (E' := [(7, _), (8, _)]) ⟨rfl, rfl, trivial⟩ ?_
  refine TR.draw mixed ?_
  apply AR.more [(0, _), (1, _), (2, _), (3, _), (4, _), (5, _)]
  refine AR.last [0, 1, 2, 3, 4, 5] [0, 1, 2, 3, 4, 5] ⟨QOne.yes rfl rfl rfl (PV.fieldAddr wz_tf71_0 rfl), QOne.yes rfl rfl rfl (PV.load1 0 wz_ts9 rfl rfl rfl), QOne.yes rfl rfl rfl (PV.fieldAddr wz_tf71_1 rfl), QOne.yes rfl rfl rfl (PV.load1 0 wz_ts25 rfl rfl rfl), QOne.yes rfl rfl rfl (PV.assign rfl), QOne.yes rfl rfl rfl (PV.assign rfl), trivial⟩ rfl rfl rfl ?_
  refine NX.sub (E' := [(6, _), (7, _)]) ⟨rfl, rfl, trivial⟩ ?_
  refine NX.seq ?_
  refine TR.ret ?_
  exact NX.ret2 () rfl rfl rfl rfl (fun w hw => (hw.to 1 [] 2 [] rfl))
set_option maxHeartbeats 1000000 in
theorem fresh_spec {l : List (Ky × List UInt8)} {oa : Option Addr} {c : Nat} {key : Ky} {M : List HP} {F : List Fact} (ha : ArrF oa (in2 l) ∈ F) (hko : ∀ p, p ∈ l → KO p.1) (hv4 : ∀ p, p ∈ l → p.2.length ≤ 4) (hcov : Cov (begE l)) (hkey : key ∈ UR) (hll : l.length ≤ 1000) : Ctr Try.prog 25 [.slice oa l.length c, ruV.val, S key] M F Unit (fun _ => .tuple #[S (getE ruleR (UR.length + 1) key 1048576 (begE l)).1.s, I (getE ruleR (UR.length + 1) key 1048576 (begE l)).1.e]) (fun _ => M) (fun _ => F) := by
  refine Ctr.body Try.func25 rfl rfl ?_
  refine TR.seq ?_
  refine TR.region ?_
  refine RL.assign rfl rfl rfl ?_
  refine RL.assign rfl rfl rfl ?_
  refine RL.nil ?_
  refine NX.seq ?_
  refine TR.seq ?_
  refine TR.region ?_
  refine RL.move rfl rfl rfl ?_
  refine RL.call rfl rfl Try.call10 rfl (new_spec (f := .func 11) (a := [].toArray) (c := [].toArray) (by decide)) (fun b => ?_)
  refine RL.move rfl rfl rfl ?_
  refine RL.extract rfl rfl rfl rfl ?_
  refine RL.extract rfl rfl rfl rfl ?_
  refine RL.assign rfl rfl rfl ?_
  refine RL.assign rfl rfl rfl ?_
  refine RL.nil ?_
  refine NX.seq ?_
  refine TR.seq ?_
  refine TR.seq ?_
  refine TR.region ?_
  refine RL.move rfl rfl rfl ?_
  refine RL.bin rfl rfl rfl (BinV.to (d := false) BinV.neq (decide_eq_false (by decide))) rfl ?_
  refine RL.nil ?_
  refine NX.seq ?_
  refine TR.condF rfl ?_
  refine TR.skip ?_
  refine NX.seq ?_
  refine TR.seq ?_
  refine TR.seq ?_
  refine TR.region ?_
  refine RL.move rfl rfl rfl ?_
  refine RL.lenSlice rfl wz_tl54 rfl rfl ?_
  refine RL.move rfl rfl rfl ?_
  refine RL.nil ?_
  refine NX.seq ?_
  refine TR.block ?_
  refine TR.loopP (ι := (Nat × EX)) (fun z => z.1 ≤ l.length ∧ z.2.en = begE (l.take z.1)) (fun z => [(2, S key), (8, PtV b), (20, .slice oa l.length c), (21, I (l.length : Nat)), (22, I (z.1 : Nat))]) (fun z => EngI b 0 ruV.val z.2 :: M) (fun z => QF z.2.qs :: F) (fun z => (l.length - z.1)) (0, newX) ⟨Nat.zero_le _, rfl⟩ ⟨rfl, rfl, rfl, rfl, rfl, trivial⟩ (fun w hw => (hw.to 1 [0] 1 [0] rfl)) (fun z hz => ?_)
  refine TR.seq ?_
  refine TR.region ?_
  refine RL.bin rfl rfl rfl BinV.lss rfl ?_
  refine RL.nil ?_
  refine NX.seq ?_
  refine TR.seq ?_
  refine TR.cond rfl (fun h1 => ?_) (fun h1 => ?_)
  · skip
    have hi : z.1 < l.length := by have := of_decide_eq_true h1; omega
    obtain ⟨p, hp⟩ : ∃ p, l[z.1]? = some p := ⟨_, List.getElem?_eq_getElem hi⟩
    refine TR.openP (open_arr (.tail _ ha) (in2_ne hp)) (fun x hx => ?_)
    refine TR.skip ?_
    refine NX.seq ?_
    refine TR.seq ?_
    refine TR.block ?_
    refine TR.seq ?_
    refine TR.region ?_
    refine RL.indexAddr rfl wz_tl54 wz_tz53 (congrArg (fun a => some (Value.slice a _ _)) hx) rfl (by omega) (by omega) rfl ?_
    refine RL.loadF rfl rfl (fun w K hF => run_in2 (hF (CellsF x.1 x.2 (in2 l)) (.head _)) wz_ta53 hp) rfl ?_
    refine RL.allocA rfl (Try.zeroValue53) rfl (fun b2 => ?_)
    refine RL.storeA 0 rfl rfl rfl rfl wz_tz53 rfl rfl ?_
    refine RL.nil ?_
    refine NX.seq ?_
    refine TR.region ?_
    refine RL.move rfl rfl rfl ?_
    refine RL.fieldAddr rfl wz_tf53_0 rfl rfl ?_
    refine RL.load1 0 rfl wz_ts9 rfl rfl rfl rfl ?_
    refine RL.fieldAddr rfl wz_tf53_1 rfl rfl ?_
    refine RL.load1 0 rfl wz_ts9 rfl rfl rfl rfl ?_
    refine RL.call rfl rfl Try.call12 rfl (Ctr.pick 2 [1, 0] rfl (set_spec (X := z.2) (k := p.1) (v := p.2) (hko p (List.mem_of_getElem? hp)) (.tail _ (.head _)))) (fun _ => ?_)
    refine RL.nil ?_
    refine NX.off ?_
    refine NX.seq ?_
    refine TR.region ?_
    refine RL.bin rfl rfl rfl (BinV.add ((z.1 + 1 : Nat) : Int) (by omega) (by omega) (by omega)) rfl ?_
    refine RL.move rfl rfl rfl ?_
    refine RL.nil ?_
    refine NX.roundP (z.1 + 1, setX p.1 p.2 z.2) ⟨by omega, by rw [begE_snoc hp, ← hz.2, setX_en]⟩ (by show l.length - (z.1 + 1) < l.length - z.1; omega) ⟨rfl, rfl, rfl, rfl, rfl, trivial⟩ (fun w hw => (hw.to 2 [0] 3 [0] rfl))
  · skip
    have hi : z.1 = l.length := by have := of_decide_eq_false h1; omega
    have hen : z.2.en = begE l := by have h9 := hz.2; rwa [hi, List.take_length] at h9
    have hbt : Bt ruleR UR z.2.en := by rw [hen]; exact begE_bt2 l newE Bt.new hv4
    have hcov2 : Cov z.2.en := by rw [hen]; exact hcov
    refine TR.exit ?_
    refine NX.exitThen ?_
    refine NX.exitThen ?_
    refine NX.exitHere ?_
    refine NX.seq ?_
    refine TR.seq ?_
    refine TR.region ?_
    refine RL.move rfl rfl rfl ?_
    refine RL.move rfl rfl rfl ?_
    refine RL.call rfl rfl Try.call15 rfl (getd_spec (X := z.2) (k := key) (fz := 1048576) hkey hbt hcov2 (by show 0 ≤ z.2.en.gets; rw [hen, begE_g]; decide) (by show z.2.en.gets ≤ _; rw [hen, begE_g]; decide) (by show z.2.en.comp.length + _ ≤ _; rw [hen, begE_c]; decide) (.head _)) (fun _ => ?_)
    refine RL.extract rfl rfl rfl rfl ?_
    refine RL.extract rfl rfl rfl rfl ?_
    refine RL.assign rfl rfl rfl ?_
    refine RL.assign rfl rfl rfl ?_
    refine RL.nil ?_
    refine NX.seq ?_
    refine TR.ret ?_
    exact NX.ret2 () rfl rfl rfl (by rw [hen]; rfl) (fun w hw => (hw.to 0 [] 1 [] rfl))
theorem cov_beg {l : List (Ky × List UInt8)} (h : Rl 10 l) : Cov (begE l) := by
  intro k hk hn
  rw [begE_is h.nd] at hn
  have hn : aGet l k = none := hn
  rw [aGet_none, h.ks] at hn
  have : ∀ k, k ∈ UR → k ∉ (List.range 10).map rK → k ∈ UN2 := by decide
  exact this k hk hn
end Go.Proofs.Ythefimaaeilefaa

namespace Go.GL
set_option linter.unusedVariables false
section
variable {rule : Ky → Ru} {U : List Ky}
structure QU (U : List Ky) (e : En) : Prop where
  nd : (e.qs.map Prod.fst).Nodup
  mem : ∀ k, k ∈ e.qs.map Prod.fst → k ∈ U
theorem QU.len {e : En} (h : QU U e) : e.qs.length ≤ U.length := by
  have := nodup_sub h.nd (m := U) h.mem
  rwa [List.length_map] at this
theorem QU.same {e e' : En} (h : QU U e) (h1 : e'.qs = e.qs) : QU U e' := ⟨by rw [h1]; exact h.nd, by rw [h1]; exact h.mem⟩
theorem aSet_qu {qs : List (Ky × Qy)} {k : Ky} {q : Qy} (h : (qs.map Prod.fst).Nodup ∧ ∀ k, k ∈ qs.map Prod.fst → k ∈ U) (hk : k ∈ U) : ((aSet qs k q).map Prod.fst).Nodup ∧ ∀ j, j ∈ (aSet qs k q).map Prod.fst → j ∈ U := ⟨aSet_nodup h.1, fun j hj => by
  obtain ⟨p, hp, rfl⟩ := List.mem_map.1 hj
  rcases aSet_mem hp with hp | hp
  · exact h.2 _ (List.mem_map_of_mem (f := Prod.fst) hp)
  · rw [hp]; exact hk⟩
theorem putAll_qu {gets : Int} {c : Bool} : ∀ {grp : List Fr} {qs : List (Ky × Qy)}, ((qs.map Prod.fst).Nodup ∧ ∀ k, k ∈ qs.map Prod.fst → k ∈ U) → (∀ f, f ∈ grp → f.key ∈ U) → ((putAll gets c grp qs).map Prod.fst).Nodup ∧ ∀ k, k ∈ (putAll gets c grp qs).map Prod.fst → k ∈ U
  | [], qs, h, _ => h
  | f :: l, qs, h, hf => putAll_qu (grp := l) (qs := aSet qs f.key (toQ gets (c || f.self) f)) (aSet_qu h (hf f (.head _))) fun g hg => hf g (.tail _ hg)
def QUob (U : List Ky) (ob : Ky → Nat → En → An × En) : Prop := ∀ k i e, k ∈ U → Wk U e → QU U e → QU U (ob k i e).2
variable {ob : Ky → Nat → En → An × En}
theorem hold_qu (hw : Wob U ob) (hr : QUob U ob) {own : Nat} : ∀ (T : Tr) (e : En), (∀ p, p ∈ T → p.1 ∈ U) → Wk U e → QU U e → QU U (holdG ob own T e).2
  | [], e, _, _, h => h
  | (k, a) :: T, e, hT, hwk, h => by
    have h1 := hr k own e (hT _ (.head _)) hwk h
    rw [holdG]
    split
    · exact h1
    · exact hold_qu hw hr (own := own) T (ob k own e).2 (fun p hp => hT p (.tail _ hp)) (hw k own e (hT _ (.head _)) hwk).1 h1
theorem ask_qu (hr : QUob U ob) {own : Nat} {k : Ky} {e : En} (hk : k ∈ U) (hwk : Wk U e) (h : QU U e) : QU U (askG ob own k e).2 := by
  unfold askG
  split
  · exact h
  · exact (hr k own e hk hwk h).same rfl
theorem run_qu (hw : Wob U ob) (hr : QUob U ob) {own : Nat} {k0 : Ky} {r : Ru} (hin : RuIn U r) : RuB k0 r → ∀ {e : En}, own < e.st.length → Wk U e → QU U e → QU U (runG ob own r e).2 := by
  induction hin with
  | ret a => exact fun _ _ _ _ h => h
  | @ask k f hk _ ih =>
    intro hb e hl hwk h
    cases hb with | ask hb => ?_
    rw [runG_ask]
    obtain ⟨w1, w2, w3⟩ := ask_w3 hw hk hl hwk
    exact ih (askG ob own k e).1 (hb _ w3) (w2.lt hl) w1 (ask_qu hr hk hwk h)
theorem comp_qu (hw : Wob U ob) (hr : QUob U ob) {own : Nat} {r : Ru} (k : Ky) (hin : RuK U k r) {e : En} (hl : own < e.st.length) (hwk : Wk U e) (h : QU U e) : QU U (compG ob r k own e) := by
  have h1 := run_qu hw hr (own := own) hin.i hin.b (e := { e with fuel := e.fuel - 1 }) hl (hwk.same rfl rfl rfl) (h.same rfl)
  unfold compG
  split
  · exact h.same rfl
  · split
    · exact h1
    · exact h1.same rfl
theorem visit_qu (hw : Wob U ob) (hr : QUob U ob) {r : Ru} {k : Ky} (hin : RuK U k r) (hk : k ∈ U) {e : En} (hx : frIdx e.st k = none) (hwk : Wk U e) (h : QU U e) : QU U (visit ob r k e) := by
  have hp := push_wk hwk hk hx
  have hl : e.st.length < (push e k).st.length := by show _ < (e.st ++ [_]).length; simp
  have hR : QU U (push e k) := h.same rfl
  unfold visit
  split
  · rename_i q hq
    have hqt := hwk.qs _ (aGet_mem hq)
    have h1 := hold_qu hw hr (own := e.st.length) q.tr (push e k) hqt.mem hp hR
    obtain ⟨w1, w2⟩ := hold_wk hw (own := e.st.length) q.tr hqt.mem hp
    split
    · exact h1.same rfl
    · exact comp_qu hw hr k hin (w2.lt hl) w1 h1
  · exact comp_qu hw hr k hin hl hp hR
theorem settle_qu {e : En} {own : Nat} (hw : Wk U e) (h : QU U e) : QU U (settle own e).2 := by
  have := putAll_qu (gets := e.gets) (c := decide (1 < (e.st.drop own).length)) (grp := e.st.drop own) ⟨h.nd, h.mem⟩ fun f hf => (hw.st f (List.mem_of_mem_drop hf)).1
  exact ⟨this.1, this.2⟩
theorem hit_qu {e : En} (by_ : Option Nat) (i : Nat) (h : QU U e) : QU U (hit e by_ i) := by
  unfold hit
  split
  · exact h
  · split
    · exact h
    · exact h.same rfl
theorem leave_qu {e : En} (by_ : Option Nat) (own : Nat) (hw : Wk U e) (h : QU U e) : QU U (leave by_ own e).2 := by
  unfold leave
  split
  · exact h
  · split
    · unfold bump
      split
      · exact h
      · exact h.same rfl
    · exact settle_qu hw h
theorem obt_qu (hr : ∀ k, k ∈ U → RuK U k (rule k)) : ∀ d k by_ e, k ∈ U → Wk U e → QU U e → QU U (obt rule d k by_ e).2
  | 0, k, by_, e, _, _, h => h
  | d + 1, k, by_, e, hk, hwk, h => by
    rw [obt]
    split
    · exact h
    · split
      · exact h
      · split
        · exact hit_qu by_ _ h
        · rename_i hx
          split
          · rename_i q hq
            have := aSet_qu (q := { q with used := e.gets }) ⟨h.nd, h.mem⟩ hk
            exact ⟨this.1, this.2⟩
          · have hv := visit_qu (ob := fun k b e => obt rule d k (some b) e) (obt_wob hr d) (fun k b e => obt_qu hr d k (some b) e) (hr k hk) hk hx hwk h
            exact leave_qu by_ _ (visit_wk (obt_wob hr d) (hr k hk) hk hx hwk).1 hv
end
end Go.GL

namespace Go.GL
set_option linter.unusedVariables false
def flC {α : Type} (c : α → List Value) : List α → List Value
  | [] => []
  | a :: l => c a ++ flC c l
theorem flC_len {α : Type} {c : α → List Value} {n : Nat} (hc : ∀ a, (c a).length = n) : ∀ l, (flC c l).length = l.length * n
  | [] => by simp [flC]
  | a :: l => by rw [flC, List.length_append, hc, flC_len hc l, List.length_cons, Nat.succ_mul]; omega
theorem flC_append {α : Type} (c : α → List Value) : ∀ (a b : List α), flC c (a ++ b) = flC c a ++ flC c b
  | [], b => rfl
  | x :: l, b => by rw [List.cons_append, flC, flC, flC_append c l b, List.append_assoc]
theorem flC_one {α : Type} (c : α → List Value) (a : α) : flC c [a] = c a := by rw [flC, flC, List.append_nil]
theorem flC_at {α : Type} {c : α → List Value} {n : Nat} (hc : ∀ a, (c a).length = n) : ∀ {l : List α} {i : Nat} {a : α}, l[i]? = some a → ∀ j v, (c a)[j]? = some v → (flC c l)[i * n + j]? = some v
  | b :: l, 0, a, h, j, v, hv => by
    simp at h; subst h
    have hj := (List.getElem?_eq_some_iff.1 hv).1
    rw [flC, Nat.zero_mul, Nat.zero_add, List.getElem?_append_left hj]; exact hv
  | b :: l, i + 1, a, h, j, v, hv => by
    rw [flC, List.getElem?_append_right (by rw [hc, Nat.succ_mul]; omega), hc, show (i + 1) * n + j - n = i * n + j from by rw [Nat.succ_mul]; omega]
    exact flC_at hc (by simpa using h) j v hv
theorem flC_set {α : Type} {c : α → List Value} {n : Nat} (hc : ∀ a, (c a).length = n) {l : List α} {i o : Nat} {a a' : α} {vs : List Value} (h : l[i]? = some a) (ho : o + vs.length ≤ n) (ha : c a' = (c a).take o ++ vs ++ (c a).drop (o + vs.length)) :
    (flC c l).take (i * n + o) ++ vs ++ (flC c l).drop (i * n + o + vs.length) = flC c (l.set i a') := by
  have hi := (List.getElem?_eq_some_iff.1 h).1
  have e1 : l = l.take i ++ a :: l.drop (i + 1) := by
    have := (List.getElem?_eq_some_iff.1 h).2
    rw [← this, List.getElem_cons_drop, List.take_append_drop]
  have e2 : l.set i a' = l.take i ++ a' :: l.drop (i + 1) := by rw [List.set_eq_take_append_cons_drop, if_pos hi]
  have hl : (flC c (l.take i)).length = i * n := by rw [flC_len hc, List.length_take, Nat.min_eq_left (by omega)]
  have e3 : flC c l = flC c (l.take i) ++ (c a ++ flC c (l.drop (i + 1))) := by rw [← flC, ← flC_append, ← e1]
  rw [e2, flC_append, flC, ha, e3, ← hl]
  have hca := hc a
  rw [List.take_append, List.take_of_length_le (by omega), show (flC c (l.take i)).length + o - (flC c (l.take i)).length = o from by omega, List.take_append_of_le_length (by omega)]
  rw [show (flC c (l.take i)).length + o + vs.length = (flC c (l.take i)).length + (o + vs.length) from by omega, List.drop_append, List.drop_of_length_le (by omega), List.nil_append, show (flC c (l.take i)).length + (o + vs.length) - (flC c (l.take i)).length = o + vs.length from by omega, List.drop_append_of_le_length (by omega)]
  simp only [List.append_assoc]
structure RQ where
  q : Qy
  oa : Option Addr
  ca : Nat
structure RF where
  f : Fr
  oa : Option Addr
  ca : Nat
  an : Bool
def RQ.cs (p : Ky × RQ) : List Value := [S p.1, S p.2.q.own.s, I p.2.q.own.e, .slice p.2.oa p.2.q.tr.length p.2.ca, .bool p.2.q.cyc, .bool p.2.q.ok, I p.2.q.used]
def RF.cs (x : RF) : List Value := [S x.f.key, I (x.f.low : Nat), .bool x.f.self, S x.f.own.s, I x.f.own.e, .slice x.oa x.f.tr.length x.ca, .bool x.an]
structure RX where
  inp : List (Ky × List UInt8)
  qs : List (Ky × RQ)
  comp : List Ky
  gets : Int
  fuel : Nat
  fs : List RF
def RX.en (X : RX) : En := ⟨X.inp, X.qs.map (fun p => (p.1, p.2.q)), X.comp, X.gets, X.fuel, false, X.fs.map RF.f⟩
structure RH where
  la : Option Addr
  lc : Nat
  ca : Option Addr
  cc : Nat
  sa : Option Addr
  sc : Nat
def REB (m : Nat) (bud : Int) (ia : Option Addr) (ic : Nat) (X : RX) : HP := Ex (ι := RH) fun h => [Box m 76 [I bud, .slice ia X.inp.length ic, .slice h.la X.qs.length h.lc, .slice h.ca X.comp.length h.cc, I X.gets, I (X.fuel : Nat), .bool false, .slice h.sa X.fs.length h.sc],
  OwnSl 105 7 h.la X.qs.length h.lc (flC RQ.cs X.qs), OwnSl 9 1 h.ca X.comp.length h.cc (coC X.comp), OwnSl 116 7 h.sa X.fs.length h.sc (flC RF.cs X.fs)]
theorem RQ.len (p : Ky × RQ) : (RQ.cs p).length = 7 := rfl
theorem RF.len (x : RF) : (RF.cs x).length = 7 := rfl
theorem St.rebClose {w : World} {M : List HP} {F : List Fact} {m : Nat} {bud : Int} {ia : Option Addr} {ic : Nat} (X : RX) (h : RH) {cs co lq lf : List Value} {nq nc nf : Nat}
    (h1 : cs = [I bud, .slice ia X.inp.length ic, .slice h.la X.qs.length h.lc, .slice h.ca X.comp.length h.cc, I X.gets, I (X.fuel : Nat), .bool false, .slice h.sa X.fs.length h.sc]) (h2 : nq = X.qs.length) (h3 : lq = flC RQ.cs X.qs) (h4 : nc = X.comp.length) (h5 : co = coC X.comp) (h6 : nf = X.fs.length) (h7 : lf = flC RF.cs X.fs)
    (hw : St w (Box m 76 cs :: OwnSl 105 7 h.la nq h.lc lq :: OwnSl 9 1 h.ca nc h.cc co :: OwnSl 116 7 h.sa nf h.sc lf :: M) F) : St w (REB m bud ia ic X :: M) F := by
  subst h1; subst h2; subst h3; subst h4; subst h5; subst h6; subst h7
  exact St.exClose h hw
theorem flC_ne {α : Type} {c : α → List Value} {n : Nat} (hc : ∀ a, (c a).length = n + 1) {l : List α} {i : Nat} {a : α} (h : l[i]? = some a) : flC c l ≠ [] := by
  cases l with
  | nil => simp at h
  | cons b l =>
    rw [flC]
    intro e
    have := congrArg List.length e
    rw [List.length_append, hc] at this
    simp at this
theorem rf_ne {l : List RF} {i : Nat} {a : RF} (h : l[i]? = some a) : flC RF.cs l ≠ [] := flC_ne (n := 6) RF.len h
theorem rq_ne {l : List (Ky × RQ)} {i : Nat} {a : Ky × RQ} (h : l[i]? = some a) : flC RQ.cs l ≠ [] := flC_ne (n := 6) RQ.len h
theorem rf_at {l : List RF} {i : Nat} {a : RF} (h : l[i]? = some a) (j : Nat) {v : Value} (hv : (RF.cs a)[j]? = some v) : (flC RF.cs l)[0 + ((i : Nat) : Int).toNat * 7 + j]? = some v := by
  rw [Int.toNat_natCast, Nat.zero_add]; exact flC_at RF.len h j v hv
theorem rq_at {l : List (Ky × RQ)} {i : Nat} {a : Ky × RQ} (h : l[i]? = some a) (j : Nat) {v : Value} (hv : (RQ.cs a)[j]? = some v) : (flC RQ.cs l)[0 + ((i : Nat) : Int).toNat * 7 + j]? = some v := by
  rw [Int.toNat_natCast, Nat.zero_add]; exact flC_at RQ.len h j v hv
theorem rf_set {l : List RF} {i o : Nat} {a a' : RF} {vs : List Value} (h : l[i]? = some a) (ho : o + vs.length ≤ 7) (ha : RF.cs a' = (RF.cs a).take o ++ vs ++ (RF.cs a).drop (o + vs.length)) :
    (flC RF.cs l).take (0 + ((i : Nat) : Int).toNat * 7 + o) ++ vs ++ (flC RF.cs l).drop (0 + ((i : Nat) : Int).toNat * 7 + o + vs.length) = flC RF.cs (l.set i a') := by
  rw [Int.toNat_natCast, Nat.zero_add]; exact flC_set RF.len h ho ha
theorem rq_set {l : List (Ky × RQ)} {i o : Nat} {a a' : Ky × RQ} {vs : List Value} (h : l[i]? = some a) (ho : o + vs.length ≤ 7) (ha : RQ.cs a' = (RQ.cs a).take o ++ vs ++ (RQ.cs a).drop (o + vs.length)) :
    (flC RQ.cs l).take (0 + ((i : Nat) : Int).toNat * 7 + o) ++ vs ++ (flC RQ.cs l).drop (0 + ((i : Nat) : Int).toNat * 7 + o + vs.length) = flC RQ.cs (l.set i a') := by
  rw [Int.toNat_natCast, Nat.zero_add]; exact flC_set RQ.len h ho ha
theorem rf_room {l : List RF} {i o : Nat} {a : RF} (h : l[i]? = some a) (ho : o ≤ 7) : 0 + ((i : Nat) : Int).toNat * 7 + o ≤ (flC RF.cs l).length := by
  have hi := (List.getElem?_eq_some_iff.1 h).1
  rw [flC_len RF.len, Int.toNat_natCast]
  have : (i + 1) * 7 ≤ l.length * 7 := Nat.mul_le_mul_right 7 hi
  omega
theorem rq_room {l : List (Ky × RQ)} {i o : Nat} {a : Ky × RQ} (h : l[i]? = some a) (ho : o ≤ 7) : 0 + ((i : Nat) : Int).toNat * 7 + o ≤ (flC RQ.cs l).length := by
  have hi := (List.getElem?_eq_some_iff.1 h).1
  rw [flC_len RQ.len, Int.toNat_natCast]
  have : (i + 1) * 7 ≤ l.length * 7 := Nat.mul_le_mul_right 7 hi
  omega
def kIdx {β : Type} : List (Ky × β) → Ky → Option Nat
  | [], _ => none
  | p :: l, k => if p.1 = k then some 0 else (kIdx l k).map (· + 1)
def idxZ : Option Nat → Int
  | some i => (i : Nat)
  | none => -1
theorem kIdx_some {β : Type} : ∀ {l : List (Ky × β)} {k : Ky} {i : Nat}, kIdx l k = some i → ∃ v, l[i]? = some (k, v) ∧ aGet l k = some v ∧ ∀ v', aSet l k v' = l.set i (k, v')
  | [], _, _, h => by cases h
  | p :: l, k, i, h => by
    rw [kIdx] at h
    split at h
    · rename_i e
      cases h
      refine ⟨p.2, by rw [← e]; rfl, by rw [aGet, if_pos e], fun v' => by rw [aSet, if_pos e]; rfl⟩
    · rename_i e
      obtain ⟨j, hj, rfl⟩ := Option.map_eq_some_iff.1 h
      obtain ⟨v, h1, h2, h3⟩ := kIdx_some hj
      exact ⟨v, by simpa using h1, by rw [aGet, if_neg e]; exact h2, fun v' => by rw [aSet, if_neg e, h3]; rfl⟩
theorem kIdx_none {β : Type} : ∀ {l : List (Ky × β)} {k : Ky}, kIdx l k = none → aGet l k = none ∧ ∀ v, aSet l k v = l ++ [(k, v)]
  | [], k, _ => ⟨rfl, fun _ => rfl⟩
  | p :: l, k, h => by
    rw [kIdx] at h
    split at h
    · cases h
    · rename_i e
      obtain ⟨h1, h2⟩ := kIdx_none (Option.map_eq_none_iff.1 h)
      exact ⟨by rw [aGet, if_neg e]; exact h1, fun v => by rw [aSet, if_neg e, h2]; rfl⟩
theorem kIdx_first {β : Type} : ∀ {l : List (Ky × β)} {k : Ky} {i : Nat} {p : Ky × β}, l[i]? = some p → p.1 = k → (∀ q, q ∈ l.take i → q.1 ≠ k) → kIdx l k = some i
  | a :: l, k, 0, p, h, he, _ => by
    simp at h; subst h
    rw [kIdx, if_pos he]
  | a :: l, k, i + 1, p, h, he, hn => by
    have h1 : a.1 ≠ k := hn a (by rw [List.take_succ_cons]; exact .head _)
    rw [kIdx, if_neg h1, kIdx_first (i := i) (by simpa using h) he fun q hq => hn q (by rw [List.take_succ_cons]; exact .tail _ hq)]
    rfl
theorem kIdx_never {β : Type} : ∀ {l : List (Ky × β)} {k : Ky}, (∀ q, q ∈ l → q.1 ≠ k) → kIdx l k = none
  | [], _, _ => rfl
  | a :: l, k, h => by
    rw [kIdx, if_neg (h a (.head _)), kIdx_never fun q hq => h q (.tail _ hq)]; rfl
theorem frIdx_first : ∀ {l : List Fr} {k : Ky} {i : Nat} {f : Fr}, l[i]? = some f → f.key = k → (∀ g, g ∈ l.take i → g.key ≠ k) → frIdx l k = some i
  | a :: l, k, 0, p, h, he, _ => by
    simp at h; subst h
    rw [frIdx, if_pos he]
  | a :: l, k, i + 1, p, h, he, hn => by
    have h1 : a.key ≠ k := hn a (by rw [List.take_succ_cons]; exact .head _)
    rw [frIdx, if_neg h1, frIdx_first (i := i) (by simpa using h) he fun q hq => hn q (by rw [List.take_succ_cons]; exact .tail _ hq)]
    rfl
theorem frIdx_never : ∀ {l : List Fr} {k : Ky}, (∀ q, q ∈ l → q.key ≠ k) → frIdx l k = none
  | [], _, _ => rfl
  | a :: l, k, h => by
    rw [frIdx, if_neg (h a (.head _)), frIdx_never fun q hq => h q (.tail _ hq)]; rfl
structure KpR (n : Nat) (X Y : RX) : Prop where
  kp : ∀ (i : Nat) x, i < n → X.fs[i]? = some x → ∃ y, Y.fs[i]? = some y ∧ y.oa = x.oa ∧ y.ca = x.ca ∧ y.f.tr = x.f.tr ∧ y.f.key = x.f.key
theorem KpR.refl (n : Nat) (X : RX) : KpR n X X := ⟨fun i x _ h => ⟨x, h, rfl, rfl, rfl, rfl⟩⟩
theorem KpR.of {n : Nat} {X Y : RX} (h : Y.fs = X.fs) : KpR n X Y := ⟨fun i x _ hx => ⟨x, by rw [h]; exact hx, rfl, rfl, rfl, rfl⟩⟩
theorem KpR.trans {n : Nat} {X Y Z : RX} (h : KpR n X Y) (h' : KpR n Y Z) : KpR n X Z := ⟨fun i x hi hx => by
  obtain ⟨y, a1, a2, a3, a4, a5⟩ := h.kp i x hi hx
  obtain ⟨z, b1, b2, b3, b4, b5⟩ := h'.kp i y hi a1
  exact ⟨z, b1, b2.trans a2, b3.trans a3, b4.trans a4, b5.trans a5⟩⟩
theorem KpR.le {n m : Nat} {X Y : RX} (h : KpR n X Y) (hm : m ≤ n) : KpR m X Y := ⟨fun i x hi hx => h.kp i x (by omega) hx⟩
theorem KpR.set {n b : Nat} {X : RX} {x y : RF} (hx : X.fs[b]? = some x) (h1 : y.oa = x.oa) (h2 : y.ca = x.ca) (h3 : y.f.tr = x.f.tr) (h4 : y.f.key = x.f.key) : KpR n X { X with fs := X.fs.set b y } := ⟨fun i z hi hz => by
  show ∃ y', (X.fs.set b y)[i]? = some y' ∧ _
  rw [List.getElem?_set]
  by_cases e : b = i
  · subst e
    rw [hx] at hz; cases hz
    rw [if_pos rfl, if_pos (List.getElem?_eq_some_iff.1 hx).1]
    exact ⟨y, rfl, h1, h2, h3, h4⟩
  · rw [if_neg e]; exact ⟨z, hz, rfl, rfl, rfl, rfl⟩⟩
theorem KpR.above {n b : Nat} {X : RX} {y : RF} (hb : n ≤ b) : KpR n X { X with fs := X.fs.set b y } := ⟨fun i z hi hz => ⟨z, by
  show (X.fs.set b y)[i]? = _
  rw [List.getElem?_set, if_neg (by omega)]; exact hz, rfl, rfl, rfl, rfl⟩⟩
theorem ren_at {X : RX} {j : Nat} {x : RF} (h : X.fs[j]? = some x) : X.en.st[j]? = some x.f := by show (X.fs.map RF.f)[j]? = _; rw [List.getElem?_map, h]; rfl
theorem ren_len (X : RX) : X.en.st.length = X.fs.length := List.length_map _
theorem set_upd {α β : Type} (g : α → β) {l : List α} {b : Nat} {x y : α} {F : β → β} (hx : l[b]? = some x) (hF : F (g x) = g y) : (l.set b y).map g = upd (l.map g) b F := by
  refine List.ext_getElem? fun i => ?_
  rw [upd_get, List.getElem?_map, List.getElem?_set, List.getElem?_map]
  by_cases e : b = i
  · subst e
    rw [if_pos rfl, if_pos (List.getElem?_eq_some_iff.1 hx).1, if_pos rfl, hx]
    show some (g y) = some (F (g x)); rw [hF]
  · rw [if_neg e, if_neg e]
theorem ren_set {X : RX} {b : Nat} {x y : RF} {F : Fr → Fr} (hx : X.fs[b]? = some x) (hF : F x.f = y.f) : ({ X with fs := X.fs.set b y } : RX).en = X.en.mod b F := by
  show (⟨X.inp, _, X.comp, X.gets, X.fuel, false, (X.fs.set b y).map RF.f⟩ : En) = _
  rw [set_upd RF.f hx hF]; rfl
theorem rqs_get (X : RX) (k : Ky) : aGet X.en.qs k = (aGet X.qs k).map (fun p => p.q) := by
  have : ∀ (l : List (Ky × RQ)) (k : Ky), aGet (l.map fun p => (p.1, p.2.q)) k = (aGet l k).map fun p => p.q := by
    intro l k
    induction l with
    | nil => rfl
    | cons p l ih =>
      simp only [List.map_cons, aGet]
      by_cases e : p.1 = k
      · rw [if_pos e, if_pos e]; rfl
      · rw [if_neg e, if_neg e]; exact ih
  exact this X.qs k
theorem rqs_set (l : List (Ky × RQ)) (k : Ky) (v : RQ) : (aSet l k v).map (fun p => (p.1, p.2.q)) = aSet (l.map fun p => (p.1, p.2.q)) k v.q := by
  induction l with
  | nil => rfl
  | cons p l ih =>
    simp only [List.map_cons, aSet]
    by_cases e : p.1 = k
    · rw [if_pos e, if_pos e]; rfl
    · rw [if_neg e, if_neg e, List.map_cons, ih]
def ByR (X : RX) (by_ : Option Nat) (bv : Int) : Prop := (by_ = none ∧ bv = -1 ∧ X.fs = []) ∨ ∃ b x, by_ = some b ∧ X.fs[b]? = some x ∧ bv = (b : Nat)
structure ROk (U : List Ky) (d c : Nat) (X : RX) : Prop where
  wk : Wk U X.en
  dep : U.length + 1 ≤ X.fs.length + d
  rich : Rich U c X.en
  all : AllOk X.en
  su : X.comp.length + X.fuel ≤ 1099511627776
  qu : QU U X.en
theorem ROk.pos {U : List Ky} {d c : Nat} {X : RX} (h : ROk U d c X) : 0 < d := by
  have h1 := h.wk.len
  rw [ren_len] at h1
  have := h.dep; omega
theorem ROk.ql {U : List Ky} {d c : Nat} {X : RX} (h : ROk U d c X) : X.qs.length ≤ U.length := by
  have := h.qu.len
  rwa [show X.en.qs.length = X.qs.length from List.length_map _] at this
end Go.GL

namespace Go.Proofs.Ythefimaaeilefaa
open Go.GL
set_option linter.unusedVariables false
theorem va_bv49_1 (x1 : Int) : BuildV Try.prog 49 [(1, .int .i64 x1)] (.agg #[S [], .int .i64 x1]) := fun w => by kernel_rfl
theorem va_ta49 : tyAgg Try.prog 49 2 = true := by kernel_rfl
theorem va_tf105_0 : fieldOff Try.prog 105 0 0 = true := by kernel_rfl
theorem va_tf105_1 : fieldOff Try.prog 105 1 1 = true := by kernel_rfl
theorem va_tf105_3 : fieldOff Try.prog 105 3 4 = true := by kernel_rfl
theorem va_tf116_0 : fieldOff Try.prog 116 0 0 = true := by kernel_rfl
theorem va_tf51_0 : fieldOff Try.prog 51 0 0 = true := by kernel_rfl
theorem va_tf76_1 : fieldOff Try.prog 76 1 1 = true := by kernel_rfl
theorem va_tf76_2 : fieldOff Try.prog 76 2 2 = true := by kernel_rfl
theorem va_tf76_7 : fieldOff Try.prog 76 7 7 = true := by kernel_rfl
theorem va_tl46 : tySlice Try.prog 46 51 = true := by kernel_rfl
theorem va_tl73 : tySlice Try.prog 73 105 = true := by kernel_rfl
theorem va_tl74 : tySlice Try.prog 74 116 = true := by kernel_rfl
theorem va_ts4 : tyScalar Try.prog 4 = true := by kernel_rfl
theorem va_ts46 : tyScalar Try.prog 46 = true := by kernel_rfl
theorem va_ts73 : tyScalar Try.prog 73 = true := by kernel_rfl
theorem va_ts74 : tyScalar Try.prog 74 = true := by kernel_rfl
theorem va_ts9 : tyScalar Try.prog 9 = true := by kernel_rfl
theorem va_tz105 : tySize Try.prog 105 7 = true := by kernel_rfl
theorem va_tz116 : tySize Try.prog 116 7 = true := by kernel_rfl
theorem va_tz49 : tySize Try.prog 49 2 = true := by kernel_rfl
theorem va_tz51 : tySize Try.prog 51 3 = true := by kernel_rfl
theorem rinput_spec {m : Nat} {bud : Int} {ia : Option Addr} {ic : Nat} {X : RX} {M : List HP} {F : List Fact} {k : Ky} (hin : ArrF ia (inA X.inp) ∈ F) (hl : X.inp.length ≤ 1000) : Ctr Try.prog 49 [PtV m, S k] (REB m bud ia ic (X) :: M) F Unit (fun _ => I (idxZ (kIdx X.inp k))) (fun _ => REB m bud ia ic (X) :: M) (fun _ => F) := by
  refine Ctr.body Try.func49 rfl rfl ?_
  refine TR.seq ?_
  refine TR.region ?_
  refine RL.assign rfl rfl rfl ?_
  refine RL.nil ?_
  refine NX.seq ?_
  refine TR.seq ?_
  refine TR.seq ?_
  refine TR.open (fun w hw => (St.exOpen (show St w (Ex _ :: _) _ from hw))) (fun h => ?_)
  refine TR.region ?_
  refine RL.assign rfl rfl rfl ?_
  refine RL.nil ?_
  refine NX.seq ?_
  refine TR.block ?_
  refine TR.loopP (ι := Nat) (fun i => i ≤ X.inp.length ∧ ∀ q, q ∈ X.inp.take i → q.1 ≠ k) (fun i => [(0, PtV m), (1, S k), (5, I (i : Nat))]) (fun i => Box m 76 [I bud, .slice ia X.inp.length ic, .slice h.la X.qs.length h.lc, .slice h.ca X.comp.length h.cc, I X.gets, I (X.fuel : Nat), .bool false, .slice h.sa X.fs.length h.sc] :: OwnSl 105 7 h.la X.qs.length h.lc (flC RQ.cs X.qs) :: OwnSl 9 1 h.ca X.comp.length h.cc (coC X.comp) :: OwnSl 116 7 h.sa X.fs.length h.sc (flC RF.cs X.fs) :: M) (fun i => F) (fun i => (X.inp.length - i)) 0 ⟨Nat.zero_le _, fun q hq => by simp at hq⟩ ⟨rfl, rfl, rfl, trivial⟩ (fun w hw => (hw.to 4 [0, 1, 2, 3] 0 [] rfl)) (fun i hi0 => ?_)
  refine TR.seq ?_
  refine TR.seq ?_
  refine TR.region ?_
  refine RL.move rfl rfl rfl ?_
  refine RL.move rfl rfl rfl ?_
  refine RL.nilCheck rfl rfl rfl ?_
  refine RL.fieldAddr rfl va_tf76_1 rfl rfl ?_
  refine RL.load1 0 rfl va_ts46 rfl rfl rfl rfl ?_
  refine RL.lenSlice rfl va_tl46 rfl rfl ?_
  refine RL.bin rfl rfl rfl BinV.lss rfl ?_
  refine RL.nil ?_
  refine NX.seq ?_
  refine TR.cond rfl (fun h1 => ?_) (fun h1 => ?_)
  · skip
    have hi : i < X.inp.length := by have := of_decide_eq_true h1; omega
    obtain ⟨p, hp⟩ : ∃ p, X.inp[i]? = some p := ⟨_, List.getElem?_eq_getElem hi⟩
    refine TR.openP (open_arr hin (inA_ne hp)) (fun x hx => ?_)
    refine TR.skip ?_
    refine NX.seq ?_
    refine TR.seq ?_
    refine TR.block ?_
    refine TR.seq ?_
    refine TR.region ?_
    refine RL.move rfl rfl rfl ?_
    refine RL.nilCheck rfl rfl rfl ?_
    refine RL.fieldAddr rfl va_tf76_1 rfl rfl ?_
    refine RL.load1 0 rfl va_ts46 rfl rfl rfl rfl ?_
    refine RL.move rfl rfl rfl ?_
    refine RL.indexAddr rfl va_tl46 va_tz51 (congrArg (fun a => some (Value.slice a _ _)) hx) rfl (by omega) (by omega) rfl ?_
    refine RL.fieldAddr rfl va_tf51_0 rfl rfl ?_
    refine RL.loadF rfl rfl (fun w K hF => run_loadCell1 (j := ((i : Nat) : Int).toNat * 3 + 0) (hF (CellsF x.1 x.2 (inA X.inp)) (.head _)) va_ts9 (by rw [Int.toNat_natCast, Nat.add_zero]; exact (inA_at hp).1)) rfl ?_
    refine RL.move rfl rfl rfl ?_
    refine RL.bin rfl rfl rfl BinV.eqlS rfl ?_
    refine RL.nil ?_
    refine NX.seq ?_
    refine TR.cond rfl (fun h2 => ?_) (fun h2 => ?_)
    · skip
      have h24 := of_decide_eq_true h2
      refine TR.seq ?_
      refine TR.region ?_
      refine RL.move rfl rfl rfl ?_
      refine RL.assign rfl rfl rfl ?_
      refine RL.nil ?_
      refine NX.seq ?_
      refine TR.ret ?_
      refine NX.retBlock ?_
      refine NX.retThen ?_
      refine NX.retThen ?_
      refine NX.retBlock ?_
      refine NX.retThen ?_
      exact NX.ret1 () rfl rfl (by rw [kIdx_first hp h24 hi0.2]; rfl) (fun w hw => St.rebClose (X) h rfl rfl rfl rfl rfl rfl rfl (hw.to 4 [0, 1, 2, 3] 1 [] rfl))
    · skip
      have h24 := of_decide_eq_false h2
      refine TR.skip ?_
      refine NX.off ?_
      refine NX.seq ?_
      refine TR.region ?_
      refine RL.move rfl rfl rfl ?_
      refine RL.bin rfl rfl rfl (BinV.add ((i + 1 : Nat) : Int) (by omega) (by omega) (by omega)) rfl ?_
      refine RL.assign rfl rfl rfl ?_
      refine RL.nil ?_
      refine NX.roundP (i + 1) ⟨by omega, fun q hq => by
        rw [List.take_add_one, hp] at hq
        rcases List.mem_append.1 hq with hq | hq
        · exact hi0.2 q hq
        · simp at hq; rw [hq]; exact h24⟩ (by omega) ⟨rfl, rfl, rfl, trivial⟩ (fun w hw => (hw.to 4 [0, 1, 2, 3] 1 [] rfl))
  · skip
    have hi : X.inp.length ≤ i := by have := of_decide_eq_false h1; omega
    refine TR.exit ?_
    refine NX.exitThen ?_
    refine NX.exitThen ?_
    refine NX.exitHere ?_
    refine NX.seq ?_
    refine TR.seq ?_
    refine TR.region ?_
    refine RL.assign rfl rfl rfl ?_
    refine RL.nil ?_
    refine NX.seq ?_
    refine TR.ret ?_
    exact NX.ret1 () rfl rfl (by rw [kIdx_never (l := X.inp) (fun q hq => hi0.2 q (by rw [List.take_of_length_le hi]; exact hq))]; rfl) (fun w hw => St.rebClose (X) h rfl rfl rfl rfl rfl rfl rfl (hw.to 4 [0, 1, 2, 3] 0 [] rfl))
theorem rfind_spec {m : Nat} {bud : Int} {ia : Option Addr} {ic : Nat} {X : RX} {M : List HP} {F : List Fact} {k : Ky} (hl : X.qs.length ≤ 1000) : Ctr Try.prog 50 [PtV m, S k] (REB m bud ia ic (X) :: M) F Unit (fun _ => I (idxZ (kIdx X.qs k))) (fun _ => REB m bud ia ic (X) :: M) (fun _ => F) := by
  refine Ctr.body Try.func50 rfl rfl ?_
  refine TR.seq ?_
  refine TR.region ?_
  refine RL.assign rfl rfl rfl ?_
  refine RL.nil ?_
  refine NX.seq ?_
  refine TR.seq ?_
  refine TR.seq ?_
  refine TR.open (fun w hw => (St.exOpen (show St w (Ex _ :: _) _ from hw))) (fun h => ?_)
  refine TR.region ?_
  refine RL.assign rfl rfl rfl ?_
  refine RL.nil ?_
  refine NX.seq ?_
  refine TR.block ?_
  refine TR.loopP (ι := Nat) (fun i => i ≤ X.qs.length ∧ ∀ q, q ∈ X.qs.take i → q.1 ≠ k) (fun i => [(0, PtV m), (1, S k), (5, I (i : Nat))]) (fun i => Box m 76 [I bud, .slice ia X.inp.length ic, .slice h.la X.qs.length h.lc, .slice h.ca X.comp.length h.cc, I X.gets, I (X.fuel : Nat), .bool false, .slice h.sa X.fs.length h.sc] :: OwnSl 105 7 h.la X.qs.length h.lc (flC RQ.cs X.qs) :: OwnSl 9 1 h.ca X.comp.length h.cc (coC X.comp) :: OwnSl 116 7 h.sa X.fs.length h.sc (flC RF.cs X.fs) :: M) (fun i => F) (fun i => (X.qs.length - i)) 0 ⟨Nat.zero_le _, fun q hq => by simp at hq⟩ ⟨rfl, rfl, rfl, trivial⟩ (fun w hw => (hw.to 4 [0, 1, 2, 3] 0 [] rfl)) (fun i hi0 => ?_)
  refine TR.seq ?_
  refine TR.seq ?_
  refine TR.region ?_
  refine RL.move rfl rfl rfl ?_
  refine RL.move rfl rfl rfl ?_
  refine RL.nilCheck rfl rfl rfl ?_
  refine RL.fieldAddr rfl va_tf76_2 rfl rfl ?_
  refine RL.load1 0 rfl va_ts73 rfl rfl rfl rfl ?_
  refine RL.lenSlice rfl va_tl73 rfl rfl ?_
  refine RL.bin rfl rfl rfl BinV.lss rfl ?_
  refine RL.nil ?_
  refine NX.seq ?_
  refine TR.cond rfl (fun h1 => ?_) (fun h1 => ?_)
  · skip
    have hi : i < X.qs.length := by have := of_decide_eq_true h1; omega
    obtain ⟨p, hp⟩ : ∃ p, X.qs[i]? = some p := ⟨_, List.getElem?_eq_getElem hi⟩
    refine TR.openP (fun w hw => own_at (i := 1) rfl (rq_ne hp) hw) (fun g hg => ?_)
    refine TR.skip ?_
    refine NX.seq ?_
    refine TR.seq ?_
    refine TR.block ?_
    refine TR.seq ?_
    refine TR.region ?_
    refine RL.move rfl rfl rfl ?_
    refine RL.nilCheck rfl rfl rfl ?_
    refine RL.fieldAddr rfl va_tf76_2 rfl rfl ?_
    refine RL.load1 0 rfl va_ts73 rfl rfl rfl rfl ?_
    refine RL.move rfl rfl rfl ?_
    refine RL.indexAddr rfl va_tl73 va_tz105 (congrArg (fun a => some (Value.slice a _ _)) hg) rfl (by omega) (by omega) rfl ?_
    refine RL.fieldAddr rfl va_tf105_0 rfl rfl ?_
    refine RL.loadS rfl rfl (own_one (i := 1) rfl hg va_ts9 (rq_at hp 0 rfl)) rfl ?_
    refine RL.move rfl rfl rfl ?_
    refine RL.bin rfl rfl rfl BinV.eqlS rfl ?_
    refine RL.nil ?_
    refine NX.seq ?_
    refine TR.cond rfl (fun h2 => ?_) (fun h2 => ?_)
    · skip
      have h24 := of_decide_eq_true h2
      refine TR.seq ?_
      refine TR.region ?_
      refine RL.move rfl rfl rfl ?_
      refine RL.assign rfl rfl rfl ?_
      refine RL.nil ?_
      refine NX.seq ?_
      refine TR.ret ?_
      refine NX.retBlock ?_
      refine NX.retThen ?_
      refine NX.retThen ?_
      refine NX.retBlock ?_
      refine NX.retThen ?_
      exact NX.ret1 () rfl rfl (by rw [kIdx_first hp h24 hi0.2]; rfl) (fun w hw => St.rebClose (X) h rfl rfl rfl rfl rfl rfl rfl (hw.to 4 [0, 1, 2, 3] 0 [] rfl))
    · skip
      have h24 := of_decide_eq_false h2
      refine TR.skip ?_
      refine NX.off ?_
      refine NX.seq ?_
      refine TR.region ?_
      refine RL.move rfl rfl rfl ?_
      refine RL.bin rfl rfl rfl (BinV.add ((i + 1 : Nat) : Int) (by omega) (by omega) (by omega)) rfl ?_
      refine RL.assign rfl rfl rfl ?_
      refine RL.nil ?_
      refine NX.roundP (i + 1) ⟨by omega, fun q hq => by
        rw [List.take_add_one, hp] at hq
        rcases List.mem_append.1 hq with hq | hq
        · exact hi0.2 q hq
        · simp at hq; rw [hq]; exact h24⟩ (by omega) ⟨rfl, rfl, rfl, trivial⟩ (fun w hw => (hw.to 4 [0, 1, 2, 3] 0 [] rfl))
  · skip
    have hi : X.qs.length ≤ i := by have := of_decide_eq_false h1; omega
    refine TR.exit ?_
    refine NX.exitThen ?_
    refine NX.exitThen ?_
    refine NX.exitHere ?_
    refine NX.seq ?_
    refine TR.seq ?_
    refine TR.region ?_
    refine RL.assign rfl rfl rfl ?_
    refine RL.nil ?_
    refine NX.seq ?_
    refine TR.ret ?_
    exact NX.ret1 () rfl rfl (by rw [kIdx_never (l := X.qs) (fun q hq => hi0.2 q (by rw [List.take_of_length_le hi]; exact hq))]; rfl) (fun w hw => St.rebClose (X) h rfl rfl rfl rfl rfl rfl rfl (hw.to 4 [0, 1, 2, 3] 0 [] rfl))
theorem rfr_first {l : List RF} {k : Ky} {i : Nat} {p : RF} (h : l[i]? = some p) (he : p.f.key = k) (hn : ∀ q, q ∈ l.take i → q.f.key ≠ k) : frIdx (l.map RF.f) k = some i :=
  frIdx_first (f := p.f) (by rw [List.getElem?_map, h]; rfl) he fun g hg => by
    rw [← List.map_take] at hg
    obtain ⟨x, hx, rfl⟩ := List.mem_map.1 hg
    exact hn x hx
theorem rframe_spec {m : Nat} {bud : Int} {ia : Option Addr} {ic : Nat} {X : RX} {M : List HP} {F : List Fact} {k : Ky} (hl : X.fs.length ≤ 1000) : Ctr Try.prog 66 [PtV m, S k] (REB m bud ia ic (X) :: M) F Unit (fun _ => I (idxZ (frIdx (X.fs.map RF.f) k))) (fun _ => REB m bud ia ic (X) :: M) (fun _ => F) := by
  refine Ctr.body Try.func66 rfl rfl ?_
  refine TR.seq ?_
  refine TR.region ?_
  refine RL.assign rfl rfl rfl ?_
  refine RL.nil ?_
  refine NX.seq ?_
  refine TR.seq ?_
  refine TR.seq ?_
  refine TR.open (fun w hw => (St.exOpen (show St w (Ex _ :: _) _ from hw))) (fun h => ?_)
  refine TR.region ?_
  refine RL.assign rfl rfl rfl ?_
  refine RL.nil ?_
  refine NX.seq ?_
  refine TR.block ?_
  refine TR.loopP (ι := Nat) (fun i => i ≤ X.fs.length ∧ ∀ q, q ∈ X.fs.take i → q.f.key ≠ k) (fun i => [(0, PtV m), (1, S k), (5, I (i : Nat))]) (fun i => Box m 76 [I bud, .slice ia X.inp.length ic, .slice h.la X.qs.length h.lc, .slice h.ca X.comp.length h.cc, I X.gets, I (X.fuel : Nat), .bool false, .slice h.sa X.fs.length h.sc] :: OwnSl 105 7 h.la X.qs.length h.lc (flC RQ.cs X.qs) :: OwnSl 9 1 h.ca X.comp.length h.cc (coC X.comp) :: OwnSl 116 7 h.sa X.fs.length h.sc (flC RF.cs X.fs) :: M) (fun i => F) (fun i => (X.fs.length - i)) 0 ⟨Nat.zero_le _, fun q hq => by simp at hq⟩ ⟨rfl, rfl, rfl, trivial⟩ (fun w hw => (hw.to 4 [0, 1, 2, 3] 0 [] rfl)) (fun i hi0 => ?_)
  refine TR.seq ?_
  refine TR.seq ?_
  refine TR.region ?_
  refine RL.move rfl rfl rfl ?_
  refine RL.move rfl rfl rfl ?_
  refine RL.nilCheck rfl rfl rfl ?_
  refine RL.fieldAddr rfl va_tf76_7 rfl rfl ?_
  refine RL.load1 0 rfl va_ts74 rfl rfl rfl rfl ?_
  refine RL.lenSlice rfl va_tl74 rfl rfl ?_
  refine RL.bin rfl rfl rfl BinV.lss rfl ?_
  refine RL.nil ?_
  refine NX.seq ?_
  refine TR.cond rfl (fun h1 => ?_) (fun h1 => ?_)
  · skip
    have hi : i < X.fs.length := by have := of_decide_eq_true h1; omega
    obtain ⟨p, hp⟩ : ∃ p, X.fs[i]? = some p := ⟨_, List.getElem?_eq_getElem hi⟩
    refine TR.openP (fun w hw => own_at (i := 3) rfl (rf_ne hp) hw) (fun g hg => ?_)
    refine TR.skip ?_
    refine NX.seq ?_
    refine TR.seq ?_
    refine TR.block ?_
    refine TR.seq ?_
    refine TR.region ?_
    refine RL.move rfl rfl rfl ?_
    refine RL.nilCheck rfl rfl rfl ?_
    refine RL.fieldAddr rfl va_tf76_7 rfl rfl ?_
    refine RL.load1 0 rfl va_ts74 rfl rfl rfl rfl ?_
    refine RL.move rfl rfl rfl ?_
    refine RL.indexAddr rfl va_tl74 va_tz116 (congrArg (fun a => some (Value.slice a _ _)) hg) rfl (by omega) (by omega) rfl ?_
    refine RL.fieldAddr rfl va_tf116_0 rfl rfl ?_
    refine RL.loadS rfl rfl (own_one (i := 3) rfl hg va_ts9 (rf_at hp 0 rfl)) rfl ?_
    refine RL.move rfl rfl rfl ?_
    refine RL.bin rfl rfl rfl BinV.eqlS rfl ?_
    refine RL.nil ?_
    refine NX.seq ?_
    refine TR.cond rfl (fun h2 => ?_) (fun h2 => ?_)
    · skip
      have h24 := of_decide_eq_true h2
      refine TR.seq ?_
      refine TR.region ?_
      refine RL.move rfl rfl rfl ?_
      refine RL.assign rfl rfl rfl ?_
      refine RL.nil ?_
      refine NX.seq ?_
      refine TR.ret ?_
      refine NX.retBlock ?_
      refine NX.retThen ?_
      refine NX.retThen ?_
      refine NX.retBlock ?_
      refine NX.retThen ?_
      exact NX.ret1 () rfl rfl (by rw [rfr_first hp h24 hi0.2]; rfl) (fun w hw => St.rebClose (X) h rfl rfl rfl rfl rfl rfl rfl (hw.to 4 [0, 1, 2, 3] 0 [] rfl))
    · skip
      have h24 := of_decide_eq_false h2
      refine TR.skip ?_
      refine NX.off ?_
      refine NX.seq ?_
      refine TR.region ?_
      refine RL.move rfl rfl rfl ?_
      refine RL.bin rfl rfl rfl (BinV.add ((i + 1 : Nat) : Int) (by omega) (by omega) (by omega)) rfl ?_
      refine RL.assign rfl rfl rfl ?_
      refine RL.nil ?_
      refine NX.roundP (i + 1) ⟨by omega, fun q hq => by
        rw [List.take_add_one, hp] at hq
        rcases List.mem_append.1 hq with hq | hq
        · exact hi0.2 q hq
        · simp at hq; rw [hq]; exact h24⟩ (by omega) ⟨rfl, rfl, rfl, trivial⟩ (fun w hw => (hw.to 4 [0, 1, 2, 3] 0 [] rfl))
  · skip
    have hi : X.fs.length ≤ i := by have := of_decide_eq_false h1; omega
    refine TR.exit ?_
    refine NX.exitThen ?_
    refine NX.exitThen ?_
    refine NX.exitHere ?_
    refine NX.seq ?_
    refine TR.seq ?_
    refine TR.region ?_
    refine RL.assign rfl rfl rfl ?_
    refine RL.nil ?_
    refine NX.seq ?_
    refine TR.ret ?_
    exact NX.ret1 () rfl rfl (by rw [frIdx_never (l := X.fs.map RF.f) (fun q hq => by obtain ⟨x, hx, rfl⟩ := List.mem_map.1 hq; exact hi0.2 x (by rw [List.take_of_length_le hi]; exact hx))]; rfl) (fun w hw => St.rebClose (X) h rfl rfl rfl rfl rfl rfl rfl (hw.to 4 [0, 1, 2, 3] 0 [] rfl))
theorem ranswer_spec {x : Ky × RQ} {M : List HP} {F : List Fact} : Ctr Try.prog 67 [.agg (RQ.cs x).toArray] M F Unit (fun _ => anV x.2.q.ans) (fun _ => M) (fun _ => F) := by
  refine Ctr.body Try.func67 rfl rfl ?_
  refine TR.seq ?_
  refine TR.region ?_
  refine RL.boxA rfl rfl rfl (fun b1 => ?_)
  refine RL.allocA rfl (Try.zeroValue49) rfl (fun b2 => ?_)
  refine RL.nil ?_
  refine NX.seq ?_
  refine TR.seq ?_
  refine TR.seq ?_
  refine TR.region ?_
  refine RL.fieldAddr rfl va_tf105_3 rfl rfl ?_
  refine RL.load1 1 rfl va_ts4 rfl rfl rfl rfl ?_
  refine RL.nil ?_
  refine NX.seq ?_
  refine TR.cond rfl (fun h3 => ?_) (fun h3 => ?_)
  · skip
    have hc : x.2.q.cyc = true := h3
    refine TR.seq ?_
    refine TR.region ?_
    refine RL.build rfl rfl (va_bv49_1 _) rfl ?_
    refine RL.storeA 0 rfl rfl rfl rfl va_tz49 rfl rfl ?_
    refine RL.nil ?_
    refine NX.seq ?_
    refine TR.ret ?_
    refine NX.retThen ?_
    exact NX.retC (j := 0) () rfl rfl rfl va_ta49 (by show _ = anV x.2.q.ans; unfold Qy.ans; rw [if_pos hc]; rfl) (fun w hw => (hw.to 2 [] 0 [] rfl))
  · skip
    have hc : ¬ x.2.q.cyc = true := by rw [h3]; decide
    refine TR.skip ?_
    refine NX.seq ?_
    refine TR.seq ?_
    refine TR.region ?_
    refine RL.fieldAddr rfl va_tf105_1 rfl rfl ?_
    refine RL.loadS rfl rfl (box_agg (vs := [_, _]) (i := 1) rfl va_ta49 (agg2 rfl rfl)) rfl ?_
    refine RL.storeA 0 rfl rfl rfl rfl va_tz49 rfl rfl ?_
    refine RL.nil ?_
    refine NX.seq ?_
    refine TR.ret ?_
    exact NX.retC (j := 0) () rfl rfl rfl va_ta49 (by show _ = anV x.2.q.ans; unfold Qy.ans; rw [if_neg hc]; rfl) (fun w hw => (hw.to 2 [] 0 [] rfl))
end Go.Proofs.Ythefimaaeilefaa
