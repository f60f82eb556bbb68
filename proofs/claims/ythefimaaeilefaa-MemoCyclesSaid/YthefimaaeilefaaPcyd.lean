/- The law MemoCycles holds: whatever the input, it returns true and the input reads as it did. No condition. -/
import Derived.Test.YthefimaaeilefaaPcyc
set_option linter.unusedVariables false
set_option linter.unusedSimpArgs false
namespace Go.Proofs.Ythefimaaeilefaa
open Go.GL
set_option linter.unusedVariables false
theorem aSet_same {β : Type} : ∀ {l : List (Ky × β)} {k : Ky} {v : β}, aGet l k = some v → aSet l k v = l
  | p :: l, k, v, h => by
    rw [aGet] at h
    rw [aSet]
    split at h
    · rename_i e; cases h; subst e; rw [if_pos rfl]
    · rename_i e; rw [if_neg e, aSet_same h]
theorem setE_inp (k : Ky) (v : List UInt8) (e : En) : (setE k v e).inp = aSet e.inp k v := by
  unfold setE
  split
  · rename_i h; exact (aSet_same h).symm
  · rfl
theorem setE_gets (k : Ky) (v : List UInt8) (e : En) : (setE k v e).gets = e.gets ∧ (setE k v e).comp = e.comp := by
  unfold setE
  split <;> exact ⟨rfl, rfl⟩
def FA (inp : List (Ky × List UInt8)) (k : Ky) : An := freshA ruleR (UR.length + 1) inp 50 k
structure Rest (inp : List (Ky × List UInt8)) (n : Nat) (X : EX) : Prop where
  bt : Bt ruleR UR X.en
  inp : X.en.inp = inp
  g0 : 0 ≤ X.en.gets
  g1 : X.en.gets ≤ n
  c : X.en.comp.length ≤ 50 * n
theorem Rest.mono {inp : List (Ky × List UInt8)} {n m : Nat} {X : EX} (h : Rest inp n X) (hm : n ≤ m) : Rest inp m X := ⟨h.bt, h.inp, h.g0, by have := h.g1; omega, by have := h.c; omega⟩
theorem Rest.new : Rest [] 0 newX := ⟨Bt.new, rfl, by decide, by decide, by decide⟩
theorem Rest.set {inp : List (Ky × List UInt8)} {n : Nat} {X : EX} (h : Rest inp n X) (k : Ky) {v : List UInt8} (hv : v.length ≤ 4) : Rest (aSet inp k v) n (setX k v X) := by
  have h1 := setE_gets k v X.en
  refine ⟨by rw [setX_en]; exact h.bt.set k v (.of0 hv), by rw [setX_en, setE_inp, h.inp], ?_, ?_, ?_⟩
  · rw [setX_en, h1.1]; exact h.g0
  · rw [setX_en, h1.1]; exact h.g1
  · rw [setX_en, h1.2]; exact h.c
theorem Rest.comp {inp : List (Ky × List UInt8)} {n : Nat} {X : EX} (h : Rest inp n X) : Rest inp n { X with comp := [] } := ⟨h.bt.comp [], h.inp, h.g0, h.g1, Nat.zero_le _⟩
theorem UR_2 : ∀ k, k ∈ UR → k.length ≤ 2 := by decide
theorem Rest.got {inp : List (Ky × List UInt8)} {n f : Nat} {X Y : EX} {k : Ky} (h : Rest inp n X) (hk : k ∈ UR) (hf : f ≤ 50) (hY : Y.en = (getE ruleR (UR.length + 1) k f X.en).2) : Rest inp (n + 1) Y := by
  have h1 := h.bt.get (fuel := f) (d := UR.length + 1) ruleR_k (Nat.lt_succ_self _) hk
  have h2 := getE_gets (UR.length + 1) f k X.en ruleR_k (Nat.lt_succ_self _) hk h.bt
  have h3 := getE_comp (UR.length + 1) f k X.en ruleR_k hk h.bt
  have hg0 := h.g0; have hg1 := h.g1; have hc := h.c
  refine ⟨by rw [hY]; exact h1.1, by rw [hY, h1.2.1, h.inp], by rw [hY, h2]; omega, by rw [hY, h2]; omega, by rw [hY]; omega⟩
theorem getF_spec {b f : Nat} {inp : List (Ky × List UInt8)} {n : Nat} {X : EX} {k : Ky} {fz : Int} {M : List HP} {F : List Fact} (hz : fz.toNat = f) (h : Rest inp n X) (hk : k ∈ UR) (hn : n ≤ 10000) (hf : f ≤ 50) (hQ : QF X.qs ∈ F) :
    Ctr Try.prog 15 [PtV b, S k, I fz] (EngI b 1000 ruV.val X :: M) F {Y : EX // Rest inp (n + 1) Y ∧ Y.en = (getE ruleR (UR.length + 1) k f X.en).2} (fun _ => .tuple #[S (getE ruleR (UR.length + 1) k f X.en).1.s, I (getE ruleR (UR.length + 1) k f X.en).1.e]) (fun Y => EngI b 1000 ruV.val Y.1 :: M) (fun Y => QF Y.1.qs :: F) := by
  subst hz
  have h1 := h.bt.get (fuel := fz.toNat) (d := UR.length + 1) ruleR_k (Nat.lt_succ_self _) hk
  have hB := bytes_le UR_2 h1.1
  have hU : UR.length = 20 := rfl
  have hg0 := h.g0; have hg1 := h.g1; have hc := h.c
  refine Ctr.weakX (get_spec (X := X) (k := k) (fz := fz) UR_ko (by decide) ruleR_k ruV hk h.bt.w (show 0 ≤ X.en.gets from hg0) (by show X.en.gets ≤ _; omega) (by show X.en.comp.length + _ ≤ _; omega) (by omega) (by omega) hQ) (fun w hw => hw) (fun Y w hw => ?_)
  exact ⟨⟨Y.1, h.got hk hf Y.2, Y.2⟩, rfl, hw⟩
theorem getR_spec {b : Nat} {inp : List (Ky × List UInt8)} {n : Nat} {X : EX} {k : Ky} {M : List HP} {F : List Fact} (h : Rest inp n X) (hk : k ∈ UR) (hn : n ≤ 10000) (hQ : QF X.qs ∈ F) :
    Ctr Try.prog 15 [PtV b, S k, I 50] (EngI b 1000 ruV.val X :: M) F {Y : EX // Rest inp (n + 1) Y} (fun _ => .tuple #[S (FA inp k).s, I (FA inp k).e]) (fun Y => EngI b 1000 ruV.val Y.1 :: M) (fun Y => QF Y.1.qs :: F) := by
  have hU : UR.length = 20 := rfl
  have h1 := h.bt.get (fuel := 50) (d := UR.length + 1) ruleR_k (Nat.lt_succ_self _) hk
  have hfa : (getE ruleR (UR.length + 1) k 50 X.en).1 = FA inp k := by
    rw [get_fresh (fuel' := 50) ruleR_k (Nat.lt_succ_self _) hk h.bt (h1.2.2.2.2 (by omega)) (by omega), h.inp]; rfl
  refine Ctr.weakX (getF_spec (f := 50) (fz := 50) rfl h hk hn (by decide) hQ) (fun w hw => hw) (fun Y w hw => ⟨⟨Y.1, Y.2.1⟩, by rw [hfa], hw⟩)
end Go.Proofs.Ythefimaaeilefaa

namespace Go.Proofs.Ythefimaaeilefaa
open Go.GL
set_option linter.unusedVariables false
theorem wr_tl22 : tySlice Try.prog 22 3 = true := by kernel_rfl
theorem wr_tp24 : tyPtr Try.prog 24 65 = true := by kernel_rfl
theorem wr_ts3 : tyScalar Try.prog 3 = true := by kernel_rfl
theorem wr_tz3 : tySize Try.prog 3 1 = true := by kernel_rfl
def rvN (k i : Nat) : Nat := 1 + 5 * ((i + 1) % k) + 50 * ((i + 1) % k)
def ringI (k : Nat) : Nat → List (Ky × List UInt8)
  | 0 => []
  | n + 1 => aSet (ringI k n) (rK n) (txB (arN (rvN k n : Nat) 5000))
def inB (k : Nat) : List (Ky × List UInt8) := aSet (aSet (ringI k k) [114, 56] (txB (arN 1 5000))) [114, 57] (txB (arN 2 5000))
def inC (k c : Nat) : List (Ky × List UInt8) := aSet (inB k) (rK c) (txB (arN 500 5000))
def RingOk (k : Nat) : Prop := (∀ i, i ∈ List.range k → (FA (inB k) (nK i)).e = 10) ∧ (FA (inB k) [110, 57] = ⟨[55], 0⟩ ∧ (FA (inB k) [110, 56]).e = 10) ∧
  ∀ c, c ∈ List.range k → (∀ i, i ∈ List.range k → (FA (inC k c) (nK i)).e = 0) ∧ (FA (inC k c) [110, 57]).e = 0 ∧ (FA (inC k c) [110, 48]).e = 0 ∧ (FA (inC k c) [110, 57]).s = (FA (inC k c) [110, 48]).s
instance (k : Nat) : Decidable (RingOk k) := by unfold RingOk; exact inferInstance
theorem ring_all : ∀ k, k ∈ [1, 2, 3, 4, 5, 6] → RingOk k := by decide +kernel
theorem ring_ok {k : Nat} (h0 : 1 ≤ k) (h1 : k ≤ 6) : RingOk k := ring_all k (by
  have : k = 1 ∨ k = 2 ∨ k = 3 ∨ k = 4 ∨ k = 5 ∨ k = 6 := by omega
  rcases this with rfl | rfl | rfl | rfl | rfl | rfl <;> decide)
theorem tx4 (n : Int) : (txB (arN n 5000)).length ≤ 4 := txB_len (by have := arN_lt (n := n) (m := 5000) (by decide); omega)
theorem rK_ko {n : Nat} (h : n < 10000) : KO (rK n) := by
  have := dec_len h
  unfold KO rK
  rw [List.length_cons]
  simp only [maxLen]; omega
set_option maxHeartbeats 1000000 in
theorem law_cycles {n0 cut : Int} {ys : List Int} {ob : Option Addr} {cb : Nat} {M : List HP} {F : List Fact} (hn0 : -9223372036854775808 ≤ n0 ∧ n0 ≤ 9223372036854775807) (hb : ArrF ob (ints ys) ∈ F) (hys : IntsOk ys) (hcut : -9223372036854775808 ≤ cut ∧ cut ≤ 9223372036854775807) : Ctr Try.prog 3 [I n0, .slice ob ys.length cb, I cut] M F Unit (fun _ => .bool true) (fun _ => M) (fun _ => F) := by
  refine Ctr.body Try.func3 rfl rfl ?_
  refine TR.seq ?_
  refine TR.region ?_
  refine RL.assign rfl rfl rfl ?_
  refine RL.nil ?_
  refine NX.seq ?_
  refine TR.seq ?_
  refine TR.region ?_
  refine RL.move rfl rfl rfl ?_
  refine RL.call rfl rfl Try.call9 rfl (around_spec (by decide) hn0.1 hn0.2) (fun _ => ?_)
  have hk6 : arN n0 6 < 6 := by have := arN_lt (n := n0) (m := 6) (by decide); omega
  refine RL.bin rfl rfl rfl (BinV.add (((1 + arN n0 6) : Nat) : Int) (by omega) (by omega) (by omega)) rfl ?_
  refine RL.assign rfl rfl rfl ?_
  refine RL.nil ?_
  refine NX.seq ?_
  refine TR.seq ?_
  refine TR.region ?_
  refine RL.call rfl rfl Try.call10 rfl (new_spec (f := .func 11) (a := [].toArray) (c := [].toArray) (by decide)) (fun b => ?_)
  refine RL.move rfl rfl rfl ?_
  refine RL.extract rfl rfl rfl rfl ?_
  refine RL.extract rfl rfl rfl rfl ?_
  refine RL.assign rfl rfl rfl ?_
  refine RL.assign rfl rfl rfl ?_
  refine RL.nil ?_
  refine NX.seq ?_
  refine TR.seq ?_
  refine TR.seq ?_
  refine TR.region ?_
  refine RL.move rfl rfl rfl ?_
  refine RL.bin rfl rfl rfl (BinV.eqlPtrNil wr_tp24) rfl ?_
  refine RL.move rfl rfl rfl ?_
  refine RL.move rfl rfl rfl ?_
  refine RL.bin rfl rfl rfl (BinV.to (d := false) BinV.neq (decide_eq_false (by decide))) rfl ?_
  refine RL.pickF rfl rfl rfl rfl ?_
  refine RL.nil ?_
  refine NX.seq ?_
  refine TR.condF rfl ?_
  refine TR.skip ?_
  refine NX.seq ?_
  refine TR.seq ?_
  refine TR.seq ?_
  refine TR.region ?_
  refine RL.assign rfl rfl rfl ?_
  refine RL.nil ?_
  refine NX.seq ?_
  refine TR.block ?_
  refine TR.loopP (ι := (Nat × EX)) (fun z => z.1 ≤ (1 + arN n0 6) ∧ Rest (ringI (1 + arN n0 6) z.1) 0 z.2) (fun z => [(1, .slice ob ys.length cb), (2, I cut), (7, I ((1 + arN n0 6) : Nat)), (8, PtV b), (10, I (z.1 : Nat))]) (fun z => EngI b 1000 ruV.val z.2 :: M) (fun z => QF z.2.qs :: F) (fun z => ((1 + arN n0 6) - z.1)) (0, newX) ⟨Nat.zero_le _, Rest.new⟩ ⟨rfl, rfl, rfl, rfl, rfl, trivial⟩ (fun w hw => (hw.to 1 [0] 1 [0] rfl)) (fun z hz => ?_)
  refine TR.seq ?_
  refine TR.seq ?_
  refine TR.region ?_
  refine RL.move rfl rfl rfl ?_
  refine RL.move rfl rfl rfl ?_
  refine RL.bin rfl rfl rfl BinV.lss rfl ?_
  refine RL.nil ?_
  refine NX.seq ?_
  refine TR.cond rfl (fun h1 => ?_) (fun h1 => ?_)
  · skip
    have hi1 : z.1 < (1 + arN n0 6) := by have := of_decide_eq_true h1; omega
    have hmod : (z.1 + 1) % (1 + arN n0 6) < 6 := Nat.lt_of_lt_of_le (Nat.mod_lt _ (by omega)) (by omega)
    have hrv : rvN (1 + arN n0 6) z.1 < 400 := by unfold rvN; omega
    refine TR.skip ?_
    refine NX.seq ?_
    refine TR.seq ?_
    refine TR.block ?_
    refine TR.sub (E' := [(1, _), (2, _), (7, _), (8, _), (10, _), (34, _), (35, _), (36, _)]) ⟨rfl, rfl, rfl, rfl, rfl, rfl, rfl, rfl, trivial⟩ ?_
    refine TR.draw mixed ?_
    apply AR.more [(0, _), (1, _), (4, _), (5, _), (6, _), (7, _), (8, _), (9, _), (10, _), (11, _), (12, _), (13, _), (14, _), (15, _)]
    refine AR.eff [0, 1, 4, 5, 6, 7, 8, 9, 10, 11, 12, 13, 14, 15] 2 [0, 1, 2, 3, 4, 5, 6, 7, 8, 9, 10, 11, 12, 13, 14, 15, 16, 17] ⟨QOne.yes rfl rfl rfl (PV.move rfl), QOne.yes rfl rfl rfl (PV.move rfl), QOne.yes rfl rfl rfl (PV.move rfl), QOne.yes rfl rfl rfl (PV.bin rfl rfl (BinV.add ((z.1 + 1 : Nat) : Int) (by omega) (by omega) (by omega))), QOne.yes rfl rfl rfl (PV.move rfl), QOne.yes rfl rfl rfl (PV.bin rfl rfl (BinV.remK (a := z.1 + 1) (b := (1 + arN n0 6)) (by omega))), QOne.yes rfl rfl rfl (PV.bin rfl rfl (BinV.mul ((5 * ((z.1 + 1) % (1 + arN n0 6)) : Nat) : Int) (by omega) (by omega) (by omega))), QOne.yes rfl rfl rfl (PV.bin rfl rfl (BinV.add ((1 + 5 * ((z.1 + 1) % (1 + arN n0 6)) : Nat) : Int) (by omega) (by omega) (by omega))), QOne.yes rfl rfl rfl (PV.move rfl), QOne.yes rfl rfl rfl (PV.bin rfl rfl (BinV.add ((z.1 + 1 : Nat) : Int) (by omega) (by omega) (by omega))), QOne.yes rfl rfl rfl (PV.move rfl), QOne.yes rfl rfl rfl (PV.bin rfl rfl (BinV.remK (a := z.1 + 1) (b := (1 + arN n0 6)) (by omega))), QOne.yes rfl rfl rfl (PV.bin rfl rfl (BinV.mul ((50 * ((z.1 + 1) % (1 + arN n0 6)) : Nat) : Int) (by omega) (by omega) (by omega))), QOne.yes rfl rfl rfl (PV.bin rfl rfl (BinV.add ((rvN (1 + arN n0 6) z.1 : Nat) : Int) (by unfold rvN; omega) (by omega) (by omega))), trivial⟩ rfl rfl rfl rfl rfl rfl rfl (EV.call rfl Try.call13 (dec_spec (n := z.1) (by omega))) (fun _ => ?_)
    refine AR.done [1] rfl ?_
    apply AR.more [(3, _)]
    refine AR.eff [0, 3, 4, 5, 6, 7, 8, 9, 10, 11, 12, 13, 14, 15] 16 [0, 1, 2, 3, 4, 5, 6, 7, 8, 9, 10, 11, 12, 13, 14, 15, 16, 17] ⟨QOne.yes rfl rfl rfl (PV.move rfl), QOne.yes rfl rfl rfl (PV.bin rfl rfl (BinV.addS (by have := dec_len (n := z.1) (by omega); simp only [List.length_cons, List.length_nil]; omega))), QOne.yes rfl rfl rfl (PV.move rfl), QOne.yes rfl rfl rfl (PV.bin rfl rfl (BinV.add ((z.1 + 1 : Nat) : Int) (by omega) (by omega) (by omega))), QOne.yes rfl rfl rfl (PV.move rfl), QOne.yes rfl rfl rfl (PV.bin rfl rfl (BinV.remK (a := z.1 + 1) (b := (1 + arN n0 6)) (by omega))), QOne.yes rfl rfl rfl (PV.bin rfl rfl (BinV.mul ((5 * ((z.1 + 1) % (1 + arN n0 6)) : Nat) : Int) (by omega) (by omega) (by omega))), QOne.yes rfl rfl rfl (PV.bin rfl rfl (BinV.add ((1 + 5 * ((z.1 + 1) % (1 + arN n0 6)) : Nat) : Int) (by omega) (by omega) (by omega))), QOne.yes rfl rfl rfl (PV.move rfl), QOne.yes rfl rfl rfl (PV.bin rfl rfl (BinV.add ((z.1 + 1 : Nat) : Int) (by omega) (by omega) (by omega))), QOne.yes rfl rfl rfl (PV.move rfl), QOne.yes rfl rfl rfl (PV.bin rfl rfl (BinV.remK (a := z.1 + 1) (b := (1 + arN n0 6)) (by omega))), QOne.yes rfl rfl rfl (PV.bin rfl rfl (BinV.mul ((50 * ((z.1 + 1) % (1 + arN n0 6)) : Nat) : Int) (by omega) (by omega) (by omega))), QOne.yes rfl rfl rfl (PV.bin rfl rfl (BinV.add ((rvN (1 + arN n0 6) z.1 : Nat) : Int) (by unfold rvN; omega) (by omega) (by omega))), trivial⟩ rfl rfl rfl rfl rfl rfl rfl (EV.call rfl Try.call14 (text_spec (n := ((rvN (1 + arN n0 6) z.1 : Nat) : Int)) (by omega) (by unfold rvN; omega))) (fun _ => ?_)
    refine AR.done [15, 9, 14, 13, 8, 7, 11, 12, 10, 5, 6, 4] rfl ?_
    refine AR.eff [0, 3] 17 [0, 1, 2, 3, 4, 5, 6, 7, 8, 9, 10, 11, 12, 13, 14, 15, 16, 17] ⟨QOne.yes rfl rfl rfl (PV.move rfl), QOne.yes rfl rfl rfl (PV.bin rfl rfl (BinV.addS (by have := dec_len (n := z.1) (by omega); simp only [List.length_cons, List.length_nil]; omega))), trivial⟩ rfl rfl rfl rfl rfl rfl rfl (EV.call rfl Try.call12 (set_spec (X := z.2) (k := rK z.1) (v := txB (arN ((rvN (1 + arN n0 6) z.1 : Nat) : Int) 5000)) (rK_ko (by omega)) (.head _))) (fun _ => ?_)
    refine AR.done [0, 3] rfl ?_
    refine AR.last [] [0, 1, 2, 3, 4, 5, 6, 7, 8, 9, 10, 11, 12, 13, 14, 15, 16, 17] trivial rfl rfl rfl ?_
    refine NX.sub (E' := [(1, _), (2, _), (7, _), (8, _), (10, _), (34, _), (35, _), (36, _), (39, _), (40, _), (41, _), (42, _), (43, _), (44, _), (45, _), (46, _), (47, _), (48, _), (49, _), (50, _), (51, _), (52, _), (53, _), (54, _), (55, _)]) ⟨rfl, rfl, rfl, rfl, rfl, rfl, rfl, rfl, rfl, rfl, rfl, rfl, rfl, rfl, rfl, rfl, rfl, rfl, rfl, rfl, rfl, rfl, rfl, rfl, rfl, trivial⟩ ?_
    refine NX.off ?_
    refine NX.seq ?_
    refine TR.region ?_
    refine RL.move rfl rfl rfl ?_
    refine RL.bin rfl rfl rfl (BinV.add ((z.1 + 1 : Nat) : Int) (by omega) (by omega) (by omega)) rfl ?_
    refine RL.assign rfl rfl rfl ?_
    refine RL.nil ?_
    refine NX.roundP (z.1 + 1, setX (rK z.1) (txB (arN ((rvN (1 + arN n0 6) z.1 : Nat) : Int) 5000)) z.2) ⟨by omega, hz.2.set _ (tx4 _)⟩ (by show (1 + arN n0 6) - (z.1 + 1) < (1 + arN n0 6) - z.1; omega) ⟨rfl, rfl, rfl, rfl, rfl, trivial⟩ (fun w hw => (hw.to 1 [0] 2 [0] rfl))
  · skip
    have hi1 : z.1 = (1 + arN n0 6) := by have := of_decide_eq_false h1; omega
    have hro : RingOk (1 + arN n0 6) := ring_ok (by omega) (by omega)
    refine TR.exit ?_
    refine NX.exitThen ?_
    refine NX.exitThen ?_
    refine NX.exitHere ?_
    refine NX.seq ?_
    refine TR.seq ?_
    refine TR.region ?_
    refine RL.move rfl rfl rfl ?_
    refine RL.call rfl rfl Try.call14 rfl (text_spec (n := 1) (by omega) (by omega)) (fun _ => ?_)
    refine RL.call rfl rfl Try.call12 rfl (set_spec (X := z.2) (k := [114, 56]) (v := txB (arN 1 5000)) (by unfold KO; decide) (.head _)) (fun _ => ?_)
    refine RL.nil ?_
    refine NX.seq ?_
    refine TR.seq ?_
    refine TR.region ?_
    refine RL.move rfl rfl rfl ?_
    refine RL.call rfl rfl Try.call14 rfl (text_spec (n := 2) (by omega) (by omega)) (fun _ => ?_)
    refine RL.call rfl rfl Try.call12 rfl (set_spec (X := (setX [114, 56] (txB (arN 1 5000)) z.2)) (k := [114, 57]) (v := txB (arN 2 5000)) (by unfold KO; decide) (.head _)) (fun _ => ?_)
    refine RL.nil ?_
    refine NX.seq ?_
    refine TR.seq ?_
    refine TR.seq ?_
    refine TR.region ?_
    refine RL.assign rfl rfl rfl ?_
    refine RL.nil ?_
    refine NX.seq ?_
    refine TR.block ?_
    refine TR.loopP (ι := (Nat × EX)) (fun y => y.1 ≤ 6 ∧ Rest (inB (1 + arN n0 6)) (0 + y.1) y.2) (fun y => [(1, .slice ob ys.length cb), (2, I cut), (7, I ((1 + arN n0 6) : Nat)), (8, PtV b), (11, I (y.1 : Nat))]) (fun y => EngI b 1000 ruV.val y.2 :: M) (fun y => QF y.2.qs :: F) (fun y => (6 - y.1)) (0, (setX [114, 57] (txB (arN 2 5000)) (setX [114, 56] (txB (arN 1 5000)) z.2))) ⟨Nat.zero_le _, by have h9 := hz.2; rw [hi1] at h9; exact (h9.set _ (tx4 _)).set _ (tx4 _)⟩ ⟨rfl, rfl, rfl, rfl, rfl, trivial⟩ (fun w hw => (hw.to 1 [0] 3 [0] rfl)) (fun y hy => ?_)
    refine TR.seq ?_
    refine TR.seq ?_
    refine TR.region ?_
    refine RL.move rfl rfl rfl ?_
    refine RL.move rfl rfl rfl ?_
    refine RL.lenSlice rfl wr_tl22 rfl rfl ?_
    refine RL.bin rfl rfl rfl BinV.lss rfl ?_
    refine RL.move rfl rfl rfl ?_
    refine RL.part (fun h2 => ?_) (fun h2 => ?_)
    · skip
      have hl1 := of_decide_eq_true h2
      refine RL.move rfl rfl rfl ?_
      refine RL.bin rfl rfl rfl BinV.lss rfl ?_
      refine RL.pickT rfl rfl rfl rfl ?_
      refine RL.nil ?_
      refine NX.seq ?_
      refine TR.cond rfl (fun h3 => ?_) (fun h3 => ?_)
      · skip
        have hl2 := of_decide_eq_true h3
        have hi1 : y.1 < ys.length := by omega
        have hxi := hys.2 ys[y.1] (List.getElem_mem hi1)
        refine TR.openP (open_arr (.tail _ hb) (ints_ne (by omega))) (fun x hx => ?_)
        refine TR.skip ?_
        refine NX.seq ?_
        refine TR.seq ?_
        refine TR.block ?_
        refine TR.seq ?_
        refine TR.region ?_
        refine RL.move rfl rfl rfl ?_
        refine RL.move rfl rfl rfl ?_
        refine RL.move rfl rfl rfl ?_
        refine RL.indexAddr rfl wr_tl22 wr_tz3 (congrArg (fun a => some (Value.slice a _ _)) hx) rfl (by omega) (by omega) rfl ?_
        refine RL.loadF rfl rfl (fun w K hF => run_loadCell1 (j := (y.1 : Int).toNat * 1) (v := I ys[y.1]) (hF (CellsF x.1 x.2 (ints ys)) (.head _)) wr_ts3 (by rw [Int.toNat_natCast, Nat.mul_one]; exact ints_get hi1)) rfl ?_
        refine RL.move rfl rfl rfl ?_
        refine RL.call rfl rfl Try.call9 rfl (around_spec (m := (((1 + arN n0 6) : Nat) : Int)) (by omega) hxi.1 hxi.2) (fun _ => ?_)
        have hlt : arN ys[y.1] (((1 + arN n0 6) : Nat) : Int) < (1 + arN n0 6) := by have := arN_lt (n := ys[y.1]) (m := (((1 + arN n0 6) : Nat) : Int)) (by omega); omega
        refine RL.call rfl rfl Try.call16 rfl (node_spec (n := arN ys[y.1] (((1 + arN n0 6) : Nat) : Int))) (fun _ => ?_)
        refine RL.call rfl rfl Try.call15 rfl (getR_spec (k := (nK (arN ys[y.1] (((1 + arN n0 6) : Nat) : Int)))) (X := y.2) hy.2 (nK_in _) (by omega) (.tail _ (.head _))) (fun Y1 => ?_)
        obtain ⟨Y1, hY1⟩ := Y1
        dsimp only at hY1 ⊢
        refine RL.move rfl rfl rfl ?_
        refine RL.extract rfl rfl rfl rfl ?_
        refine RL.extract rfl rfl rfl rfl ?_
        refine RL.assign rfl rfl rfl ?_
        refine RL.assign rfl rfl rfl ?_
        refine RL.nil ?_
        refine NX.seq ?_
        refine TR.seq ?_
        refine TR.region ?_
        refine RL.move rfl rfl rfl ?_
        refine RL.bin rfl rfl rfl (BinV.to (d := false) BinV.neq (decide_eq_false (fun h => h (hro.1 _ (List.mem_range.2 hlt))))) rfl ?_
        refine RL.nil ?_
        refine NX.seq ?_
        refine TR.condF rfl ?_
        refine TR.skip ?_
        refine NX.off ?_
        refine NX.seq ?_
        refine TR.region ?_
        refine RL.move rfl rfl rfl ?_
        refine RL.bin rfl rfl rfl (BinV.add ((y.1 + 1 : Nat) : Int) (by omega) (by omega) (by omega)) rfl ?_
        refine RL.assign rfl rfl rfl ?_
        refine RL.nil ?_
        refine NX.roundP (y.1 + 1, Y1) ⟨by omega, hY1⟩ (by show 6 - (y.1 + 1) < 6 - y.1; omega) ⟨rfl, rfl, rfl, rfl, rfl, trivial⟩ (fun w hw => (hw.to 1 [0] 3 [0] rfl))
      · skip
        refine TR.exit ?_
        refine NX.exitThen ?_
        refine NX.exitThen ?_
        refine NX.exitHere ?_
        refine NX.seq ?_
        refine TR.seq ?_
        refine TR.region ?_
        refine RL.move rfl rfl rfl ?_
        refine RL.call rfl rfl Try.call15 rfl (getR_spec (k := [110, 57]) (X := y.2) hy.2 (by decide) (by omega) (.head _)) (fun Y2 => ?_)
        obtain ⟨Y2, hY2⟩ := Y2
        dsimp only at hY2 ⊢
        refine RL.move rfl rfl rfl ?_
        refine RL.extract rfl rfl rfl rfl ?_
        refine RL.extract rfl rfl rfl rfl ?_
        refine RL.assign rfl rfl rfl ?_
        refine RL.assign rfl rfl rfl ?_
        refine RL.nil ?_
        refine NX.seq ?_
        refine TR.seq ?_
        refine TR.region ?_
        refine RL.move rfl rfl rfl ?_
        refine RL.call rfl rfl Try.call15 rfl (getR_spec (k := [110, 56]) (X := Y2) hY2 (by decide) (by omega) (.head _)) (fun Y3 => ?_)
        obtain ⟨Y3, hY3⟩ := Y3
        dsimp only at hY3 ⊢
        refine RL.move rfl rfl rfl ?_
        refine RL.extract rfl rfl rfl rfl ?_
        refine RL.extract rfl rfl rfl rfl ?_
        refine RL.assign rfl rfl rfl ?_
        refine RL.assign rfl rfl rfl ?_
        refine RL.nil ?_
        refine NX.seq ?_
        refine TR.seq ?_
        refine TR.seq ?_
        refine TR.region ?_
        refine RL.move rfl rfl rfl ?_
        refine RL.bin rfl rfl rfl (BinV.to (d := false) BinV.neq (decide_eq_false (by rw [hro.2.1.1]; decide))) rfl ?_
        refine RL.move rfl rfl rfl ?_
        refine RL.move rfl rfl rfl ?_
        refine RL.bin rfl rfl rfl (BinV.to (d := false) BinV.neqS (decide_eq_false (by rw [hro.2.1.1]; decide))) rfl ?_
        refine RL.pickF rfl rfl rfl rfl ?_
        refine RL.move rfl rfl rfl ?_
        refine RL.move rfl rfl rfl ?_
        refine RL.bin rfl rfl rfl (BinV.to (d := false) BinV.neq (decide_eq_false (by rw [hro.2.1.2]; decide))) rfl ?_
        refine RL.pickF rfl rfl rfl rfl ?_
        refine RL.nil ?_
        refine NX.seq ?_
        refine TR.condF rfl ?_
        refine TR.skip ?_
        refine NX.seq ?_
        refine TR.seq ?_
        refine TR.seq ?_
        refine TR.region ?_
        refine RL.assign rfl rfl rfl ?_
        refine RL.nil ?_
        refine NX.seq ?_
        refine TR.block ?_
        refine TR.loopP (ι := (Nat × EX)) (fun u => u.1 ≤ (1 + arN n0 6) ∧ Rest (inB (1 + arN n0 6)) (8 + u.1) u.2) (fun u => [(1, .slice ob ys.length cb), (2, I cut), (7, I ((1 + arN n0 6) : Nat)), (8, PtV b), (18, I (u.1 : Nat))]) (fun u => EngI b 1000 ruV.val u.2 :: M) (fun u => QF u.2.qs :: F) (fun u => ((1 + arN n0 6) - u.1)) (0, Y3) ⟨Nat.zero_le _, hY3.mono (by omega)⟩ ⟨rfl, rfl, rfl, rfl, rfl, trivial⟩ (fun w hw => (hw.to 1 [0] 3 [0] rfl)) (fun u hu => ?_)
        refine TR.seq ?_
        refine TR.seq ?_
        refine TR.region ?_
        refine RL.move rfl rfl rfl ?_
        refine RL.move rfl rfl rfl ?_
        refine RL.bin rfl rfl rfl BinV.lss rfl ?_
        refine RL.nil ?_
        refine NX.seq ?_
        refine TR.cond rfl (fun h4 => ?_) (fun h4 => ?_)
        · skip
          have hi1 : u.1 < (1 + arN n0 6) := by have := of_decide_eq_true h4; omega
          refine TR.skip ?_
          refine NX.seq ?_
          refine TR.seq ?_
          refine TR.block ?_
          refine TR.seq ?_
          refine TR.region ?_
          refine RL.move rfl rfl rfl ?_
          refine RL.move rfl rfl rfl ?_
          refine RL.call rfl rfl Try.call16 rfl (node_spec (n := u.1)) (fun _ => ?_)
          refine RL.call rfl rfl Try.call15 rfl (getR_spec (k := (nK u.1)) (X := u.2) hu.2 (nK_in _) (by omega) (.head _)) (fun Y4 => ?_)
          obtain ⟨Y4, hY4⟩ := Y4
          dsimp only at hY4 ⊢
          refine RL.move rfl rfl rfl ?_
          refine RL.extract rfl rfl rfl rfl ?_
          refine RL.extract rfl rfl rfl rfl ?_
          refine RL.assign rfl rfl rfl ?_
          refine RL.nil ?_
          refine NX.seq ?_
          refine TR.seq ?_
          refine TR.region ?_
          refine RL.move rfl rfl rfl ?_
          refine RL.bin rfl rfl rfl (BinV.to (d := false) BinV.neq (decide_eq_false (fun h => h (hro.1 _ (List.mem_range.2 hi1))))) rfl ?_
          refine RL.nil ?_
          refine NX.seq ?_
          refine TR.condF rfl ?_
          refine TR.skip ?_
          refine NX.off ?_
          refine NX.seq ?_
          refine TR.region ?_
          refine RL.move rfl rfl rfl ?_
          refine RL.bin rfl rfl rfl (BinV.add ((u.1 + 1 : Nat) : Int) (by omega) (by omega) (by omega)) rfl ?_
          refine RL.assign rfl rfl rfl ?_
          refine RL.nil ?_
          refine NX.roundP (u.1 + 1, Y4) ⟨by omega, hY4⟩ (by show (1 + arN n0 6) - (u.1 + 1) < (1 + arN n0 6) - u.1; omega) ⟨rfl, rfl, rfl, rfl, rfl, trivial⟩ (fun w hw => (hw.to 1 [0] 2 [0] rfl))
        · skip
          refine TR.exit ?_
          refine NX.exitThen ?_
          refine NX.exitThen ?_
          refine NX.exitHere ?_
          refine NX.seq ?_
          refine TR.seq ?_
          refine TR.region ?_
          refine RL.move rfl rfl rfl ?_
          refine RL.move rfl rfl rfl ?_
          refine RL.move rfl rfl rfl ?_
          refine RL.call rfl rfl Try.call9 rfl (around_spec (m := (((1 + arN n0 6) : Nat) : Int)) (by omega) hcut.1 hcut.2) (fun _ => ?_)
          have hclt : arN cut (((1 + arN n0 6) : Nat) : Int) < (1 + arN n0 6) := by have := arN_lt (n := cut) (m := (((1 + arN n0 6) : Nat) : Int)) (by omega); omega
          refine RL.call rfl rfl Try.call13 rfl (dec_spec (n := arN cut (((1 + arN n0 6) : Nat) : Int)) (by omega)) (fun _ => ?_)
          refine RL.bin rfl rfl rfl (BinV.addS (by have := dec_len (n := arN cut (((1 + arN n0 6) : Nat) : Int)) (by omega); simp only [List.length_cons, List.length_nil]; omega)) rfl ?_
          refine RL.call rfl rfl Try.call14 rfl (text_spec (n := 500) (by omega) (by omega)) (fun _ => ?_)
          refine RL.call rfl rfl Try.call12 rfl (set_spec (X := u.2) (k := (rK (arN cut (((1 + arN n0 6) : Nat) : Int)))) (v := txB (arN 500 5000)) (rK_ko (by omega)) (.head _)) (fun _ => ?_)
          refine RL.nil ?_
          refine NX.seq ?_
          refine TR.seq ?_
          refine TR.seq ?_
          have hrc := hro.2.2 _ (List.mem_range.2 hclt)
          refine TR.region ?_
          refine RL.assign rfl rfl rfl ?_
          refine RL.nil ?_
          refine NX.seq ?_
          refine TR.block ?_
          refine TR.loopP (ι := (Nat × EX)) (fun v => v.1 ≤ (1 + arN n0 6) ∧ Rest (inC (1 + arN n0 6) (arN cut (((1 + arN n0 6) : Nat) : Int))) (20 + v.1) v.2) (fun v => [(1, .slice ob ys.length cb), (2, I cut), (7, I ((1 + arN n0 6) : Nat)), (8, PtV b), (19, I (v.1 : Nat))]) (fun v => EngI b 1000 ruV.val v.2 :: M) (fun v => QF v.2.qs :: F) (fun v => ((1 + arN n0 6) - v.1)) (0, setX (rK (arN cut (((1 + arN n0 6) : Nat) : Int))) (txB (arN 500 5000)) u.2) ⟨Nat.zero_le _, (hu.2.mono (by omega)).set _ (tx4 _)⟩ ⟨rfl, rfl, rfl, rfl, rfl, trivial⟩ (fun w hw => (hw.to 1 [0] 2 [0] rfl)) (fun v hv => ?_)
          refine TR.seq ?_
          refine TR.seq ?_
          refine TR.region ?_
          refine RL.move rfl rfl rfl ?_
          refine RL.move rfl rfl rfl ?_
          refine RL.bin rfl rfl rfl BinV.lss rfl ?_
          refine RL.nil ?_
          refine NX.seq ?_
          refine TR.cond rfl (fun h5 => ?_) (fun h5 => ?_)
          · skip
            have hi1 : v.1 < (1 + arN n0 6) := by have := of_decide_eq_true h5; omega
            refine TR.skip ?_
            refine NX.seq ?_
            refine TR.seq ?_
            refine TR.block ?_
            refine TR.seq ?_
            refine TR.region ?_
            refine RL.move rfl rfl rfl ?_
            refine RL.move rfl rfl rfl ?_
            refine RL.call rfl rfl Try.call16 rfl (node_spec (n := v.1)) (fun _ => ?_)
            refine RL.call rfl rfl Try.call15 rfl (getR_spec (k := (nK v.1)) (X := v.2) hv.2 (nK_in _) (by omega) (.head _)) (fun Y5 => ?_)
            obtain ⟨Y5, hY5⟩ := Y5
            dsimp only at hY5 ⊢
            refine RL.move rfl rfl rfl ?_
            refine RL.extract rfl rfl rfl rfl ?_
            refine RL.extract rfl rfl rfl rfl ?_
            refine RL.assign rfl rfl rfl ?_
            refine RL.nil ?_
            refine NX.seq ?_
            refine TR.seq ?_
            refine TR.region ?_
            refine RL.move rfl rfl rfl ?_
            refine RL.bin rfl rfl rfl (BinV.to (d := false) BinV.neq (decide_eq_false (fun h => h (hrc.1 _ (List.mem_range.2 hi1))))) rfl ?_
            refine RL.nil ?_
            refine NX.seq ?_
            refine TR.condF rfl ?_
            refine TR.skip ?_
            refine NX.off ?_
            refine NX.seq ?_
            refine TR.region ?_
            refine RL.move rfl rfl rfl ?_
            refine RL.bin rfl rfl rfl (BinV.add ((v.1 + 1 : Nat) : Int) (by omega) (by omega) (by omega)) rfl ?_
            refine RL.assign rfl rfl rfl ?_
            refine RL.nil ?_
            refine NX.roundP (v.1 + 1, Y5) ⟨by omega, hY5⟩ (by show (1 + arN n0 6) - (v.1 + 1) < (1 + arN n0 6) - v.1; omega) ⟨rfl, rfl, rfl, rfl, rfl, trivial⟩ (fun w hw => (hw.to 1 [0] 2 [0] rfl))
          · skip
            refine TR.exit ?_
            refine NX.exitThen ?_
            refine NX.exitThen ?_
            refine NX.exitHere ?_
            refine NX.seq ?_
            refine TR.seq ?_
            refine TR.region ?_
            refine RL.move rfl rfl rfl ?_
            refine RL.call rfl rfl Try.call15 rfl (getR_spec (k := [110, 57]) (X := v.2) hv.2 (by decide) (by omega) (.head _)) (fun Y6 => ?_)
            obtain ⟨Y6, hY6⟩ := Y6
            dsimp only at hY6 ⊢
            refine RL.move rfl rfl rfl ?_
            refine RL.extract rfl rfl rfl rfl ?_
            refine RL.extract rfl rfl rfl rfl ?_
            refine RL.assign rfl rfl rfl ?_
            refine RL.assign rfl rfl rfl ?_
            refine RL.nil ?_
            refine NX.seq ?_
            refine TR.seq ?_
            refine TR.region ?_
            refine RL.move rfl rfl rfl ?_
            refine RL.call rfl rfl Try.call15 rfl (getR_spec (k := [110, 48]) (X := Y6) hY6 (by decide) (by omega) (.head _)) (fun Y7 => ?_)
            obtain ⟨Y7, hY7⟩ := Y7
            dsimp only at hY7 ⊢
            refine RL.move rfl rfl rfl ?_
            refine RL.extract rfl rfl rfl rfl ?_
            refine RL.extract rfl rfl rfl rfl ?_
            refine RL.assign rfl rfl rfl ?_
            refine RL.assign rfl rfl rfl ?_
            refine RL.nil ?_
            refine NX.seq ?_
            refine TR.seq ?_
            refine TR.region ?_
            refine RL.move rfl rfl rfl ?_
            refine RL.bin rfl rfl rfl (BinV.to (d := true) BinV.eql (decide_eq_true hrc.2.1)) rfl ?_
            refine RL.move rfl rfl rfl ?_
            refine RL.move rfl rfl rfl ?_
            refine RL.bin rfl rfl rfl (BinV.to (d := true) BinV.eql (decide_eq_true hrc.2.2.1)) rfl ?_
            refine RL.pickT rfl rfl rfl rfl ?_
            refine RL.move rfl rfl rfl ?_
            refine RL.move rfl rfl rfl ?_
            refine RL.move rfl rfl rfl ?_
            refine RL.bin rfl rfl rfl (BinV.to (d := true) BinV.eqlS (decide_eq_true hrc.2.2.2)) rfl ?_
            refine RL.pickT rfl rfl rfl rfl ?_
            refine RL.move rfl rfl rfl ?_
            refine RL.call rfl rfl Try.call17 rfl (lives_spec) (fun _ => ?_)
            refine RL.pickT rfl rfl rfl rfl ?_
            refine RL.assign rfl rfl rfl ?_
            refine RL.nil ?_
            refine NX.seq ?_
            refine TR.ret ?_
            exact NX.ret1 () rfl rfl rfl (fun w hw => ((hw.to 1 [0] 3 [] rfl)).tail)
    · skip
      refine RL.skip rfl rfl rfl ?_
      refine RL.skip rfl rfl rfl ?_
      refine RL.pickF rfl rfl rfl rfl ?_
      refine RL.nil ?_
      refine NX.seq ?_
      refine TR.condF rfl ?_
      refine TR.exit ?_
      refine NX.exitThen ?_
      refine NX.exitThen ?_
      refine NX.exitHere ?_
      refine NX.seq ?_
      refine TR.seq ?_
      refine TR.region ?_
      refine RL.move rfl rfl rfl ?_
      refine RL.call rfl rfl Try.call15 rfl (getR_spec (k := [110, 57]) (X := y.2) hy.2 (by decide) (by omega) (.head _)) (fun Y2 => ?_)
      obtain ⟨Y2, hY2⟩ := Y2
      dsimp only at hY2 ⊢
      refine RL.move rfl rfl rfl ?_
      refine RL.extract rfl rfl rfl rfl ?_
      refine RL.extract rfl rfl rfl rfl ?_
      refine RL.assign rfl rfl rfl ?_
      refine RL.assign rfl rfl rfl ?_
      refine RL.nil ?_
      refine NX.seq ?_
      refine TR.seq ?_
      refine TR.region ?_
      refine RL.move rfl rfl rfl ?_
      refine RL.call rfl rfl Try.call15 rfl (getR_spec (k := [110, 56]) (X := Y2) hY2 (by decide) (by omega) (.head _)) (fun Y3 => ?_)
      obtain ⟨Y3, hY3⟩ := Y3
      dsimp only at hY3 ⊢
      refine RL.move rfl rfl rfl ?_
      refine RL.extract rfl rfl rfl rfl ?_
      refine RL.extract rfl rfl rfl rfl ?_
      refine RL.assign rfl rfl rfl ?_
      refine RL.assign rfl rfl rfl ?_
      refine RL.nil ?_
      refine NX.seq ?_
      refine TR.seq ?_
      refine TR.seq ?_
      refine TR.region ?_
      refine RL.move rfl rfl rfl ?_
      refine RL.bin rfl rfl rfl (BinV.to (d := false) BinV.neq (decide_eq_false (by rw [hro.2.1.1]; decide))) rfl ?_
      refine RL.move rfl rfl rfl ?_
      refine RL.move rfl rfl rfl ?_
      refine RL.bin rfl rfl rfl (BinV.to (d := false) BinV.neqS (decide_eq_false (by rw [hro.2.1.1]; decide))) rfl ?_
      refine RL.pickF rfl rfl rfl rfl ?_
      refine RL.move rfl rfl rfl ?_
      refine RL.move rfl rfl rfl ?_
      refine RL.bin rfl rfl rfl (BinV.to (d := false) BinV.neq (decide_eq_false (by rw [hro.2.1.2]; decide))) rfl ?_
      refine RL.pickF rfl rfl rfl rfl ?_
      refine RL.nil ?_
      refine NX.seq ?_
      refine TR.condF rfl ?_
      refine TR.skip ?_
      refine NX.seq ?_
      refine TR.seq ?_
      refine TR.seq ?_
      refine TR.region ?_
      refine RL.assign rfl rfl rfl ?_
      refine RL.nil ?_
      refine NX.seq ?_
      refine TR.block ?_
      refine TR.loopP (ι := (Nat × EX)) (fun u => u.1 ≤ (1 + arN n0 6) ∧ Rest (inB (1 + arN n0 6)) (8 + u.1) u.2) (fun u => [(1, .slice ob ys.length cb), (2, I cut), (7, I ((1 + arN n0 6) : Nat)), (8, PtV b), (18, I (u.1 : Nat))]) (fun u => EngI b 1000 ruV.val u.2 :: M) (fun u => QF u.2.qs :: F) (fun u => ((1 + arN n0 6) - u.1)) (0, Y3) ⟨Nat.zero_le _, hY3.mono (by omega)⟩ ⟨rfl, rfl, rfl, rfl, rfl, trivial⟩ (fun w hw => (hw.to 1 [0] 3 [0] rfl)) (fun u hu => ?_)
      refine TR.seq ?_
      refine TR.seq ?_
      refine TR.region ?_
      refine RL.move rfl rfl rfl ?_
      refine RL.move rfl rfl rfl ?_
      refine RL.bin rfl rfl rfl BinV.lss rfl ?_
      refine RL.nil ?_
      refine NX.seq ?_
      refine TR.cond rfl (fun h6 => ?_) (fun h6 => ?_)
      · skip
        have hi1 : u.1 < (1 + arN n0 6) := by have := of_decide_eq_true h6; omega
        refine TR.skip ?_
        refine NX.seq ?_
        refine TR.seq ?_
        refine TR.block ?_
        refine TR.seq ?_
        refine TR.region ?_
        refine RL.move rfl rfl rfl ?_
        refine RL.move rfl rfl rfl ?_
        refine RL.call rfl rfl Try.call16 rfl (node_spec (n := u.1)) (fun _ => ?_)
        refine RL.call rfl rfl Try.call15 rfl (getR_spec (k := (nK u.1)) (X := u.2) hu.2 (nK_in _) (by omega) (.head _)) (fun Y4 => ?_)
        obtain ⟨Y4, hY4⟩ := Y4
        dsimp only at hY4 ⊢
        refine RL.move rfl rfl rfl ?_
        refine RL.extract rfl rfl rfl rfl ?_
        refine RL.extract rfl rfl rfl rfl ?_
        refine RL.assign rfl rfl rfl ?_
        refine RL.nil ?_
        refine NX.seq ?_
        refine TR.seq ?_
        refine TR.region ?_
        refine RL.move rfl rfl rfl ?_
        refine RL.bin rfl rfl rfl (BinV.to (d := false) BinV.neq (decide_eq_false (fun h => h (hro.1 _ (List.mem_range.2 hi1))))) rfl ?_
        refine RL.nil ?_
        refine NX.seq ?_
        refine TR.condF rfl ?_
        refine TR.skip ?_
        refine NX.off ?_
        refine NX.seq ?_
        refine TR.region ?_
        refine RL.move rfl rfl rfl ?_
        refine RL.bin rfl rfl rfl (BinV.add ((u.1 + 1 : Nat) : Int) (by omega) (by omega) (by omega)) rfl ?_
        refine RL.assign rfl rfl rfl ?_
        refine RL.nil ?_
        refine NX.roundP (u.1 + 1, Y4) ⟨by omega, hY4⟩ (by show (1 + arN n0 6) - (u.1 + 1) < (1 + arN n0 6) - u.1; omega) ⟨rfl, rfl, rfl, rfl, rfl, trivial⟩ (fun w hw => (hw.to 1 [0] 2 [0] rfl))
      · skip
        refine TR.exit ?_
        refine NX.exitThen ?_
        refine NX.exitThen ?_
        refine NX.exitHere ?_
        refine NX.seq ?_
        refine TR.seq ?_
        refine TR.region ?_
        refine RL.move rfl rfl rfl ?_
        refine RL.move rfl rfl rfl ?_
        refine RL.move rfl rfl rfl ?_
        refine RL.call rfl rfl Try.call9 rfl (around_spec (m := (((1 + arN n0 6) : Nat) : Int)) (by omega) hcut.1 hcut.2) (fun _ => ?_)
        have hclt : arN cut (((1 + arN n0 6) : Nat) : Int) < (1 + arN n0 6) := by have := arN_lt (n := cut) (m := (((1 + arN n0 6) : Nat) : Int)) (by omega); omega
        refine RL.call rfl rfl Try.call13 rfl (dec_spec (n := arN cut (((1 + arN n0 6) : Nat) : Int)) (by omega)) (fun _ => ?_)
        refine RL.bin rfl rfl rfl (BinV.addS (by have := dec_len (n := arN cut (((1 + arN n0 6) : Nat) : Int)) (by omega); simp only [List.length_cons, List.length_nil]; omega)) rfl ?_
        refine RL.call rfl rfl Try.call14 rfl (text_spec (n := 500) (by omega) (by omega)) (fun _ => ?_)
        refine RL.call rfl rfl Try.call12 rfl (set_spec (X := u.2) (k := (rK (arN cut (((1 + arN n0 6) : Nat) : Int)))) (v := txB (arN 500 5000)) (rK_ko (by omega)) (.head _)) (fun _ => ?_)
        refine RL.nil ?_
        refine NX.seq ?_
        refine TR.seq ?_
        refine TR.seq ?_
        have hrc := hro.2.2 _ (List.mem_range.2 hclt)
        refine TR.region ?_
        refine RL.assign rfl rfl rfl ?_
        refine RL.nil ?_
        refine NX.seq ?_
        refine TR.block ?_
        refine TR.loopP (ι := (Nat × EX)) (fun v => v.1 ≤ (1 + arN n0 6) ∧ Rest (inC (1 + arN n0 6) (arN cut (((1 + arN n0 6) : Nat) : Int))) (20 + v.1) v.2) (fun v => [(1, .slice ob ys.length cb), (2, I cut), (7, I ((1 + arN n0 6) : Nat)), (8, PtV b), (19, I (v.1 : Nat))]) (fun v => EngI b 1000 ruV.val v.2 :: M) (fun v => QF v.2.qs :: F) (fun v => ((1 + arN n0 6) - v.1)) (0, setX (rK (arN cut (((1 + arN n0 6) : Nat) : Int))) (txB (arN 500 5000)) u.2) ⟨Nat.zero_le _, (hu.2.mono (by omega)).set _ (tx4 _)⟩ ⟨rfl, rfl, rfl, rfl, rfl, trivial⟩ (fun w hw => (hw.to 1 [0] 2 [0] rfl)) (fun v hv => ?_)
        refine TR.seq ?_
        refine TR.seq ?_
        refine TR.region ?_
        refine RL.move rfl rfl rfl ?_
        refine RL.move rfl rfl rfl ?_
        refine RL.bin rfl rfl rfl BinV.lss rfl ?_
        refine RL.nil ?_
        refine NX.seq ?_
        refine TR.cond rfl (fun h7 => ?_) (fun h7 => ?_)
        · skip
          have hi1 : v.1 < (1 + arN n0 6) := by have := of_decide_eq_true h7; omega
          refine TR.skip ?_
          refine NX.seq ?_
          refine TR.seq ?_
          refine TR.block ?_
          refine TR.seq ?_
          refine TR.region ?_
          refine RL.move rfl rfl rfl ?_
          refine RL.move rfl rfl rfl ?_
          refine RL.call rfl rfl Try.call16 rfl (node_spec (n := v.1)) (fun _ => ?_)
          refine RL.call rfl rfl Try.call15 rfl (getR_spec (k := (nK v.1)) (X := v.2) hv.2 (nK_in _) (by omega) (.head _)) (fun Y5 => ?_)
          obtain ⟨Y5, hY5⟩ := Y5
          dsimp only at hY5 ⊢
          refine RL.move rfl rfl rfl ?_
          refine RL.extract rfl rfl rfl rfl ?_
          refine RL.extract rfl rfl rfl rfl ?_
          refine RL.assign rfl rfl rfl ?_
          refine RL.nil ?_
          refine NX.seq ?_
          refine TR.seq ?_
          refine TR.region ?_
          refine RL.move rfl rfl rfl ?_
          refine RL.bin rfl rfl rfl (BinV.to (d := false) BinV.neq (decide_eq_false (fun h => h (hrc.1 _ (List.mem_range.2 hi1))))) rfl ?_
          refine RL.nil ?_
          refine NX.seq ?_
          refine TR.condF rfl ?_
          refine TR.skip ?_
          refine NX.off ?_
          refine NX.seq ?_
          refine TR.region ?_
          refine RL.move rfl rfl rfl ?_
          refine RL.bin rfl rfl rfl (BinV.add ((v.1 + 1 : Nat) : Int) (by omega) (by omega) (by omega)) rfl ?_
          refine RL.assign rfl rfl rfl ?_
          refine RL.nil ?_
          refine NX.roundP (v.1 + 1, Y5) ⟨by omega, hY5⟩ (by show (1 + arN n0 6) - (v.1 + 1) < (1 + arN n0 6) - v.1; omega) ⟨rfl, rfl, rfl, rfl, rfl, trivial⟩ (fun w hw => (hw.to 1 [0] 2 [0] rfl))
        · skip
          refine TR.exit ?_
          refine NX.exitThen ?_
          refine NX.exitThen ?_
          refine NX.exitHere ?_
          refine NX.seq ?_
          refine TR.seq ?_
          refine TR.region ?_
          refine RL.move rfl rfl rfl ?_
          refine RL.call rfl rfl Try.call15 rfl (getR_spec (k := [110, 57]) (X := v.2) hv.2 (by decide) (by omega) (.head _)) (fun Y6 => ?_)
          obtain ⟨Y6, hY6⟩ := Y6
          dsimp only at hY6 ⊢
          refine RL.move rfl rfl rfl ?_
          refine RL.extract rfl rfl rfl rfl ?_
          refine RL.extract rfl rfl rfl rfl ?_
          refine RL.assign rfl rfl rfl ?_
          refine RL.assign rfl rfl rfl ?_
          refine RL.nil ?_
          refine NX.seq ?_
          refine TR.seq ?_
          refine TR.region ?_
          refine RL.move rfl rfl rfl ?_
          refine RL.call rfl rfl Try.call15 rfl (getR_spec (k := [110, 48]) (X := Y6) hY6 (by decide) (by omega) (.head _)) (fun Y7 => ?_)
          obtain ⟨Y7, hY7⟩ := Y7
          dsimp only at hY7 ⊢
          refine RL.move rfl rfl rfl ?_
          refine RL.extract rfl rfl rfl rfl ?_
          refine RL.extract rfl rfl rfl rfl ?_
          refine RL.assign rfl rfl rfl ?_
          refine RL.assign rfl rfl rfl ?_
          refine RL.nil ?_
          refine NX.seq ?_
          refine TR.seq ?_
          refine TR.region ?_
          refine RL.move rfl rfl rfl ?_
          refine RL.bin rfl rfl rfl (BinV.to (d := true) BinV.eql (decide_eq_true hrc.2.1)) rfl ?_
          refine RL.move rfl rfl rfl ?_
          refine RL.move rfl rfl rfl ?_
          refine RL.bin rfl rfl rfl (BinV.to (d := true) BinV.eql (decide_eq_true hrc.2.2.1)) rfl ?_
          refine RL.pickT rfl rfl rfl rfl ?_
          refine RL.move rfl rfl rfl ?_
          refine RL.move rfl rfl rfl ?_
          refine RL.move rfl rfl rfl ?_
          refine RL.bin rfl rfl rfl (BinV.to (d := true) BinV.eqlS (decide_eq_true hrc.2.2.2)) rfl ?_
          refine RL.pickT rfl rfl rfl rfl ?_
          refine RL.move rfl rfl rfl ?_
          refine RL.call rfl rfl Try.call17 rfl (lives_spec) (fun _ => ?_)
          refine RL.pickT rfl rfl rfl rfl ?_
          refine RL.assign rfl rfl rfl ?_
          refine RL.nil ?_
          refine NX.seq ?_
          refine TR.ret ?_
          exact NX.ret1 () rfl rfl rfl (fun w hw => ((hw.to 1 [0] 3 [] rfl)).tail)
end Go.Proofs.Ythefimaaeilefaa

namespace Go.Proofs.Ythefimaaeilefaa
open Go.ChangeShapes Go.WideShapes Go.ChangeAt Go.RowKit Go.GL Go.GL.Tree
theorem memoCycles_params : Try.f3.params = #[3, 22, 3] := by kernel_rfl
set_option maxRecDepth 100000 in
theorem memoCycles_lifted (os : Os) (started : os.Started) (H : Type) (enc : TypeId × Value → H) :
    ReturnsInHanded {} Try.checked os 3 .any (Rows.memoCyclesSpec.pre6 enc Try.prog Try.f3 Rows.memoCyclesRow.domain false) (Rows.memoCyclesSpec.post enc Try.prog Try.f3 false true false false) := by
  refine returnsInHanded_of_change (C := Try.checked) own_ started (by kernel_rfl) Try.func3
    (ChangeSpec.witness6 (enc := enc) (C := Try.checked) false ⟨#[], #[.int .i64 0, .slice none 0 0, .int .i64 0], []⟩ 8 (by kernel_rfl) (by kernel_rfl) (by kernel_rfl) (by kernel_rfl)) ?_
  intro W base args ds gs before hval0 hW _ _
  have hval : ∀ (j : Nat) t v, Try.f3.params[j]? = some t → args[j]? = some v → Value.okWide Try.prog W .any base t v := hval0
  have hW' := hW
  obtain ⟨p, q, hA0, hV, rfl, hfz, hnd⟩ := hW
  have hA : DataW.TrodAll enc Try.prog W 0 (fun _ => true) true Try.f3.params.toList args.toList ds p := hA0
  rw [memoCycles_params] at hA hval
  obtain ⟨v0, vs0, d0, ds0, p0, q0, hargs, rfl, rfl, h0, r0⟩ := trodAll_cons hA
  obtain ⟨v1, vs1, d1, ds1, p1, q1, rfl, rfl, rfl, h1, r1⟩ := trodAll_cons r0
  obtain ⟨v2, vs2, d2, ds2, p2, q2, rfl, rfl, rfl, h2, r2⟩ := trodAll_cons r1
  obtain ⟨rfl, rfl, rfl⟩ := trodAll_nil r2
  obtain rfl : args = #[v0, v1, v2] := by cases args; simp_all
  obtain ⟨o0, rfl, _, _, ho0⟩ := open_int (isI64_is i64_3) (hval 0 3 v0 rfl rfl) h0
  have hoi0 : -9223372036854775808 ≤ o0 ∧ o0 ≤ 9223372036854775807 := by simpa [Lit.wf, IntKind.min, IntKind.max, IntKind.signed, IntKind.bits] using ho0
  obtain ⟨oa1, ca1, xs1, rfl, hxa1, hxl1, hxm1, hxr1⟩ := in_ints1 sl22 i64_3 one3 (hval 1 22 v1 rfl rfl) h1
  have hok1 : IntsOk xs1 := ⟨by simp [maxLen] at hxm1; omega, hxr1⟩
  obtain ⟨o2, rfl, _, _, ho2⟩ := open_int (isI64_is i64_3) (hval 2 3 v2 rfl rfl) h2
  have hoi2 : -9223372036854775808 ≤ o2 ∧ o2 ≤ 9223372036854775807 := by simpa [Lit.wf, IntKind.min, IntKind.max, IntKind.signed, IntKind.bits] using ho2
  have hwalk := law_run (W := W) (law_cycles (n0 := o0) (ys := xs1) (cut := o2) (ob := oa1) (cb := ca1) (M := []) (F := [OldF W, ArrF oa1 (ints xs1)]) hoi0 (.tail _ (.head _)) hok1 hoi2) (fun φ hφ => by
      rcases List.mem_cons.1 hφ with e | hφ
      · subst e; exact hxa1
      cases hφ)
  exact hwalk.mono fun e W' ⟨he, hb⟩ => ⟨_, he, law_post (tb := 4) laidOut_ (by kernel_rfl) rfl (by kernel_rfl) (by kernel_rfl) rfl hW' hb⟩
theorem memoCycles_holds : Rows.MemoCyclesSaid :=
  OpenClaim.holds_of_wide 3 Try.f3 rfl rfl rfl rfl rfl rfl rfl ⟨rfl, rfl, rfl, rfl, rfl⟩ rfl rfl rfl rfl rfl (by kernel_rfl) Try.func3 (by kernel_rfl)
    (of_decide_eq_true (by kernel_rfl)) (by unfold Func.isWrapper; first | (rw [if_pos (by decide +kernel)]; kernel_rfl) | (rw [if_neg (by decide +kernel)]; exact ⟨rfl, rfl⟩))
    (fun os started H enc _ => memoCycles_lifted os started H enc)
end Go.Proofs.Ythefimaaeilefaa
