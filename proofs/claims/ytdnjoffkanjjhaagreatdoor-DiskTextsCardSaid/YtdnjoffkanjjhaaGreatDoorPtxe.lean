/- The law DiskTexts holds: whatever the input, it returns true and the input reads as it did; its card: the two tables of the lexer read as the program's own text lays them (the tie is given). Condition: the tables read so when the call begins; the card ties that to the text. -/
import Derived.Shelf.Strings.IndexAnyAll
import Derived.Test.YtdnjoffkanjjhaaGreatDoorChecked
import Derived.Test.YtdnjoffkanjjhaaGreatDoorTie
import Derived.Test.YtdnjoffkanjjhaaGreatDoorCards
import Derived.ProofKit
import Derived.LaidMore
import Derived.OpenShut
import Derived.Stop.Joined
import Derived.SevenTiedAt
import Derived.Test.YtdnjoffkanjjhaaGreatDoorPtxd
set_option linter.unusedVariables false
set_option linter.unusedSimpArgs false
namespace Go.GL
set_option linter.unusedVariables false
structure SyA (a b : Am) : Prop where
  ok : (syncA (armA a (-1))).1 = 0
  on1 : (armA a (-1)).off = false
  e : b = (syncA (armA a (-1))).2
  off : b.off = false
  plan : b.plan = none
  B : b.B = a.B
  D : b.D = fun k => (a.B k).length
theorem SyA.of {a : Am} (h : a.off = false) : SyA a (syncA (armA a (-1))).2 := by
  have e1 : armA a (-1) = { a with plan := none } := by unfold armA; rw [if_neg (by rw [h]; simp)]; rfl
  have e2 : syncA { a with plan := none } = (0, { a with plan := none, D := fun k => (a.B k).length }) := by
    unfold syncA
    rw [if_neg (by show ¬ a.off = true; rw [h]; simp)]
    rfl
  refine ⟨?_, ?_, rfl, ?_, ?_, ?_, ?_⟩ <;> rw [e1] <;> first | (rw [e2]) | exact h
  exact h
structure GoA (a0 a : Am) : Prop where
  off : a.off = false
  plan : a.plan = none
  D : a.D = a0.D
  pre : ∀ n, ∃ y, a.B n = a0.B n ++ y
theorem GoA.refl {a : Am} (h1 : a.off = false) (h2 : a.plan = none) : GoA a a := ⟨h1, h2, rfl, fun n => ⟨[], by simp⟩⟩
theorem GoA.app {a0 a : Am} (h : GoA a0 a) (n : Int) (x : List UInt8) : GoA a0 (appA a n x).2 := by
  by_cases h1 : there n
  · by_cases h3 : a.room < usedA a.B + x.length
    · rw [appA_full h1 h.off h3]; exact h
    · obtain ⟨k, rfl⟩ : ∃ k : Nat, n = k := ⟨n.toNat, by have := h1.1; omega⟩
      rw [appA_go (by have := h1.2; omega) h.off h3]
      have hs : stepA { a with B := upd a.B k (a.B k ++ x) } = (true, { a with B := upd a.B k (a.B k ++ x) }) := by unfold stepA; simp only [h.plan]
      rw [hs]
      refine ⟨h.off, h.plan, h.D, fun m => ?_⟩
      obtain ⟨y, hy⟩ := h.pre m
      show ∃ z, upd a.B k (a.B k ++ x) m = _
      unfold upd
      by_cases e : m = k
      · subst e; rw [if_pos rfl]; exact ⟨y ++ x, by rw [hy, List.append_assoc]⟩
      · rw [if_neg e]; exact ⟨y, hy⟩
  · rw [appA_arg h1]; exact h
structure DurA (a b x : Am) (kk : List Int) (fl : Int) (n : Nat) : Prop where
  c : crashB b.B b.D kk fl n = a.B n
  le : (a.B n).length ≤ (crashB x.B x.D kk fl n).length
  tk : (crashB x.B x.D kk fl n).take (a.B n).length = a.B n
  up : (crashB x.B x.D kk fl n).length ≤ (x.B n).length
theorem SyA.dur {a b x : Am} (h : SyA a b) (g : GoA b x) (kk : List Int) (fl : Int) (n : Nat) : DurA a b x kk fl n := by
  have hD : x.D n = (a.B n).length := by rw [g.D, h.D]
  obtain ⟨y, hy⟩ := g.pre n
  rw [h.B] at hy
  have hf := crashB_firm (B := x.B) (D := x.D) kk fl n (by rw [hD, hy, List.length_append]; omega)
  rw [hD] at hf
  refine ⟨?_, hf.2, ?_, ?_⟩
  · rw [crashB_hard (fun k => by rw [h.D, h.B]), h.B]
  · rw [hf.1, hy, List.take_left]
  · rw [crashB_len]; exact cutB_len _ _ _ _
end Go.GL

namespace Go.GL
set_option linter.unusedVariables false
def tA (x y : List UInt8) : Nat → Am
  | 0 => ⟨10000, false, none, fun _ => [], fun _ => 0⟩
  | i + 1 => (appA (appA (tA x y i) ((5 + i : Nat) : Int) x).2 ((5 + i : Nat) : Int) y).2
def setB (a : Am) (B : Nat → List UInt8) : Am := ⟨a.room, a.off, a.plan, B, a.D⟩
theorem appA_calm {a : Am} {n : Nat} {x : List UInt8} (hn : n < 64) (ho : a.off = false) (hp : a.plan = none) (hf : usedA a.B + x.length ≤ a.room) : (appA a (n : Int) x).2 = setB a (upd a.B n (a.B n ++ x)) := by
  rw [appA_go hn ho (by omega)]
  have hs : stepA { a with B := upd a.B n (a.B n ++ x) } = (true, { a with B := upd a.B n (a.B n ++ x) }) := by unfold stepA; simp only [hp]
  rw [hs]
  rfl
theorem appA_other {a : Am} {n : Int} {x : List UInt8} {k : Nat} (h : (k : Int) ≠ n) : (appA a n x).2.B k = a.B k := by
  unfold appA
  split
  · rfl
  split
  · rfl
  split
  · rfl
  · rename_i h1 _ _
    have hn : there n := Decidable.of_not_not h1
    show (stepA _).2.B k = _
    rw [(stepA_BD _).1]
    show upd a.B n.toNat _ k = _
    unfold upd
    rw [if_neg (by have := hn.1; omega)]
structure TxA (x y : List UInt8) (i : Nat) (a : Am) : Prop where
  off : a.off = false
  plan : a.plan = none
  room : a.room = 10000
  us : usedA a.B = i * (x.length + y.length)
  B : ∀ m, a.B m = if 5 ≤ m ∧ m < 5 + i then x ++ y else []
theorem TxA.step {x y : List UInt8} {i : Nat} {a : Am} (h : 2 * (x.length + y.length) ≤ 10000) (hi : i ≤ 1) (h0 : TxA x y i a) : TxA x y (i + 1) (appA (appA a ((5 + i : Nat) : Int) x).2 ((5 + i : Nat) : Int) y).2 := by
  have hb5 : a.B (5 + i) = [] := by rw [h0.B, if_neg (by omega)]
  have hi1 : i * (x.length + y.length) ≤ x.length + y.length :=
    calc i * (x.length + y.length) ≤ 1 * (x.length + y.length) := Nat.mul_le_mul_right _ hi
      _ = _ := Nat.one_mul _
  have hus := h0.us; have hrm := h0.room
  generalize hL : i * (x.length + y.length) = L at hus hi1
  have e1 : (appA a ((5 + i : Nat) : Int) x).2 = setB a (upd a.B (5 + i) x) := by
    rw [appA_calm (by omega) h0.off h0.plan (by omega), hb5, List.nil_append]
  have u1 : usedA (upd a.B (5 + i) x) = L + x.length := by
    have := used_upd (B := a.B) (n := 5 + i) (v := x) (by omega)
    rw [hb5, hus] at this
    simpa using this
  have u5 : upd a.B (5 + i) x (5 + i) = x := by unfold upd; rw [if_pos rfl]
  have e2 : (appA (setB a (upd a.B (5 + i) x)) ((5 + i : Nat) : Int) y).2 = setB a (upd (upd a.B (5 + i) x) (5 + i) (x ++ y)) := by
    rw [appA_calm (a := setB a (upd a.B (5 + i) x)) (by omega) h0.off h0.plan (by show usedA (upd _ _ _) + _ ≤ a.room; rw [u1]; omega)]
    show setB a (upd (upd a.B (5 + i) x) (5 + i) (upd a.B (5 + i) x (5 + i) ++ y)) = _
    rw [u5]
  rw [e1, e2]
  refine ⟨h0.off, h0.plan, h0.room, ?_, fun m => ?_⟩
  · show usedA (upd (upd _ _ _) _ _) = _
    have := used_upd (B := upd a.B (5 + i) x) (n := 5 + i) (v := x ++ y) (by omega)
    rw [u1, u5, List.length_append] at this
    rw [Nat.add_mul, Nat.one_mul, hL]
    omega
  · show upd (upd a.B (5 + i) x) (5 + i) (x ++ y) m = _
    unfold upd
    by_cases e : m = 5 + i
    · rw [if_pos e, if_pos (by omega)]
    · rw [if_neg e, if_neg e, h0.B]
      by_cases e2 : 5 ≤ m ∧ m < 5 + i
      · rw [if_pos e2, if_pos (by omega)]
      · rw [if_neg e2, if_neg (by omega)]
theorem tA_ok {x y : List UInt8} (h : 2 * (x.length + y.length) ≤ 10000) : ∀ i, i ≤ 2 → TxA x y i (tA x y i)
  | 0, _ => ⟨rfl, rfl, rfl, by
      show usedA (fun _ => []) = _
      rw [Nat.zero_mul]; rfl, fun m => by
      rw [if_neg (by omega)]; rfl⟩
  | i + 1, hi => (tA_ok h i (by omega)).step h (by omega)
def tS (x y : List UInt8) : Am := (syncA (tA x y 2)).2
def tE (x y : List UInt8) (ks : List Int) (fl : Int) : Am := crashA (appA (appA (tS x y) 6 [9, 9, 9]).2 8 [1]).2 ks fl
theorem tE_ok {x y : List UInt8} (h : 2 * (x.length + y.length) ≤ 10000) (ks : List Int) (fl : Int) {i : Nat} (hi : i < 2) : ∃ z, (tE x y ks fl).B (5 + i) = (x ++ y) ++ z ∧ (i = 0 → z = []) := by
  have h0 := tA_ok h 2 (Nat.le_refl _)
  have ha : armA (tA x y 2) (-1) = tA x y 2 := by
    unfold armA
    rw [if_neg (by rw [h0.off]; simp), if_neg (by decide)]
    have := h0.plan
    cases hq : tA x y 2
    rw [hq] at this
    simp_all
  have hs := SyA.of h0.off
  rw [ha] at hs
  have g := ((GoA.refl hs.off hs.plan).app 6 [9, 9, 9]).app 8 [1]
  have d := hs.dur g ks fl (5 + i)
  have hB : (tA x y 2).B (5 + i) = x ++ y := by rw [h0.B, if_pos (by omega)]
  have dt := d.tk; have dl := d.le; have du := d.up
  rw [hB] at dt dl
  refine ⟨((tE x y ks fl).B (5 + i)).drop (x ++ y).length, ?_, fun e => ?_⟩
  · have := (List.take_append_drop (x ++ y).length ((tE x y ks fl).B (5 + i))).symm
    rw [show ((tE x y ks fl).B (5 + i)).take (x ++ y).length = x ++ y from dt] at this
    exact this
  · subst e
    rw [appA_other (by decide), appA_other (by decide), hs.B, hB] at du
    exact List.drop_eq_nil_of_le du
theorem tkC_len (l : List Tk) : (tkC l).length = l.length * 3 := by
  induction l with
  | nil => rfl
  | cons t l ih => rw [tkC]; simp [ih]; omega
theorem tkC_ne {l : List Tk} {k : Nat} (h : k < l.length) : tkC l ≠ [] := fun e => by
  have := tkC_len l; rw [e] at this; simp at this; omega
theorem tkC_at : ∀ {l : List Tk} {k : Nat} (h : k < l.length) (f : Nat) (v : Value), (tkV l[k])[f]? = some v → (tkC l)[k * 3 + f]? = some v
  | t :: l, 0, _, f, v, hv => by
    match f, hv with
    | 0, hv => simpa [tkC, tkV] using hv
    | 1, hv => simpa [tkC, tkV] using hv
    | 2, hv => simpa [tkC, tkV] using hv
    | f + 3, hv => simp [tkV] at hv
  | t :: l, k + 1, h, f, v, hv => by
    have := tkC_at (l := l) (k := k) (by simpa using h) f v (by simpa using hv)
    rw [tkC, show (k + 1) * 3 + f = (k * 3 + f) + 1 + 1 + 1 from by omega]
    simpa using this
theorem run_tk {P : Program} {w : World} {K : List Nat} {b off T k : Nat} {l : List Tk} (h : CellsAt w K b off (tkC l)) (ht : tyAgg P T 3 = true) (hk : k < l.length) : Reads P w T ⟨b, off + (k : Int).toNat * 3, none⟩ (.agg (tkV l[k]).toArray) :=
  run_loadVar_agg ht rfl fun j v hv => by
    rw [addr_add, Int.toNat_natCast]
    show w.cell? ⟨b, off + k * 3 + j, none⟩ = some v
    rw [Nat.add_assoc]
    exact h.2.2 _ _ (tkC_at hk j v hv)
end Go.GL

namespace Go.Proofs.YtdnjoffkanjjhaaGreatDoor
open Go.GL
set_option linter.unusedVariables false
theorem gd_ni22 : noInt Tryz.prog 22 = true := by kernel_rfl
theorem gd_te3 : tyElem Tryz.prog 3 1 8 = true := by kernel_rfl
theorem gd_tl22 : tySlice Tryz.prog 22 3 = true := by kernel_rfl
theorem gd_tz3 : tySize Tryz.prog 3 1 = true := by kernel_rfl
theorem p_append {n : Int} {x : List UInt8} {ob : Option Addr} {cb : Nat} {b : Nat} {s : Ds} {a : Am} {M : List HP} {F : List Fact} (h : RelP s a) (hA : AllF s.fs ∈ F) (hx : ArrF ob (bytesV x) ∈ F) (hn : I64 n) (hxl : x.length ≤ 4398046511104) : Ctr Tryz.prog 12 [.pointer (some ⟨b, 0, none⟩), I n, .slice ob x.length cb] (DkB 57 b (s) :: M) F {q : Ds // RelP q (appA a n x).2} (fun _ => I (appA a n x).1) (fun q => DkB 57 b q.1 :: M) (fun q => AllF q.1.fs :: F) :=
  (dapp_d h.ok h.lft h.rm hA hx hn hxl).weak (fun w hw => hw) (fun z => ⟨appS s n x z.1, (h.append z.2).2⟩) (fun z => by show I (appE s n x) = _; rw [(h.append z.2).1]) (fun z w hw => hw)
theorem p_sync  {b : Nat} {s : Ds} {a : Am} {M : List HP} {F : List Fact} (h : RelP s a) (hA : AllF s.fs ∈ F)  : Ctr Tryz.prog 13 [.pointer (some ⟨b, 0, none⟩)] (DkB 57 b (s) :: M) F {q : Ds // RelP q (syncA a).2} (fun _ => I (syncA a).1) (fun q => DkB 57 b q.1 :: M) (fun q => AllF q.1.fs :: F) :=
  (sync_d h.ok h.lft hA).weak (fun w hw => hw) (fun _ => ⟨syncS s, h.sync.2⟩) (fun _ => by show I (syncE s) = _; rw [h.sync.1]) (fun _ w hw => hw)
theorem p_crash {ks : List Int} {fl : Int} {ok : Option Addr} {ck : Nat} {b : Nat} {s : Ds} {a : Am} {M : List HP} {F : List Fact} (h : RelP s a) (hA : AllF s.fs ∈ F) (hK : ArrF ok (ints ks) ∈ F) (hks : IntsOk ks) (hfl : I64 fl) : Ctr Tryz.prog 14 [.pointer (some ⟨b, 0, none⟩), .slice ok ks.length ck, I fl] (DkB 57 b (s) :: M) F {q : Ds // RelP q (crashA a ks fl)} (fun _ => .tuple #[]) (fun q => DkB 57 b q.1 :: M) (fun q => AllF q.1.fs :: F) :=
  (crash_d h.ok hA hK hks (Nat.le_trans h.rm.used h.rm.room) hfl).weak (fun w hw => hw) (fun t => ⟨t.1, h.crash t.2⟩) (fun _ => rfl) (fun _ w hw => hw)
theorem p_read_on {n : Nat} {b : Nat} {s : Ds} {a : Am} {M : List HP} {F : List Fact} (h : RelP s a) (hA : AllF s.fs ∈ F) (hn : n < 64) (ho : a.off = false) : Ctr Tryz.prog 17 [.pointer (some ⟨b, 0, none⟩), I (n : Int)] (DkB 57 b (s) :: M) F (Option Addr × Nat) (fun z => .tuple #[.slice z.1 (a.B n).length z.2, I 0]) (fun z => OwnSl 5 1 z.1 (a.B n).length z.2 (bytesV (a.B n)) :: DkB 57 b (s) :: M) (fun _ => F) := by
  have h1 := read_d (b := b) (s := s) (n := (n : Int)) (M := M) h.ok h.rm hA ⟨by omega, by omega⟩
  have hth : there (n : Int) := ⟨by omega, by omega⟩
  have e1 : readB s (n : Int) = a.B n := by unfold readB; rw [if_neg (not_not_intro hth), h.off, ← h.b n hn, ho]; rfl
  have e2 : readE s (n : Int) = 0 := by unfold readE; rw [if_neg (not_not_intro hth), h.off, ho]; rfl
  rw [e1, e2] at h1
  exact h1
theorem ints3_spec {xs : List Int} {oa : Option Addr} {c : Nat} {M : List HP} {F : List Fact} (ha : ArrF oa (ints xs) ∈ F) (hc : xs.length ≤ c) : Ctr Tryz.prog 15 [.slice oa xs.length c, I 3] M F (Option Addr × Nat) (fun z => .slice z.1 (xs.take 3).length z.2) (fun z => OwnSl 3 1 z.1 (xs.take 3).length z.2 (ints (xs.take 3)) :: M) (fun _ => F) := by
  refine Ctr.body Tryz.func15 rfl rfl ?_
  refine TR.seq ?_
  refine TR.region ?_
  refine RL.assign rfl rfl rfl ?_
  refine RL.nil ?_
  refine NX.seq ?_
  refine TR.seq ?_
  refine TR.region ?_
  refine RL.assign rfl rfl rfl ?_
  refine RL.weak (fun w hw => OwnSl.nil_new 3 1 hw) ?_
  refine RL.nil ?_
  refine NX.seq ?_
  refine TR.seq ?_
  refine TR.weak (fun w hw => hw.cutI 3 hc ha) ?_
  refine TR.region ?_
  refine RL.move rfl rfl rfl ?_
  refine RL.move rfl rfl rfl ?_
  refine RL.move rfl rfl rfl ?_
  refine RL.lenSlice rfl gd_tl22 rfl rfl ?_
  refine RL.move rfl rfl rfl ?_
  refine RL.min rfl rfl rfl rfl ?_
  refine RL.sliceLH (l := 0) (h := (xs.take 3).length) rfl gd_tl22 gd_tz3 rfl (.inl ⟨rfl, rfl⟩) (.inr ⟨_, rfl, by show some (I (min (xs.length : Int) 3)) = some (I ((xs.take 3).length : Nat)); rw [List.length_take]; congr 2; omega⟩) (Nat.zero_le _) (by rw [List.length_take]; omega) rfl ?_
  refine RL.ofGV rfl rfl (GV.append (j := 0) gd_tl22 gd_ni22 gd_te3 rfl rfl rfl (src_fact (xs := ints (xs.take 3)) (.head _) (by rw [Nat.mul_one, Nat.sub_zero]; simp [ints]) (ints_one _)) (by rw [List.length_take]; omega) (by rw [List.length_take]; omega)) (fun y => ?_)
  refine RL.assign rfl rfl rfl ?_
  refine RL.nil ?_
  refine NX.seq ?_
  refine TR.ret ?_
  refine NX.ret1 (y.1, y.2) rfl rfl (by rw [Nat.zero_add, Nat.sub_zero]) (fun w hw => ?_)
  have h9 : St w (OwnSl 3 1 y.1 (0 + ((xs.take 3).length - 0)) y.2 ([] ++ ints (xs.take 3)) :: M) F := (hw.to 1 [0] 1 [] rfl)
  rw [Nat.zero_add, Nat.sub_zero] at h9
  exact h9
end Go.Proofs.YtdnjoffkanjjhaaGreatDoor

namespace Go.Proofs.YtdnjoffkanjjhaaGreatDoor
open Go.GL
set_option linter.unusedVariables false
theorem in_spec {c : UInt8} {lo hi : Nat} {M : List HP} {F : List Fact} : Ctr Tryz.prog 90 [.int .u8 (c.toNat : Nat), .int .u8 (lo : Nat), .int .u8 (hi : Nat)] M F Unit (fun _ => .bool (inB lo hi c)) (fun _ => M) (fun _ => F) := by
  refine Ctr.body Tryz.func90 rfl rfl ?_
  refine TR.seq ?_
  refine TR.region ?_
  refine RL.assign rfl rfl rfl ?_
  refine RL.nil ?_
  refine NX.seq ?_
  refine TR.seq ?_
  refine TR.region ?_
  refine RL.move rfl rfl rfl ?_
  refine RL.move rfl rfl rfl ?_
  refine RL.bin rfl rfl rfl BinV.geq rfl ?_
  refine RL.move rfl rfl rfl ?_
  refine RL.part (fun h1 => ?_) (fun h1 => ?_)
  · skip
    have h1_3 := of_decide_eq_true h1
    refine RL.move rfl rfl rfl ?_
    refine RL.move rfl rfl rfl ?_
    refine RL.bin rfl rfl rfl BinV.leq rfl ?_
    refine RL.pickT rfl rfl rfl rfl ?_
    refine RL.assign rfl rfl rfl ?_
    refine RL.nil ?_
    refine NX.seq ?_
    refine TR.ret ?_
    exact NX.ret1 () rfl rfl (congrArg Value.bool (by unfold inB; rw [decide_eq_true (show lo ≤ c.toNat by omega), Bool.true_and]; exact decide_eq_decide.2 (by omega))) (fun w hw => hw)
  · skip
    have h1_3 := of_decide_eq_false h1
    refine RL.skip rfl rfl rfl ?_
    refine RL.skip rfl rfl rfl ?_
    refine RL.skip rfl rfl rfl ?_
    refine RL.pickF rfl rfl rfl rfl ?_
    refine RL.assign rfl rfl rfl ?_
    refine RL.nil ?_
    refine NX.seq ?_
    refine TR.ret ?_
    exact NX.ret1 () rfl rfl (congrArg Value.bool (by unfold inB; rw [decide_eq_false (show ¬ lo ≤ c.toNat by omega), Bool.false_and])) (fun w hw => hw)
theorem lower_spec {c : UInt8} {M : List HP} {F : List Fact} : Ctr Tryz.prog 71 [.int .u8 (c.toNat : Nat)] M F Unit (fun _ => .bool (loB c)) (fun _ => M) (fun _ => F) := by
  refine Ctr.body Tryz.func71 rfl rfl ?_
  refine TR.seq ?_
  refine TR.region ?_
  refine RL.assign rfl rfl rfl ?_
  refine RL.nil ?_
  refine NX.seq ?_
  refine TR.seq ?_
  refine TR.region ?_
  refine RL.move rfl rfl rfl ?_
  refine RL.call rfl rfl Tryz.call90 rfl (in_spec (lo := 97) (hi := 122)) (fun _ => ?_)
  refine RL.assign rfl rfl rfl ?_
  refine RL.nil ?_
  refine NX.seq ?_
  refine TR.ret ?_
  exact NX.ret1 () rfl rfl rfl (fun w hw => hw)
theorem upper_spec {c : UInt8} {M : List HP} {F : List Fact} : Ctr Tryz.prog 74 [.int .u8 (c.toNat : Nat)] M F Unit (fun _ => .bool (upB c)) (fun _ => M) (fun _ => F) := by
  refine Ctr.body Tryz.func74 rfl rfl ?_
  refine TR.seq ?_
  refine TR.region ?_
  refine RL.assign rfl rfl rfl ?_
  refine RL.nil ?_
  refine NX.seq ?_
  refine TR.seq ?_
  refine TR.region ?_
  refine RL.move rfl rfl rfl ?_
  refine RL.call rfl rfl Tryz.call90 rfl (in_spec (lo := 65) (hi := 90)) (fun _ => ?_)
  refine RL.assign rfl rfl rfl ?_
  refine RL.nil ?_
  refine NX.seq ?_
  refine TR.ret ?_
  exact NX.ret1 () rfl rfl rfl (fun w hw => hw)
theorem digit_spec {c : UInt8} {M : List HP} {F : List Fact} : Ctr Tryz.prog 76 [.int .u8 (c.toNat : Nat)] M F Unit (fun _ => .bool (dgB c)) (fun _ => M) (fun _ => F) := by
  refine Ctr.body Tryz.func76 rfl rfl ?_
  refine TR.seq ?_
  refine TR.region ?_
  refine RL.assign rfl rfl rfl ?_
  refine RL.nil ?_
  refine NX.seq ?_
  refine TR.seq ?_
  refine TR.region ?_
  refine RL.move rfl rfl rfl ?_
  refine RL.call rfl rfl Tryz.call90 rfl (in_spec (lo := 48) (hi := 57)) (fun _ => ?_)
  refine RL.assign rfl rfl rfl ?_
  refine RL.nil ?_
  refine NX.seq ?_
  refine TR.ret ?_
  exact NX.ret1 () rfl rfl rfl (fun w hw => hw)
theorem line_spec {c : UInt8} {M : List HP} {F : List Fact} : Ctr Tryz.prog 64 [.int .u8 (c.toNat : Nat)] M F Unit (fun _ => .bool (lnB c)) (fun _ => M) (fun _ => F) := by
  refine Ctr.body Tryz.func64 rfl rfl ?_
  refine TR.seq ?_
  refine TR.region ?_
  refine RL.assign rfl rfl rfl ?_
  refine RL.nil ?_
  refine NX.seq ?_
  refine TR.seq ?_
  refine TR.region ?_
  refine RL.move rfl rfl rfl ?_
  refine RL.bin rfl rfl rfl BinV.neq rfl ?_
  refine RL.assign rfl rfl rfl ?_
  refine RL.nil ?_
  refine NX.seq ?_
  refine TR.ret ?_
  exact NX.ret1 () rfl rfl (congrArg Value.bool (decide_eq_decide.2 (by omega))) (fun w hw => hw)
theorem word_spec {c : UInt8} {M : List HP} {F : List Fact} : Ctr Tryz.prog 72 [.int .u8 (c.toNat : Nat)] M F Unit (fun _ => .bool (woB c)) (fun _ => M) (fun _ => F) := by
  refine Ctr.body Tryz.func72 rfl rfl ?_
  refine TR.seq ?_
  refine TR.region ?_
  refine RL.assign rfl rfl rfl ?_
  refine RL.nil ?_
  refine NX.seq ?_
  refine TR.seq ?_
  refine TR.region ?_
  refine RL.move rfl rfl rfl ?_
  refine RL.call rfl rfl Tryz.call71 rfl (lower_spec) (fun _ => ?_)
  refine RL.move rfl rfl rfl ?_
  refine RL.part (fun h1 => ?_) (fun h1 => ?_)
  · skip
    have h1_2 := h1
    refine RL.skip rfl rfl rfl ?_
    refine RL.skip rfl rfl rfl ?_
    refine RL.pickT rfl rfl rfl rfl ?_
    refine RL.move rfl rfl rfl ?_
    refine RL.skip rfl rfl rfl ?_
    refine RL.skip rfl rfl rfl ?_
    refine RL.pickT rfl rfl rfl rfl ?_
    refine RL.assign rfl rfl rfl ?_
    refine RL.nil ?_
    refine NX.seq ?_
    refine TR.ret ?_
    exact NX.ret1 () rfl rfl (congrArg Value.bool (by unfold woB; rw [h1_2]; rfl)) (fun w hw => hw)
  · skip
    have h1_2 := h1
    refine RL.move rfl rfl rfl ?_
    refine RL.call rfl rfl Tryz.call76 rfl (digit_spec) (fun _ => ?_)
    refine RL.pickF rfl rfl rfl rfl ?_
    refine RL.move rfl rfl rfl ?_
    refine RL.part (fun h2 => ?_) (fun h2 => ?_)
    · skip
      have h1_6 := h2
      refine RL.skip rfl rfl rfl ?_
      refine RL.skip rfl rfl rfl ?_
      refine RL.pickT rfl rfl rfl rfl ?_
      refine RL.assign rfl rfl rfl ?_
      refine RL.nil ?_
      refine NX.seq ?_
      refine TR.ret ?_
      exact NX.ret1 () rfl rfl (congrArg Value.bool (by unfold woB; rw [h1_2, h1_6]; rfl)) (fun w hw => hw)
    · skip
      have h1_6 := h2
      refine RL.move rfl rfl rfl ?_
      refine RL.bin rfl rfl rfl BinV.eql rfl ?_
      refine RL.pickF rfl rfl rfl rfl ?_
      refine RL.assign rfl rfl rfl ?_
      refine RL.nil ?_
      refine NX.seq ?_
      refine TR.ret ?_
      exact NX.ret1 () rfl rfl (congrArg Value.bool (by unfold woB; rw [h1_2, h1_6, Bool.false_or, Bool.false_or] <;> exact decide_eq_decide.2 (by omega))) (fun w hw => hw)
theorem name_spec {c : UInt8} {M : List HP} {F : List Fact} : Ctr Tryz.prog 75 [.int .u8 (c.toNat : Nat)] M F Unit (fun _ => .bool (naB c)) (fun _ => M) (fun _ => F) := by
  refine Ctr.body Tryz.func75 rfl rfl ?_
  refine TR.seq ?_
  refine TR.region ?_
  refine RL.assign rfl rfl rfl ?_
  refine RL.nil ?_
  refine NX.seq ?_
  refine TR.seq ?_
  refine TR.region ?_
  refine RL.move rfl rfl rfl ?_
  refine RL.call rfl rfl Tryz.call71 rfl (lower_spec) (fun _ => ?_)
  refine RL.move rfl rfl rfl ?_
  refine RL.part (fun h1 => ?_) (fun h1 => ?_)
  · skip
    have h1_2 := h1
    refine RL.skip rfl rfl rfl ?_
    refine RL.skip rfl rfl rfl ?_
    refine RL.pickT rfl rfl rfl rfl ?_
    refine RL.move rfl rfl rfl ?_
    refine RL.skip rfl rfl rfl ?_
    refine RL.skip rfl rfl rfl ?_
    refine RL.pickT rfl rfl rfl rfl ?_
    refine RL.assign rfl rfl rfl ?_
    refine RL.nil ?_
    refine NX.seq ?_
    refine TR.ret ?_
    exact NX.ret1 () rfl rfl (congrArg Value.bool (by unfold naB; rw [h1_2]; rfl)) (fun w hw => hw)
  · skip
    have h1_2 := h1
    refine RL.move rfl rfl rfl ?_
    refine RL.call rfl rfl Tryz.call74 rfl (upper_spec) (fun _ => ?_)
    refine RL.pickF rfl rfl rfl rfl ?_
    refine RL.move rfl rfl rfl ?_
    refine RL.part (fun h2 => ?_) (fun h2 => ?_)
    · skip
      have h1_6 := h2
      refine RL.skip rfl rfl rfl ?_
      refine RL.skip rfl rfl rfl ?_
      refine RL.pickT rfl rfl rfl rfl ?_
      refine RL.assign rfl rfl rfl ?_
      refine RL.nil ?_
      refine NX.seq ?_
      refine TR.ret ?_
      exact NX.ret1 () rfl rfl (congrArg Value.bool (by unfold naB; rw [h1_2, h1_6]; rfl)) (fun w hw => hw)
    · skip
      have h1_6 := h2
      refine RL.move rfl rfl rfl ?_
      refine RL.call rfl rfl Tryz.call76 rfl (digit_spec) (fun _ => ?_)
      refine RL.pickF rfl rfl rfl rfl ?_
      refine RL.assign rfl rfl rfl ?_
      refine RL.nil ?_
      refine NX.seq ?_
      refine TR.ret ?_
      exact NX.ret1 () rfl rfl (congrArg Value.bool (by unfold naB; rw [h1_2, h1_6, Bool.false_or, Bool.false_or] <;> skip)) (fun w hw => hw)
theorem space_spec {c : UInt8} {M : List HP} {F : List Fact} : Ctr Tryz.prog 70 [.int .u8 (c.toNat : Nat)] M F Unit (fun _ => .bool (spB c)) (fun _ => M) (fun _ => F) := by
  refine Ctr.body Tryz.func70 rfl rfl ?_
  refine TR.seq ?_
  refine TR.region ?_
  refine RL.assign rfl rfl rfl ?_
  refine RL.nil ?_
  refine NX.seq ?_
  refine TR.seq ?_
  refine TR.region ?_
  refine RL.move rfl rfl rfl ?_
  refine RL.bin rfl rfl rfl BinV.eql rfl ?_
  refine RL.move rfl rfl rfl ?_
  refine RL.part (fun h1 => ?_) (fun h1 => ?_)
  · skip
    have h1_2 := of_decide_eq_true h1
    refine RL.skip rfl rfl rfl ?_
    refine RL.skip rfl rfl rfl ?_
    refine RL.pickT rfl rfl rfl rfl ?_
    refine RL.move rfl rfl rfl ?_
    refine RL.skip rfl rfl rfl ?_
    refine RL.skip rfl rfl rfl ?_
    refine RL.pickT rfl rfl rfl rfl ?_
    refine RL.move rfl rfl rfl ?_
    refine RL.skip rfl rfl rfl ?_
    refine RL.skip rfl rfl rfl ?_
    refine RL.pickT rfl rfl rfl rfl ?_
    refine RL.assign rfl rfl rfl ?_
    refine RL.nil ?_
    refine NX.seq ?_
    refine TR.ret ?_
    exact NX.ret1 () rfl rfl (congrArg Value.bool (by unfold spB; rw [decide_eq_true (show c.toNat = 9 by omega), Bool.true_or])) (fun w hw => hw)
  · skip
    have h1_2 := of_decide_eq_false h1
    refine RL.move rfl rfl rfl ?_
    refine RL.bin rfl rfl rfl BinV.eql rfl ?_
    refine RL.pickF rfl rfl rfl rfl ?_
    refine RL.move rfl rfl rfl ?_
    refine RL.part (fun h2 => ?_) (fun h2 => ?_)
    · skip
      have h1_6 := of_decide_eq_true h2
      refine RL.skip rfl rfl rfl ?_
      refine RL.skip rfl rfl rfl ?_
      refine RL.pickT rfl rfl rfl rfl ?_
      refine RL.move rfl rfl rfl ?_
      refine RL.skip rfl rfl rfl ?_
      refine RL.skip rfl rfl rfl ?_
      refine RL.pickT rfl rfl rfl rfl ?_
      refine RL.assign rfl rfl rfl ?_
      refine RL.nil ?_
      refine NX.seq ?_
      refine TR.ret ?_
      exact NX.ret1 () rfl rfl (congrArg Value.bool (by unfold spB; rw [decide_eq_false (show ¬ c.toNat = 9 by omega), Bool.false_or]; rw [decide_eq_true (show c.toNat = 10 by omega), Bool.true_or])) (fun w hw => hw)
    · skip
      have h1_6 := of_decide_eq_false h2
      refine RL.move rfl rfl rfl ?_
      refine RL.bin rfl rfl rfl BinV.eql rfl ?_
      refine RL.pickF rfl rfl rfl rfl ?_
      refine RL.move rfl rfl rfl ?_
      refine RL.part (fun h3 => ?_) (fun h3 => ?_)
      · skip
        have h1_10 := of_decide_eq_true h3
        refine RL.skip rfl rfl rfl ?_
        refine RL.skip rfl rfl rfl ?_
        refine RL.pickT rfl rfl rfl rfl ?_
        refine RL.assign rfl rfl rfl ?_
        refine RL.nil ?_
        refine NX.seq ?_
        refine TR.ret ?_
        exact NX.ret1 () rfl rfl (congrArg Value.bool (by unfold spB; rw [decide_eq_false (show ¬ c.toNat = 9 by omega), Bool.false_or]; rw [decide_eq_false (show ¬ c.toNat = 10 by omega), Bool.false_or]; rw [decide_eq_true (show c.toNat = 13 by omega), Bool.true_or])) (fun w hw => hw)
      · skip
        have h1_10 := of_decide_eq_false h3
        refine RL.move rfl rfl rfl ?_
        refine RL.bin rfl rfl rfl BinV.eql rfl ?_
        refine RL.pickF rfl rfl rfl rfl ?_
        refine RL.assign rfl rfl rfl ?_
        refine RL.nil ?_
        refine NX.seq ?_
        refine TR.ret ?_
        exact NX.ret1 () rfl rfl (congrArg Value.bool (by unfold spB; rw [decide_eq_false (show ¬ c.toNat = 9 by omega), Bool.false_or]; rw [decide_eq_false (show ¬ c.toNat = 10 by omega), Bool.false_or]; rw [decide_eq_false (show ¬ c.toNat = 13 by omega), Bool.false_or]; exact decide_eq_decide.2 (by omega))) (fun w hw => hw)
def ClsC (P : Program) (cf : FuncId) (cl : UInt8 → Bool) : Prop := (∀ args w, (callFunc cf args).run P w = .ok (.enter cf args) w) ∧ ∀ (c : UInt8) (M : List HP) (F : List Fact), Ctr P cf [.int .u8 (c.toNat : Nat)] M F Unit (fun _ => .bool (cl c)) (fun _ => M) (fun _ => F)
theorem cls_space : ClsC Tryz.prog 70 spB := ⟨Tryz.call70, fun c M F => space_spec⟩
theorem cls_line : ClsC Tryz.prog 64 lnB := ⟨Tryz.call64, fun c M F => line_spec⟩
theorem cls_word : ClsC Tryz.prog 72 woB := ⟨Tryz.call72, fun c M F => word_spec⟩
theorem cls_name : ClsC Tryz.prog 75 naB := ⟨Tryz.call75, fun c M F => name_spec⟩
theorem cls_digit : ClsC Tryz.prog 76 dgB := ⟨Tryz.call76, fun c M F => digit_spec⟩
end Go.Proofs.YtdnjoffkanjjhaaGreatDoor

namespace Go.Proofs.YtdnjoffkanjjhaaGreatDoor
open Go.GL
set_option linter.unusedVariables false
theorem nb_ta135 : tyAgg Tryz.prog 135 24 = true := by kernel_rfl
theorem nb_tar135 : tyArr Tryz.prog 135 9 24 = true := by kernel_rfl
theorem nb_tpk9 : Tryz.prog.plainKey 9 = true := by kernel_rfl
theorem nb_tstr9 : tyStr Tryz.prog 9 = true := by kernel_rfl
theorem nb_tz9 : tySize Tryz.prog 9 1 = true := by kernel_rfl
theorem run_spec {l : List UInt8} {cf : FuncId} {cl : UInt8 → Bool} {M : List HP} {F : List Fact} (hc : ClsC Tryz.prog cf cl) (hl : l.length ≤ 1099511627776) : Ctr Tryz.prog 63 [S l, .func (.func cf) #[] #[]] M F Unit (fun _ => I (rnN cl l : Nat)) (fun _ => M) (fun _ => F) := by
  refine Ctr.body Tryz.func63 rfl rfl ?_
  refine TR.seq ?_
  refine TR.region ?_
  refine RL.assign rfl rfl rfl ?_
  refine RL.nil ?_
  refine NX.seq ?_
  refine TR.seq ?_
  refine TR.region ?_
  refine RL.assign rfl rfl rfl ?_
  refine RL.nil ?_
  refine NX.seq ?_
  refine TR.seq ?_
  refine TR.block ?_
  refine TR.loopP (ι := Nat) (fun z => z ≤ l.length ∧ rnN cl l = z + rnN cl (l.drop z)) (fun z => [(0, S l), (1, .func (.func cf) #[] #[]), (5, I (z : Nat))]) (fun z => M) (fun z => F) (fun z => (l.length - z)) 0 ⟨Nat.zero_le _, by simp⟩ ⟨rfl, rfl, rfl, trivial⟩ (fun w hw => (hw.to 0 [] 0 [] rfl)) (fun z hz => ?_)
  refine TR.seq ?_
  refine TR.seq ?_
  refine TR.region ?_
  refine RL.move rfl rfl rfl ?_
  refine RL.move rfl rfl rfl ?_
  refine RL.lenStr rfl nb_tstr9 rfl rfl ?_
  refine RL.bin rfl rfl rfl BinV.lss rfl ?_
  refine RL.move rfl rfl rfl ?_
  refine RL.part (fun h1 => ?_) (fun h1 => ?_)
  · skip
    have hi : z < l.length := by have := of_decide_eq_true h1; omega
    obtain ⟨b, hb⟩ : ∃ b, l[z]? = some b := ⟨_, List.getElem?_eq_getElem hi⟩
    have hst := rnN_step (cl := cl) hb
    refine RL.move rfl rfl rfl ?_
    refine RL.move rfl rfl rfl ?_
    refine RL.move rfl rfl rfl ?_
    refine RL.indexS (u := b) rfl nb_tstr9 rfl rfl (by omega) (by rw [Int.toNat_natCast]; exact hb) rfl ?_
    refine RL.callV (fst := []) (cap := []) rfl rfl rfl hc.1 rfl (hc.2 b _ _) (fun _ => ?_)
    refine RL.pickT rfl rfl rfl rfl ?_
    refine RL.nil ?_
    refine NX.seq ?_
    refine TR.cond rfl (fun h2 => ?_) (fun h2 => ?_)
    · skip
      have hcb : cl b = true := h2
      rw [if_pos hcb] at hst
      refine TR.skip ?_
      refine NX.seq ?_
      refine TR.block ?_
      refine TR.region ?_
      refine RL.move rfl rfl rfl ?_
      refine RL.bin rfl rfl rfl (BinV.add ((z + 1 : Nat) : Int) (by omega) (by omega) (by omega)) rfl ?_
      refine RL.assign rfl rfl rfl ?_
      refine RL.nil ?_
      refine NX.off ?_
      refine NX.roundP (z + 1) ⟨by omega, by have := hz.2; omega⟩ (by omega) ⟨rfl, rfl, rfl, trivial⟩ (fun w hw => (hw.to 0 [] 0 [] rfl))
    · skip
      have hcb : cl b = false := h2
      rw [if_neg (by rw [hcb]; decide)] at hst
      refine TR.exit ?_
      refine NX.exitThen ?_
      refine NX.exitThen ?_
      refine NX.exitHere ?_
      refine NX.seq ?_
      refine TR.seq ?_
      refine TR.region ?_
      refine RL.move rfl rfl rfl ?_
      refine RL.assign rfl rfl rfl ?_
      refine RL.nil ?_
      refine NX.seq ?_
      refine TR.ret ?_
      exact NX.ret1 () rfl rfl (congrArg (fun n : Nat => I (n : Nat)) (by have h9 := hz.2; omega)) (fun w hw => hw)
  · skip
    have hi : l.length ≤ z := by have := of_decide_eq_false h1; omega
    refine RL.skip rfl rfl rfl ?_
    refine RL.skip rfl rfl rfl ?_
    refine RL.skip rfl rfl rfl ?_
    refine RL.skip rfl rfl rfl ?_
    refine RL.skip rfl rfl rfl ?_
    refine RL.pickF rfl rfl rfl rfl ?_
    refine RL.nil ?_
    refine NX.seq ?_
    refine TR.condF rfl ?_
    refine TR.exit ?_
    refine NX.exitThen ?_
    refine NX.exitThen ?_
    refine NX.exitHere ?_
    refine NX.seq ?_
    refine TR.seq ?_
    refine TR.region ?_
    refine RL.move rfl rfl rfl ?_
    refine RL.assign rfl rfl rfl ?_
    refine RL.nil ?_
    refine NX.seq ?_
    refine TR.ret ?_
    exact NX.ret1 () rfl rfl (congrArg (fun n : Nat => I (n : Nat)) (by have h9 := hz.2; rw [List.drop_of_length_le hi] at h9; exact h9.symm)) (fun w hw => hw)
theorem lpfx_spec {l x : List UInt8} {M : List HP} {F : List Fact} : Ctr Tryz.prog 106 [S l, S x] M F Unit (fun _ => .bool (pfB l x)) (fun _ => M) (fun _ => F) := by
  refine Ctr.body Tryz.func106 rfl rfl ?_
  refine TR.seq ?_
  refine TR.region ?_
  refine RL.assign rfl rfl rfl ?_
  refine RL.nil ?_
  refine NX.seq ?_
  refine TR.seq ?_
  refine TR.region ?_
  refine RL.move rfl rfl rfl ?_
  refine RL.lenStr rfl nb_tstr9 rfl rfl ?_
  refine RL.move rfl rfl rfl ?_
  refine RL.lenStr rfl nb_tstr9 rfl rfl ?_
  refine RL.bin rfl rfl rfl BinV.geq rfl ?_
  refine RL.move rfl rfl rfl ?_
  refine RL.part (fun h1 => ?_) (fun h1 => ?_)
  · skip
    have h1 := of_decide_eq_true h1
    refine RL.move rfl rfl rfl ?_
    refine RL.move rfl rfl rfl ?_
    refine RL.lenStr rfl nb_tstr9 rfl rfl ?_
    refine RL.sliceSto rfl nb_tstr9 rfl rfl (by omega) (by omega) rfl ?_
    refine RL.move rfl rfl rfl ?_
    refine RL.bin rfl rfl rfl BinV.eqlS rfl ?_
    refine RL.pickT rfl rfl rfl rfl ?_
    refine RL.assign rfl rfl rfl ?_
    refine RL.nil ?_
    refine NX.seq ?_
    refine TR.ret ?_
    exact NX.ret1 () rfl rfl (congrArg Value.bool (by unfold pfB; rw [decide_eq_true (show x.length ≤ l.length by omega), Bool.true_and, Int.toNat_natCast])) (fun w hw => hw)
  · skip
    have h1 := of_decide_eq_false h1
    refine RL.skip rfl rfl rfl ?_
    refine RL.skip rfl rfl rfl ?_
    refine RL.skip rfl rfl rfl ?_
    refine RL.skip rfl rfl rfl ?_
    refine RL.skip rfl rfl rfl ?_
    refine RL.skip rfl rfl rfl ?_
    refine RL.pickF rfl rfl rfl rfl ?_
    refine RL.assign rfl rfl rfl ?_
    refine RL.nil ?_
    refine NX.seq ?_
    refine TR.ret ?_
    exact NX.ret1 () rfl rfl (congrArg Value.bool (by unfold pfB; rw [decide_eq_false (show ¬ x.length ≤ l.length by omega), Bool.false_and])) (fun w hw => hw)
theorem pfx_spec {l x : List UInt8} {M : List HP} {F : List Fact} : Ctr Tryz.prog 93 [S l, S x] M F Unit (fun _ => .bool (pfB l x)) (fun _ => M) (fun _ => F) := by
  refine Ctr.body Tryz.func93 rfl rfl ?_
  refine TR.seq ?_
  refine TR.region ?_
  refine RL.assign rfl rfl rfl ?_
  refine RL.nil ?_
  refine NX.seq ?_
  refine TR.seq ?_
  refine TR.region ?_
  refine RL.move rfl rfl rfl ?_
  refine RL.move rfl rfl rfl ?_
  refine RL.call rfl rfl Tryz.call106 rfl (lpfx_spec) (fun _ => ?_)
  refine RL.assign rfl rfl rfl ?_
  refine RL.nil ?_
  refine NX.seq ?_
  refine TR.ret ?_
  exact NX.ret1 () rfl rfl rfl (fun w hw => hw)
theorem syN_step {s : List UInt8} {i : Nat} {x : List UInt8} (h : syL[i]? = some x) : syN s (syL.drop i) = if pfB s x = true then x.length else syN s (syL.drop (i + 1)) := by
  have hi := (List.getElem?_eq_some_iff.1 h).1
  rw [List.drop_eq_getElem_cons hi, (List.getElem?_eq_some_iff.1 h).2, syN]
theorem symbol_spec {l : List UInt8} {M : List HP} {F : List Fact} (hsy : CellsF 1 0 (stC syL) ∈ F) : Ctr Tryz.prog 78 [S l] M F Unit (fun _ => I (syN l syL : Nat)) (fun _ => M) (fun _ => F) := by
  refine Ctr.body Tryz.func78 rfl rfl ?_
  refine TR.seq ?_
  refine TR.region ?_
  refine RL.assign rfl rfl rfl ?_
  refine RL.nil ?_
  refine NX.seq ?_
  refine TR.seq ?_
  refine TR.seq ?_
  refine TR.region ?_
  refine RL.loadF rfl rfl (fun w K hF => run_loadCellsAt (hF (CellsF 1 0 (stC syL)) hsy) nb_ta135) rfl ?_
  refine RL.move rfl rfl rfl ?_
  refine RL.nil ?_
  refine NX.seq ?_
  refine TR.block ?_
  refine TR.loopP (ι := Nat) (fun z => z ≤ 24 ∧ syN l (syL.drop z) = syN l syL) (fun z => [(0, S l), (5, .agg (stC syL).toArray), (6, I (z : Nat))]) (fun z => M) (fun z => F) (fun z => (24 - z)) 0 ⟨Nat.zero_le _, rfl⟩ ⟨rfl, rfl, rfl, trivial⟩ (fun w hw => (hw.to 0 [] 0 [] rfl)) (fun z hz => ?_)
  refine TR.seq ?_
  refine TR.region ?_
  refine RL.bin rfl rfl rfl BinV.lss rfl ?_
  refine RL.nil ?_
  refine NX.seq ?_
  refine TR.seq ?_
  refine TR.cond rfl (fun h1 => ?_) (fun h1 => ?_)
  · skip
    have hi : z < 24 := by have := of_decide_eq_true h1; omega
    obtain ⟨x, hx⟩ : ∃ x, syL[z]? = some x := ⟨_, List.getElem?_eq_getElem (by show z < 24; exact hi)⟩
    have hst := syN_step (s := l) hx
    refine TR.skip ?_
    refine NX.seq ?_
    refine TR.seq ?_
    refine TR.block ?_
    refine TR.seq ?_
    refine TR.region ?_
    refine RL.indexA (i := z) rfl nb_tar135 nb_tz9 nb_tpk9 rfl rfl (by omega) (stC_get hx) rfl ?_
    refine RL.assign rfl rfl rfl ?_
    refine RL.nil ?_
    refine NX.seq ?_
    refine TR.seq ?_
    refine TR.region ?_
    refine RL.move rfl rfl rfl ?_
    refine RL.move rfl rfl rfl ?_
    refine RL.call rfl rfl Tryz.call93 rfl (pfx_spec (l := l) (x := x)) (fun _ => ?_)
    refine RL.nil ?_
    refine NX.seq ?_
    refine TR.cond rfl (fun h2 => ?_) (fun h2 => ?_)
    · skip
      have hp : pfB l x = true := h2
      rw [if_pos hp] at hst
      refine TR.seq ?_
      refine TR.region ?_
      refine RL.move rfl rfl rfl ?_
      refine RL.lenStr rfl nb_tstr9 rfl rfl ?_
      refine RL.assign rfl rfl rfl ?_
      refine RL.nil ?_
      refine NX.seq ?_
      refine TR.ret ?_
      refine NX.retBlock ?_
      refine NX.retThen ?_
      refine NX.retThen ?_
      refine NX.retBlock ?_
      refine NX.retThen ?_
      exact NX.ret1 () rfl rfl (congrArg (fun n : Nat => I (n : Nat)) (by rw [← hz.2, hst])) (fun w hw => hw)
    · skip
      have hp : pfB l x = false := h2
      rw [if_neg (by rw [hp]; decide)] at hst
      refine TR.skip ?_
      refine NX.off ?_
      refine NX.seq ?_
      refine TR.region ?_
      refine RL.bin rfl rfl rfl (BinV.add ((z + 1 : Nat) : Int) (by omega) (by omega) (by omega)) rfl ?_
      refine RL.move rfl rfl rfl ?_
      refine RL.nil ?_
      refine NX.roundP (z + 1) ⟨by omega, by rw [← hst]; exact hz.2⟩ (by omega) ⟨rfl, rfl, rfl, trivial⟩ (fun w hw => (hw.to 0 [] 0 [] rfl))
  · skip
    have hi : z = 24 := by have := of_decide_eq_false h1; omega
    refine TR.exit ?_
    refine NX.exitThen ?_
    refine NX.exitThen ?_
    refine NX.exitHere ?_
    refine NX.seq ?_
    refine TR.seq ?_
    refine TR.region ?_
    refine RL.assign rfl rfl rfl ?_
    refine RL.nil ?_
    refine NX.seq ?_
    refine TR.ret ?_
    exact NX.ret1 () rfl rfl (congrArg (fun n : Nat => I (n : Nat)) (by rw [← hz.2, hi]; rfl)) (fun w hw => hw)
end Go.Proofs.YtdnjoffkanjjhaaGreatDoor

namespace Go.Proofs.YtdnjoffkanjjhaaGreatDoor
open Go.GL
set_option linter.unusedVariables false
theorem nc_tar133 : tyArr Tryz.prog 133 9 26 = true := by kernel_rfl
theorem nc_ti3 : tyInt Tryz.prog 3 .i64 = true := by kernel_rfl
theorem nc_ti97 : tyInt Tryz.prog 97 .u64 = true := by kernel_rfl
theorem nc_tl83 : tySlice Tryz.prog 83 9 = true := by kernel_rfl
theorem nc_ts9 : tyScalar Tryz.prog 9 = true := by kernel_rfl
theorem nc_tz9 : tySize Tryz.prog 9 1 = true := by kernel_rfl
theorem nanc_spec {l : List UInt8} {M : List HP} {F : List Fact} : Ctr Tryz.prog 108 [S l] M F Unit (fun _ => .bool false) (fun _ => M) (fun _ => F) := by
  refine Ctr.body Tryz.func108 rfl rfl ?_
  refine TR.seq ?_
  refine TR.region ?_
  refine RL.assign rfl rfl rfl ?_
  refine RL.nil ?_
  refine NX.seq ?_
  refine TR.seq ?_
  refine TR.region ?_
  refine RL.move rfl rfl rfl ?_
  refine RL.move rfl rfl rfl ?_
  refine RL.bin rfl rfl rfl (BinV.to (d := false) BinV.neqS (decide_eq_false (by simp))) rfl ?_
  refine RL.assign rfl rfl rfl ?_
  refine RL.nil ?_
  refine NX.seq ?_
  refine TR.ret ?_
  exact NX.ret1 () rfl rfl rfl (fun w hw => hw)
theorem nans_spec {l : List UInt8} {M : List HP} {F : List Fact} : Ctr Tryz.prog 101 [S l] M F Unit (fun _ => .bool false) (fun _ => M) (fun _ => F) := by
  refine Ctr.body Tryz.func101 rfl rfl ?_
  refine TR.seq ?_
  refine TR.region ?_
  refine RL.assign rfl rfl rfl ?_
  refine RL.nil ?_
  refine NX.seq ?_
  refine TR.seq ?_
  refine TR.region ?_
  refine RL.move rfl rfl rfl ?_
  refine RL.move rfl rfl rfl ?_
  refine RL.bin rfl rfl rfl (BinV.to (d := false) BinV.neqS (decide_eq_false (by simp))) rfl ?_
  refine RL.assign rfl rfl rfl ?_
  refine RL.nil ?_
  refine NX.seq ?_
  refine TR.ret ?_
  exact NX.ret1 () rfl rfl rfl (fun w hw => hw)
theorem lessS_spec {a b : List UInt8} {M : List HP} {F : List Fact} : Ctr Tryz.prog 100 [S a, S b] M F Unit (fun _ => .bool (Op.bytesLess a b)) (fun _ => M) (fun _ => F) := by
  refine Ctr.body Tryz.func100 rfl rfl ?_
  refine TR.seq ?_
  refine TR.region ?_
  refine RL.assign rfl rfl rfl ?_
  refine RL.nil ?_
  refine NX.seq ?_
  refine TR.seq ?_
  refine TR.region ?_
  refine RL.move rfl rfl rfl ?_
  refine RL.call rfl rfl Tryz.call108 rfl (nanc_spec) (fun _ => ?_)
  refine RL.move rfl rfl rfl ?_
  refine RL.skip rfl rfl rfl ?_
  refine RL.skip rfl rfl rfl ?_
  refine RL.skip rfl rfl rfl ?_
  refine RL.pickF rfl rfl rfl rfl ?_
  refine RL.move rfl rfl rfl ?_
  refine RL.move rfl rfl rfl ?_
  refine RL.move rfl rfl rfl ?_
  refine RL.bin rfl rfl rfl BinV.lssS2 rfl ?_
  refine RL.pickF rfl rfl rfl rfl ?_
  refine RL.assign rfl rfl rfl ?_
  refine RL.nil ?_
  refine NX.seq ?_
  refine TR.ret ?_
  exact NX.ret1 () rfl rfl rfl (fun w hw => hw)
theorem bsN_go {l : List (List UInt8)} {lt : List UInt8 → List UInt8 → Bool} {s : List UInt8} {f i j : Nat} (h : i < j) : bsN l lt s (f + 1) i j = if lt (l.getD ((i + j) / 2) []) s = true then bsN l lt s f ((i + j) / 2 + 1) j else bsN l lt s f i ((i + j) / 2) := by rw [bsN, if_pos h]
theorem bsN_end {l : List (List UInt8)} {lt : List UInt8 → List UInt8 → Bool} {s : List UInt8} {f i j : Nat} (h : ¬ i < j) : bsN l lt s f i j = i := by
  cases f with
  | zero => rfl
  | succ f => rw [bsN, if_neg h]
theorem bsearch_spec {s : List UInt8} {M : List HP} {F : List Fact} (hkw : CellsF 0 0 (stC kwL) ∈ F) : Ctr Tryz.prog 91 [.slice (some ⟨0, 0, none⟩) 26 26, S s] M F Unit (fun _ => .tuple #[I (bsN kwL Op.bytesLess s 26 0 26 : Nat), .bool (decide (kwL[bsN kwL Op.bytesLess s 26 0 26]? = some s))]) (fun _ => M) (fun _ => F) := by
  refine Ctr.body Tryz.func91 rfl rfl ?_
  refine TR.seq ?_
  refine TR.region ?_
  refine RL.assign rfl rfl rfl ?_
  refine RL.assign rfl rfl rfl ?_
  refine RL.nil ?_
  refine NX.seq ?_
  refine TR.seq ?_
  refine TR.region ?_
  refine RL.move rfl rfl rfl ?_
  refine RL.lenSlice rfl nc_tl83 rfl rfl ?_
  refine RL.assign rfl rfl rfl ?_
  refine RL.nil ?_
  refine NX.seq ?_
  refine TR.seq ?_
  refine TR.region ?_
  refine RL.move rfl rfl rfl ?_
  refine RL.assign rfl rfl rfl ?_
  refine RL.assign rfl rfl rfl ?_
  refine RL.nil ?_
  refine NX.seq ?_
  refine TR.seq ?_
  refine TR.block ?_
  refine TR.loopP (ι := (Nat × Nat × Nat)) (fun z => z.2.2 ≤ 26 ∧ z.2.1 ≤ z.2.2 ∧ z.2.2 - z.2.1 ≤ z.1 ∧ bsN kwL Op.bytesLess s z.1 z.2.1 z.2.2 = bsN kwL Op.bytesLess s 26 0 26) (fun z => [(0, .slice (some ⟨0, 0, none⟩) 26 26), (1, S s), (6, I (26 : Nat)), (7, I (z.2.1 : Nat)), (8, I (z.2.2 : Nat))]) (fun z => M) (fun z => F) (fun z => z.1) (26, 0, 26) ⟨Nat.le_refl _, Nat.zero_le _, Nat.le_refl _, rfl⟩ ⟨rfl, rfl, rfl, rfl, rfl, trivial⟩ (fun w hw => (hw.to 0 [] 0 [] rfl)) (fun z hz => ?_)
  refine TR.seq ?_
  refine TR.seq ?_
  refine TR.region ?_
  refine RL.move rfl rfl rfl ?_
  refine RL.move rfl rfl rfl ?_
  refine RL.bin rfl rfl rfl BinV.lss rfl ?_
  refine RL.nil ?_
  refine NX.seq ?_
  refine TR.cond rfl (fun h1 => ?_) (fun h1 => ?_)
  · skip
    have hij : z.2.1 < z.2.2 := by have := of_decide_eq_true h1; omega
    obtain ⟨m, hm⟩ : ∃ m, kwL[((z.2.1 + z.2.2) / 2)]? = some m := ⟨_, List.getElem?_eq_getElem (by show ((z.2.1 + z.2.2) / 2) < 26; omega)⟩
    have hgd : kwL.getD ((z.2.1 + z.2.2) / 2) [] = m := by rw [List.getD_eq_getElem?_getD, hm]; rfl
    refine TR.skip ?_
    refine NX.seq ?_
    refine TR.block ?_
    refine TR.seq ?_
    refine TR.region ?_
    refine RL.move rfl rfl rfl ?_
    refine RL.move rfl rfl rfl ?_
    refine RL.bin rfl rfl rfl (BinV.add ((z.2.1 + z.2.2 : Nat) : Int) (by omega) (by omega) (by omega)) rfl ?_
    refine RL.conv rfl rfl (ConvV.iu (n := z.2.1 + z.2.2) nc_ti3 nc_ti97 (by omega)) rfl ?_
    refine RL.bin rfl rfl rfl (BinV.shrU (a := z.2.1 + z.2.2) (s := 1) (by decide)) rfl ?_
    refine RL.conv rfl rfl (ConvV.uiS (n := (z.2.1 + z.2.2) / 2) nc_ti97 nc_ti3 (by omega)) rfl ?_
    refine RL.assign rfl rfl rfl ?_
    refine RL.nil ?_
    refine NX.seq ?_
    refine TR.seq ?_
    refine TR.region ?_
    refine RL.move rfl rfl rfl ?_
    refine RL.move rfl rfl rfl ?_
    refine RL.indexAddr rfl nc_tl83 nc_tz9 (congrArg (fun a => some (Value.slice a _ _)) rfl) rfl (by omega) (by omega) rfl ?_
    refine RL.loadF rfl rfl (fun w K hF => run_loadCell1 (j := ((((z.2.1 + z.2.2) / 2) : Nat) : Int).toNat * 1) (hF (CellsF 0 0 (stC kwL)) hkw) nc_ts9 (by rw [Int.toNat_natCast, Nat.mul_one]; exact stC_get hm)) rfl ?_
    refine RL.move rfl rfl rfl ?_
    refine RL.call rfl rfl Tryz.call100 rfl (lessS_spec (a := m) (b := s)) (fun _ => ?_)
    refine RL.nil ?_
    refine NX.seq ?_
    refine TR.cond rfl (fun h2 => ?_) (fun h2 => ?_)
    · skip
      have hlt : Op.bytesLess m s = true := h2
      refine TR.region ?_
      refine RL.move rfl rfl rfl ?_
      refine RL.bin rfl rfl rfl (BinV.add ((((z.2.1 + z.2.2) / 2) + 1 : Nat) : Int) (by omega) (by omega) (by omega)) rfl ?_
      refine RL.assign rfl rfl rfl ?_
      refine RL.nil ?_
      refine NX.off ?_
      have hg := bsN_go (l := kwL) (lt := Op.bytesLess) (s := s) (f := z.1 - 1) hij
      rw [show z.1 - 1 + 1 = z.1 from by omega, if_pos (by rw [hgd]; exact hlt)] at hg
      refine NX.roundP (z.1 - 1, (z.2.1 + z.2.2) / 2 + 1, z.2.2) ⟨by show z.2.2 ≤ 26; omega, by show (z.2.1 + z.2.2) / 2 + 1 ≤ z.2.2; omega, by show z.2.2 - ((z.2.1 + z.2.2) / 2 + 1) ≤ z.1 - 1; omega, hg.symm.trans hz.2.2.2⟩ (by show z.1 - 1 < z.1; omega) ⟨rfl, rfl, rfl, rfl, rfl, trivial⟩ (fun w hw => (hw.to 0 [] 0 [] rfl))
    · skip
      have hlt : Op.bytesLess m s = false := h2
      refine TR.region ?_
      refine RL.move rfl rfl rfl ?_
      refine RL.assign rfl rfl rfl ?_
      refine RL.nil ?_
      refine NX.off ?_
      have hg := bsN_go (l := kwL) (lt := Op.bytesLess) (s := s) (f := z.1 - 1) hij
      rw [show z.1 - 1 + 1 = z.1 from by omega, if_neg (by rw [hgd]; rw [hlt]; decide)] at hg
      refine NX.roundP (z.1 - 1, z.2.1, (z.2.1 + z.2.2) / 2) ⟨by show (z.2.1 + z.2.2) / 2 ≤ 26; omega, by show z.2.1 ≤ (z.2.1 + z.2.2) / 2; omega, by show (z.2.1 + z.2.2) / 2 - z.2.1 ≤ z.1 - 1; omega, hg.symm.trans hz.2.2.2⟩ (by show z.1 - 1 < z.1; omega) ⟨rfl, rfl, rfl, rfl, rfl, trivial⟩ (fun w hw => (hw.to 0 [] 0 [] rfl))
  · skip
    have hij : ¬ z.2.1 < z.2.2 := by have := of_decide_eq_false h1; omega
    refine TR.exit ?_
    refine NX.exitThen ?_
    refine NX.exitThen ?_
    refine NX.exitHere ?_
    refine NX.seq ?_
    refine TR.seq ?_
    refine TR.region ?_
    refine RL.move rfl rfl rfl ?_
    refine RL.move rfl rfl rfl ?_
    refine RL.move rfl rfl rfl ?_
    refine RL.bin rfl rfl rfl BinV.lss rfl ?_
    refine RL.move rfl rfl rfl ?_
    refine RL.part (fun h3 => ?_) (fun h3 => ?_)
    · skip
      have hi8 : z.2.1 < 26 := by have := of_decide_eq_true h3; omega
      obtain ⟨x, hx⟩ : ∃ x, kwL[z.2.1]? = some x := ⟨_, List.getElem?_eq_getElem (by show z.2.1 < 26; exact hi8)⟩
      refine RL.move rfl rfl rfl ?_
      refine RL.move rfl rfl rfl ?_
      refine RL.indexAddr rfl nc_tl83 nc_tz9 (congrArg (fun a => some (Value.slice a _ _)) rfl) rfl (by omega) (by omega) rfl ?_
      refine RL.loadF rfl rfl (fun w K hF => run_loadCell1 (j := ((z.2.1 : Nat) : Int).toNat * 1) (hF (CellsF 0 0 (stC kwL)) hkw) nc_ts9 (by rw [Int.toNat_natCast, Nat.mul_one]; exact stC_get hx)) rfl ?_
      refine RL.move rfl rfl rfl ?_
      refine RL.bin rfl rfl rfl BinV.eqlS rfl ?_
      refine RL.move rfl rfl rfl ?_
      refine RL.part (fun h4 => ?_) (fun h4 => ?_)
      · skip
        have h8 := of_decide_eq_true h4
        refine RL.skip rfl rfl rfl ?_
        refine RL.skip rfl rfl rfl ?_
        refine RL.skip rfl rfl rfl ?_
        refine RL.skip rfl rfl rfl ?_
        refine RL.skip rfl rfl rfl ?_
        refine RL.skip rfl rfl rfl ?_
        refine RL.skip rfl rfl rfl ?_
        refine RL.skip rfl rfl rfl ?_
        refine RL.skip rfl rfl rfl ?_
        refine RL.pickT rfl rfl rfl rfl ?_
        refine RL.pickT rfl rfl rfl rfl ?_
        refine RL.assign rfl rfl rfl ?_
        refine RL.assign rfl rfl rfl ?_
        refine RL.nil ?_
        refine NX.seq ?_
        refine TR.ret ?_
        have hr : bsN kwL Op.bytesLess s 26 0 26 = z.2.1 := by rw [← hz.2.2.2, bsN_end hij]
        exact NX.ret2 () rfl rfl rfl (by rw [hr]; show Value.tuple #[_, _] = Value.tuple #[_, .bool (decide (kwL[z.2.1]? = some s))]; rw [hx]; exact congrArg (fun b => Value.tuple #[I (z.2.1 : Nat), .bool b]) (by rw [decide_eq_true (congrArg some h8)])) (fun w hw => hw)
      · skip
        have h8 := of_decide_eq_false h4
        refine RL.move rfl rfl rfl ?_
        refine RL.move rfl rfl rfl ?_
        refine RL.indexAddr rfl nc_tl83 nc_tz9 (congrArg (fun a => some (Value.slice a _ _)) rfl) rfl (by omega) (by omega) rfl ?_
        refine RL.loadF rfl rfl (fun w K hF => run_loadCell1 (j := ((z.2.1 : Nat) : Int).toNat * 1) (hF (CellsF 0 0 (stC kwL)) hkw) nc_ts9 (by rw [Int.toNat_natCast, Nat.mul_one]; exact stC_get hx)) rfl ?_
        refine RL.call rfl rfl Tryz.call101 rfl (nans_spec) (fun _ => ?_)
        refine RL.move rfl rfl rfl ?_
        refine RL.skip rfl rfl rfl ?_
        refine RL.skip rfl rfl rfl ?_
        refine RL.pickF rfl rfl rfl rfl ?_
        refine RL.pickF rfl rfl rfl rfl ?_
        refine RL.pickT rfl rfl rfl rfl ?_
        refine RL.assign rfl rfl rfl ?_
        refine RL.assign rfl rfl rfl ?_
        refine RL.nil ?_
        refine NX.seq ?_
        refine TR.ret ?_
        have hr : bsN kwL Op.bytesLess s 26 0 26 = z.2.1 := by rw [← hz.2.2.2, bsN_end hij]
        exact NX.ret2 () rfl rfl rfl (by rw [hr]; show Value.tuple #[_, _] = Value.tuple #[_, .bool (decide (kwL[z.2.1]? = some s))]; rw [hx]; exact congrArg (fun b => Value.tuple #[I (z.2.1 : Nat), .bool b]) (by rw [decide_eq_false (fun e => h8 (Option.some.inj e))])) (fun w hw => hw)
    · skip
      have hi8 := of_decide_eq_false h3
      refine RL.skip rfl rfl rfl ?_
      refine RL.skip rfl rfl rfl ?_
      refine RL.skip rfl rfl rfl ?_
      refine RL.skip rfl rfl rfl ?_
      refine RL.skip rfl rfl rfl ?_
      refine RL.skip rfl rfl rfl ?_
      refine RL.skip rfl rfl rfl ?_
      refine RL.skip rfl rfl rfl ?_
      refine RL.skip rfl rfl rfl ?_
      refine RL.skip rfl rfl rfl ?_
      refine RL.skip rfl rfl rfl ?_
      refine RL.skip rfl rfl rfl ?_
      refine RL.skip rfl rfl rfl ?_
      refine RL.skip rfl rfl rfl ?_
      refine RL.skip rfl rfl rfl ?_
      refine RL.skip rfl rfl rfl ?_
      refine RL.skip rfl rfl rfl ?_
      refine RL.pickF rfl rfl rfl rfl ?_
      refine RL.assign rfl rfl rfl ?_
      refine RL.assign rfl rfl rfl ?_
      refine RL.nil ?_
      refine NX.seq ?_
      refine TR.ret ?_
      have hr : bsN kwL Op.bytesLess s 26 0 26 = z.2.1 := by rw [← hz.2.2.2, bsN_end hij]
      exact NX.ret2 () rfl rfl rfl (by rw [hr]; show Value.tuple #[_, _] = Value.tuple #[_, .bool (decide (kwL[z.2.1]? = some s))]; rw [List.getElem?_eq_none (by show 26 ≤ z.2.1; omega)]; rfl) (fun w hw => hw)
theorem isKw_spec {s : List UInt8} {M : List HP} {F : List Fact} (hkw : CellsF 0 0 (stC kwL) ∈ F) : Ctr Tryz.prog 73 [S s] M F Unit (fun _ => .bool (kwB Op.bytesLess s)) (fun _ => M) (fun _ => F) := by
  refine Ctr.body Tryz.func73 rfl rfl ?_
  refine TR.seq ?_
  refine TR.region ?_
  refine RL.assign rfl rfl rfl ?_
  refine RL.nil ?_
  refine NX.seq ?_
  refine TR.seq ?_
  refine TR.region ?_
  refine RL.sliceG rfl nc_tar133 nc_tz9 rfl rfl ?_
  refine RL.move rfl rfl rfl ?_
  refine RL.call rfl rfl Tryz.call91 rfl (bsearch_spec (s := s) hkw) (fun _ => ?_)
  refine RL.move rfl rfl rfl ?_
  refine RL.extract rfl rfl rfl rfl ?_
  refine RL.extract rfl rfl rfl rfl ?_
  refine RL.assign rfl rfl rfl ?_
  refine RL.assign rfl rfl rfl ?_
  refine RL.nil ?_
  refine NX.seq ?_
  refine TR.seq ?_
  refine TR.region ?_
  refine RL.move rfl rfl rfl ?_
  refine RL.assign rfl rfl rfl ?_
  refine RL.nil ?_
  refine NX.seq ?_
  refine TR.ret ?_
  exact NX.ret1 () rfl rfl rfl (fun w hw => hw)
end Go.Proofs.YtdnjoffkanjjhaaGreatDoor

namespace Go.Proofs.YtdnjoffkanjjhaaGreatDoor
open Go.GL
set_option linter.unusedVariables false
theorem nd_ti21 : tyInt Tryz.prog 21 .i32 = true := by kernel_rfl
theorem nd_ti5 : tyInt Tryz.prog 5 .u8 = true := by kernel_rfl
theorem nd_tstr9 : tyStr Tryz.prog 9 = true := by kernel_rfl
theorem extIB (l : List UInt8) (c : UInt8) (w : World) : (callFunc 114 #[S l, .int .u8 (c.toNat : Nat)]).run Tryz.prog w = .ok (.value (I (Lib.indexByte l c))) w := by
  rw [run_callFunc_extern (fn := Tryz.f114) (e := Extern.BytealgIndexByte.indexByte) Tryz.func114 (by kernel_rfl) (by kernel_rfl) (by kernel_rfl) (by kernel_rfl), Lib.run_indexByteString]
  show Result.ok (Next.value (I (Lib.indexByte l (((c.toNat : Nat) : Int).toNat.toUInt8)))) w = _
  rw [Int.toNat_natCast, show c.toNat.toUInt8 = c from by simp]
def qrZ (r : Int) : Int := if r = 34 then 0 else if r = 10 then 1 else -1
def qrL : List UInt8 := [34, 10]
theorem qr_small : ∀ n, n < 128 → Lib.indexByte qrL n.toUInt8 = qrZ (n : Nat) := by decide
theorem qr_dec : ∀ z, z < 2 → ((Utf8.decode ⟨qrL.toArray⟩ z).1 : Int) ≠ 65533 ∧ (charL (qrL.drop z)).1 = 1 := by decide
theorem qr_ge (r : Int) : (0 ≤ qrZ r) = (r = 34 ∨ r = 10) := by
  unfold qrZ
  apply propext
  split
  · exact ⟨fun _ => .inl (by assumption), fun _ => by decide⟩
  · split
    · exact ⟨fun _ => .inr (by assumption), fun _ => by decide⟩
    · constructor
      · intro h; exact absurd h (by decide)
      · rintro (h | h) <;> contradiction
theorem ixb0_spec {l : List UInt8} {c : UInt8} {M : List HP} {F : List Fact} : Ctr Tryz.prog 113 [S l, .int .u8 (c.toNat : Nat)] M F Unit (fun _ => I (Lib.indexByte l c)) (fun _ => M) (fun _ => F) := by
  refine Ctr.body Tryz.func113 rfl rfl ?_
  refine TR.seq ?_
  refine TR.region ?_
  refine RL.assign rfl rfl rfl ?_
  refine RL.nil ?_
  refine NX.seq ?_
  refine TR.seq ?_
  refine TR.region ?_
  refine RL.move rfl rfl rfl ?_
  refine RL.move rfl rfl rfl ?_
  refine RL.callX rfl rfl (extIB _ _) rfl ?_
  refine RL.assign rfl rfl rfl ?_
  refine RL.nil ?_
  refine NX.seq ?_
  refine TR.ret ?_
  exact NX.ret1 () rfl rfl rfl (fun w hw => hw)
theorem ixb_spec {l : List UInt8} {c : UInt8} {M : List HP} {F : List Fact} : Ctr Tryz.prog 109 [S l, .int .u8 (c.toNat : Nat)] M F Unit (fun _ => I (Lib.indexByte l c)) (fun _ => M) (fun _ => F) := by
  refine Ctr.body Tryz.func109 rfl rfl ?_
  refine TR.seq ?_
  refine TR.region ?_
  refine RL.assign rfl rfl rfl ?_
  refine RL.nil ?_
  refine NX.seq ?_
  refine TR.seq ?_
  refine TR.region ?_
  refine RL.move rfl rfl rfl ?_
  refine RL.move rfl rfl rfl ?_
  refine RL.call rfl rfl Tryz.call113 rfl (ixb0_spec) (fun _ => ?_)
  refine RL.assign rfl rfl rfl ?_
  refine RL.nil ?_
  refine NX.seq ?_
  refine TR.ret ?_
  exact NX.ret1 () rfl rfl rfl (fun w hw => hw)
theorem validRune_spec {r : Int} {M : List HP} {F : List Fact} : Ctr Tryz.prog 110 [.int .i32 r] M F Bool (fun b => .bool b) (fun _ => M) (fun _ => F) := by
  refine Ctr.body Tryz.func110 rfl rfl ?_
  refine TR.seq ?_
  refine TR.region ?_
  refine RL.assign rfl rfl rfl ?_
  refine RL.nil ?_
  refine NX.seq ?_
  refine TR.seq ?_
  refine TR.block ?_
  refine TR.seq ?_
  refine TR.region ?_
  refine RL.move rfl rfl rfl ?_
  refine RL.bin rfl rfl rfl BinV.leq rfl ?_
  refine RL.move rfl rfl rfl ?_
  refine RL.part (fun h1 => ?_) (fun h1 => ?_)
  · skip
    refine RL.move rfl rfl rfl ?_
    refine RL.bin rfl rfl rfl BinV.lss rfl ?_
    refine RL.pickT rfl rfl rfl rfl ?_
    refine RL.assign rfl rfl rfl ?_
    refine RL.nil ?_
    refine NX.seq ?_
    refine TR.cond rfl (fun h2 => ?_) (fun h2 => ?_)
    · skip
      refine TR.seq ?_
      refine TR.region ?_
      refine RL.assign rfl rfl rfl ?_
      refine RL.nil ?_
      refine NX.seq ?_
      refine TR.ret ?_
      refine NX.retBlock ?_
      refine NX.retThen ?_
      exact NX.ret1 _ rfl rfl rfl (fun w hw => hw)
    · skip
      refine TR.seq ?_
      refine TR.region ?_
      refine RL.move rfl rfl rfl ?_
      refine RL.bin rfl rfl rfl BinV.lss rfl ?_
      refine RL.move rfl rfl rfl ?_
      refine RL.part (fun h3 => ?_) (fun h3 => ?_)
      · skip
        refine RL.move rfl rfl rfl ?_
        refine RL.bin rfl rfl rfl BinV.leq rfl ?_
        refine RL.pickT rfl rfl rfl rfl ?_
        refine RL.assign rfl rfl rfl ?_
        refine RL.nil ?_
        refine NX.seq ?_
        refine TR.cond rfl (fun h4 => ?_) (fun h4 => ?_)
        · skip
          refine TR.seq ?_
          refine TR.region ?_
          refine RL.assign rfl rfl rfl ?_
          refine RL.nil ?_
          refine NX.seq ?_
          refine TR.ret ?_
          refine NX.retBlock ?_
          refine NX.retThen ?_
          exact NX.ret1 _ rfl rfl rfl (fun w hw => hw)
        · skip
          refine TR.skip ?_
          refine NX.off ?_
          refine NX.seq ?_
          refine TR.seq ?_
          refine TR.region ?_
          refine RL.assign rfl rfl rfl ?_
          refine RL.nil ?_
          refine NX.seq ?_
          refine TR.ret ?_
          exact NX.ret1 _ rfl rfl rfl (fun w hw => hw)
      · skip
        refine RL.skip rfl rfl rfl ?_
        refine RL.skip rfl rfl rfl ?_
        refine RL.pickF rfl rfl rfl rfl ?_
        refine RL.assign rfl rfl rfl ?_
        refine RL.nil ?_
        refine NX.seq ?_
        refine TR.condF rfl ?_
        refine TR.skip ?_
        refine NX.off ?_
        refine NX.seq ?_
        refine TR.seq ?_
        refine TR.region ?_
        refine RL.assign rfl rfl rfl ?_
        refine RL.nil ?_
        refine NX.seq ?_
        refine TR.ret ?_
        exact NX.ret1 _ rfl rfl rfl (fun w hw => hw)
  · skip
    refine RL.skip rfl rfl rfl ?_
    refine RL.skip rfl rfl rfl ?_
    refine RL.pickF rfl rfl rfl rfl ?_
    refine RL.assign rfl rfl rfl ?_
    refine RL.nil ?_
    refine NX.seq ?_
    refine TR.condF rfl ?_
    refine TR.seq ?_
    refine TR.region ?_
    refine RL.move rfl rfl rfl ?_
    refine RL.bin rfl rfl rfl BinV.lss rfl ?_
    refine RL.move rfl rfl rfl ?_
    refine RL.part (fun h5 => ?_) (fun h5 => ?_)
    · skip
      refine RL.move rfl rfl rfl ?_
      refine RL.bin rfl rfl rfl BinV.leq rfl ?_
      refine RL.pickT rfl rfl rfl rfl ?_
      refine RL.assign rfl rfl rfl ?_
      refine RL.nil ?_
      refine NX.seq ?_
      refine TR.cond rfl (fun h6 => ?_) (fun h6 => ?_)
      · skip
        refine TR.seq ?_
        refine TR.region ?_
        refine RL.assign rfl rfl rfl ?_
        refine RL.nil ?_
        refine NX.seq ?_
        refine TR.ret ?_
        refine NX.retBlock ?_
        refine NX.retThen ?_
        exact NX.ret1 _ rfl rfl rfl (fun w hw => hw)
      · skip
        refine TR.skip ?_
        refine NX.off ?_
        refine NX.seq ?_
        refine TR.seq ?_
        refine TR.region ?_
        refine RL.assign rfl rfl rfl ?_
        refine RL.nil ?_
        refine NX.seq ?_
        refine TR.ret ?_
        exact NX.ret1 _ rfl rfl rfl (fun w hw => hw)
    · skip
      refine RL.skip rfl rfl rfl ?_
      refine RL.skip rfl rfl rfl ?_
      refine RL.pickF rfl rfl rfl rfl ?_
      refine RL.assign rfl rfl rfl ?_
      refine RL.nil ?_
      refine NX.seq ?_
      refine TR.condF rfl ?_
      refine TR.skip ?_
      refine NX.off ?_
      refine NX.seq ?_
      refine TR.seq ?_
      refine TR.region ?_
      refine RL.assign rfl rfl rfl ?_
      refine RL.nil ?_
      refine NX.seq ?_
      refine TR.ret ?_
      exact NX.ret1 _ rfl rfl rfl (fun w hw => hw)
set_option maxHeartbeats 1000000 in
theorem indexRune_spec {r : Int} {M : List HP} {F : List Fact} (h0 : 0 ≤ r) (h1 : r ≤ 2147483647) : Ctr Tryz.prog 102 [S qrL, .int .i32 r] M F Unit (fun _ => I (qrZ r)) (fun _ => M) (fun _ => F) := by
  refine Ctr.body Tryz.func102 rfl rfl ?_
  refine TR.seq ?_
  refine TR.region ?_
  refine RL.assign rfl rfl rfl ?_
  refine RL.nil ?_
  refine NX.seq ?_
  refine TR.block ?_
  refine TR.seq ?_
  refine TR.region ?_
  refine RL.move rfl rfl rfl ?_
  refine RL.bin rfl rfl rfl (BinV.to (d := true) BinV.leq (decide_eq_true h0)) rfl ?_
  refine RL.move rfl rfl rfl ?_
  refine RL.move rfl rfl rfl ?_
  refine RL.bin rfl rfl rfl BinV.lss rfl ?_
  refine RL.pickT rfl rfl rfl rfl ?_
  refine RL.assign rfl rfl rfl ?_
  refine RL.nil ?_
  refine NX.seq ?_
  refine TR.cond rfl (fun h1 => ?_) (fun h1 => ?_)
  · skip
    have h128 := of_decide_eq_true h1
    obtain ⟨n, rfl⟩ := Int.eq_ofNat_of_zero_le h0
    have hn : n < 128 := by omega
    have hcv : (.int .u8 (IntKind.u8.wrap (n : Nat)) : Value) = .int .u8 ((n.toUInt8).toNat : Nat) := by rw [wrap_u8, show (n.toUInt8).toNat = n % 256 from by simp]
    refine TR.seq ?_
    refine TR.region ?_
    refine RL.move rfl rfl rfl ?_
    refine RL.move rfl rfl rfl ?_
    refine RL.conv rfl rfl ((ConvV.int nd_ti21 nd_ti5).to (v'' := .int .u8 ((n.toUInt8).toNat : Nat)) hcv) rfl ?_
    refine RL.call rfl rfl Tryz.call109 rfl (ixb_spec (l := qrL) (c := n.toUInt8)) (fun _ => ?_)
    refine RL.assign rfl rfl rfl ?_
    refine RL.nil ?_
    refine NX.seq ?_
    refine TR.ret ?_
    refine NX.retBlock ?_
    exact NX.ret1 () rfl rfl (congrArg I (qr_small n hn)) (fun w hw => hw)
  · skip
    have h128 := of_decide_eq_false h1
    have hE := encL_high (n := r) (by omega)
    refine TR.seq ?_
    refine TR.region ?_
    refine RL.move rfl rfl rfl ?_
    refine RL.bin rfl rfl rfl BinV.eql rfl ?_
    refine RL.assign rfl rfl rfl ?_
    refine RL.nil ?_
    refine NX.seq ?_
    refine TR.cond rfl (fun h2 => ?_) (fun h2 => ?_)
    · skip
      refine TR.seq ?_
      refine TR.seq ?_
      refine TR.region ?_
      refine RL.move rfl rfl rfl ?_
      refine RL.ofGV rfl rfl (GV.rangeS nd_tstr9 rfl) (fun it => ?_)
      refine RL.nil ?_
      refine NX.seq ?_
      refine TR.block ?_
      refine TR.loopP (ι := Nat) (fun z => z ≤ 2) (fun z => [(1, .int .i32 r), (175, .pointer (some ⟨it, 0, none⟩))]) (fun z => Pts it (.stringIter ⟨qrL.toArray⟩ z) :: M) (fun z => F) (fun z => (2 - z)) 0 (Nat.zero_le _) ⟨rfl, rfl, trivial⟩ (fun w hw => (hw.to 1 [0] 0 [] rfl)) (fun z hz => ?_)
      refine TR.seq ?_
      refine TR.region ?_
      rcases Nat.lt_or_ge z 2 with hk | hk
      · skip
        refine RL.ofGV rfl rfl (GV.nextOn 0 rfl rfl hk) (fun _ => ?_)
        refine RL.extract rfl rfl rfl rfl ?_
        refine RL.nil ?_
        refine NX.seq ?_
        refine TR.seq ?_
        refine TR.condT rfl ?_
        refine TR.skip ?_
        refine NX.seq ?_
        refine TR.block ?_
        refine TR.seq ?_
        refine TR.region ?_
        refine RL.extract rfl rfl rfl rfl ?_
        refine RL.extract rfl rfl rfl rfl ?_
        refine RL.assign rfl rfl rfl ?_
        refine RL.assign rfl rfl rfl ?_
        refine RL.nil ?_
        refine NX.seq ?_
        refine TR.seq ?_
        refine TR.region ?_
        refine RL.move rfl rfl rfl ?_
        refine RL.bin rfl rfl rfl (BinV.to (d := false) BinV.eql (decide_eq_false (qr_dec z hk).1)) rfl ?_
        refine RL.nil ?_
        refine NX.seq ?_
        refine TR.condF rfl ?_
        refine TR.skip ?_
        refine NX.off ?_
        refine NX.roundP (z + 1) (by omega) (by omega) ⟨rfl, rfl, trivial⟩ (fun w hw => (by have h9 := (hw.to 1 [0] 0 [] rfl); rw [(qr_dec z hk).2] at h9; exact h9))
      · skip
        refine RL.ofGV rfl rfl (GV.nextEnd 0 rfl rfl (by show ¬ z < 2; omega)) (fun _ => ?_)
        refine RL.extract rfl rfl rfl rfl ?_
        refine RL.nil ?_
        refine NX.seq ?_
        refine TR.seq ?_
        refine TR.condF rfl ?_
        refine TR.exit ?_
        refine NX.exitThen ?_
        refine NX.exitThen ?_
        refine NX.exitHere ?_
        refine NX.seq ?_
        refine TR.seq ?_
        refine TR.region ?_
        refine RL.assign rfl rfl rfl ?_
        refine RL.nil ?_
        refine NX.seq ?_
        refine TR.ret ?_
        refine NX.retBlock ?_
        exact NX.ret1 () rfl rfl (congrArg I (show (-1 : Int) = qrZ r from by unfold qrZ; rw [if_neg (by omega), if_neg (by omega)])) (fun w hw => (hw.to 1 [] 0 [] rfl))
    · skip
      refine TR.seq ?_
      refine TR.region ?_
      refine RL.move rfl rfl rfl ?_
      refine RL.call rfl rfl Tryz.call110 rfl (validRune_spec) (fun vb => ?_)
      refine RL.not rfl rfl rfl ?_
      refine RL.assign rfl rfl rfl ?_
      refine RL.nil ?_
      refine NX.seq ?_
      refine TR.cond rfl (fun h3 => ?_) (fun h3 => ?_)
      · skip
        refine TR.seq ?_
        refine TR.region ?_
        refine RL.assign rfl rfl rfl ?_
        refine RL.nil ?_
        refine NX.seq ?_
        refine TR.ret ?_
        refine NX.retBlock ?_
        exact NX.ret1 () rfl rfl (congrArg I (show (-1 : Int) = qrZ r from by unfold qrZ; rw [if_neg (by omega), if_neg (by omega)])) (fun w hw => (hw.to 0 [] 0 [] rfl))
      · skip
        refine TR.scope ?_
        refine TR.seq ?_
        refine TR.region ?_
        refine RL.move rfl rfl rfl ?_
        refine RL.conv rfl rfl (ConvV.runeS (k := .i32) nd_ti21 nd_tstr9) rfl ?_
        refine RL.assign rfl rfl rfl ?_
        refine RL.nil ?_
        refine NX.seq ?_
        refine TR.seq ?_
        refine TR.region ?_
        refine RL.move rfl rfl rfl ?_
        refine RL.lenStr rfl nd_tstr9 rfl rfl ?_
        refine RL.bin rfl rfl rfl (BinV.sub (((encRu r).length - 1 : Nat) : Int) (by omega) (by omega) (by omega)) rfl ?_
        refine RL.assign rfl rfl rfl ?_
        refine RL.nil ?_
        refine NX.seq ?_
        refine TR.seq ?_
        refine TR.region ?_
        refine RL.move rfl rfl rfl ?_
        refine RL.assign rfl rfl rfl ?_
        refine RL.nil ?_
        refine NX.seq ?_
        refine TR.seq ?_
        refine TR.region ?_
        refine RL.assign rfl rfl rfl ?_
        refine RL.nil ?_
        refine NX.seq ?_
        refine TR.seq ?_
        refine TR.block ?_
        refine TR.loopP (ι := Unit) (fun u => True) (fun u => [(0, S qrL), (1, .int .i32 r), (7, S (encRu r)), (8, I ((encRu r).length - 1 : Nat)), (9, I ((encRu r).length - 1 : Nat)), (10, I 0)]) (fun u => M) (fun u => F) (fun u => 0) () trivial ⟨rfl, rfl, rfl, rfl, rfl, rfl, trivial⟩ (fun w hw => (hw.to 0 [] 0 [] rfl)) (fun u hu => ?_)
        refine TR.seq ?_
        refine TR.seq ?_
        refine TR.region ?_
        refine RL.move rfl rfl rfl ?_
        refine RL.move rfl rfl rfl ?_
        refine RL.lenStr rfl nd_tstr9 rfl rfl ?_
        refine RL.bin rfl rfl rfl BinV.lss rfl ?_
        refine RL.nil ?_
        refine NX.seq ?_
        refine TR.cond rfl (fun h4 => ?_) (fun h4 => ?_)
        · skip
          have hq2 : qrL.length = 2 := rfl
          have hl2 : (encRu r).length = 2 := by have := of_decide_eq_true h4; omega
          obtain ⟨hE1, hE2, b, hE3, hE4⟩ := hE
          have hu1 : qrL[((((encRu r).length - 1 : Nat) : Int)).toNat]? = some 10 := by rw [hl2]; rfl
          have hu2 : (encRu r)[((((encRu r).length - 1 : Nat) : Int)).toNat]? = some b := by rw [Int.toNat_natCast]; exact hE3
          have hdr : qrL.drop ((((encRu r).length - 1 + 1 : Nat) : Int)).toNat = [] := by rw [hl2]; rfl
          refine TR.skip ?_
          refine NX.seq ?_
          refine TR.block ?_
          refine TR.scope ?_
          refine TR.seq ?_
          refine TR.seq ?_
          refine TR.sub (E' := [(0, _), (1, _), (7, _), (8, _), (9, _), (10, _), (23, _), (24, _), (25, _), (26, _)]) ⟨rfl, rfl, rfl, rfl, rfl, rfl, rfl, rfl, rfl, rfl, trivial⟩ ?_
          refine TR.draw mixed ?_
          apply AR.more [(0, _), (1, _), (2, _), (3, _), (4, _), (5, _), (6, .bool true)]
          refine AR.last [0, 1, 2, 3, 4, 5, 6] [0, 1, 2, 3, 4, 5, 6] ⟨QOne.yes rfl rfl rfl (PV.move rfl), QOne.yes rfl rfl rfl (PV.move rfl), QOne.yes rfl rfl rfl (PV.indexS (u := 10) nd_tstr9 rfl rfl (by omega) hu1), QOne.yes rfl rfl rfl (PV.move rfl), QOne.yes rfl rfl rfl (PV.move rfl), QOne.yes rfl rfl rfl (PV.indexS (u := b) nd_tstr9 rfl rfl (by omega) hu2), QOne.yes rfl rfl rfl (PV.bin rfl rfl (BinV.to (d := true) BinV.neq (decide_eq_true (by have h9 : (UInt8.toNat 10 : Nat) = 10 := rfl; omega)))), trivial⟩ rfl rfl rfl ?_
          refine NX.sub (E' := [(0, _), (1, _), (7, _), (8, _), (9, _), (10, _), (23, _), (24, _), (25, _), (26, _), (27, _), (28, _), (29, _), (30, _), (31, _), (32, _), (33, _)]) ⟨rfl, rfl, rfl, rfl, rfl, rfl, rfl, rfl, rfl, rfl, rfl, rfl, rfl, rfl, rfl, rfl, rfl, trivial⟩ ?_
          refine NX.seq ?_
          refine TR.condT rfl ?_
          refine TR.seq ?_
          refine TR.sub (E' := [(0, _), (1, _), (7, _), (8, _), (9, _), (10, _), (23, _), (24, _), (25, _), (26, _), (27, _), (28, _), (29, _), (30, _), (31, _), (32, _), (33, _)]) ⟨rfl, rfl, rfl, rfl, rfl, rfl, rfl, rfl, rfl, rfl, rfl, rfl, rfl, rfl, rfl, rfl, rfl, trivial⟩ ?_
          refine TR.draw mixed ?_
          apply AR.more [(0, _), (1, _), (2, _), (3, _), (4, _), (5, _), (6, _)]
          refine AR.eff [0, 1, 2, 3, 4, 5, 6] 7 [0, 1, 2, 3, 4, 5, 6, 7, 8] ⟨QOne.yes rfl rfl rfl (PV.move rfl), QOne.yes rfl rfl rfl (PV.move rfl), QOne.yes rfl rfl rfl (PV.bin rfl rfl (BinV.add (((encRu r).length - 1 + 1 : Nat) : Int) (by omega) (by omega) (by omega))), QOne.yes rfl rfl rfl (PV.sliceSfrom nd_tstr9 rfl rfl (by omega) (by show (((encRu r).length - 1 + 1 : Nat) : Int) ≤ ((2 : Nat) : Int); omega)), QOne.yes rfl rfl rfl (PV.move rfl), QOne.yes rfl rfl rfl (PV.move rfl), QOne.yes rfl rfl rfl (PV.indexS (u := b) nd_tstr9 rfl rfl (by omega) hu2), trivial⟩ rfl rfl rfl rfl rfl rfl rfl (EV.call rfl Tryz.call109 (ixb_spec (l := qrL.drop ((((encRu r).length - 1 + 1 : Nat) : Int)).toNat) (c := b))) (fun _ => ?_)
          refine AR.done [3, 6, 4, 5, 0, 2, 1] rfl ?_
          apply AR.more [(8, _)]
          refine AR.last [8] [0, 1, 2, 3, 4, 5, 6, 7, 8] ⟨QOne.yes rfl rfl rfl (PV.assign rfl), trivial⟩ rfl rfl rfl ?_
          refine NX.sub (E' := [(0, _), (1, _), (7, _), (8, _), (9, _), (10, _), (11, _), (23, _), (24, _), (25, _), (26, _), (27, _), (28, _), (29, _), (30, _), (31, _), (32, _), (33, _), (34, _), (35, _), (36, _), (37, _), (38, _), (39, _), (40, _), (41, _)]) ⟨rfl, rfl, rfl, rfl, rfl, rfl, rfl, rfl, rfl, rfl, rfl, rfl, rfl, rfl, rfl, rfl, rfl, rfl, rfl, rfl, rfl, rfl, rfl, rfl, rfl, rfl, trivial⟩ ?_
          refine NX.seq ?_
          refine TR.seq ?_
          refine TR.seq ?_
          refine TR.region ?_
          refine RL.move rfl rfl rfl ?_
          refine RL.bin rfl rfl rfl (BinV.to (d := true) BinV.lss (decide_eq_true (by rw [hdr]; show (-1 : Int) < 0; decide))) rfl ?_
          refine RL.nil ?_
          refine NX.seq ?_
          refine TR.condT rfl ?_
          refine TR.seq ?_
          refine TR.region ?_
          refine RL.assign rfl rfl rfl ?_
          refine RL.nil ?_
          refine NX.seq ?_
          refine TR.ret ?_
          refine NX.retThen ?_
          refine NX.retThen ?_
          refine NX.scopeR ?_
          refine NX.retBlock ?_
          refine NX.retThen ?_
          refine NX.retBlock ?_
          refine NX.retThen ?_
          refine NX.scopeR ?_
          refine NX.retBlock ?_
          exact NX.ret1 () rfl rfl (congrArg I (show (-1 : Int) = qrZ r from by unfold qrZ; rw [if_neg (by omega), if_neg (by omega)])) (fun w hw => (hw.to 0 [] 0 [] rfl))
        · skip
          refine TR.exit ?_
          refine NX.exitThen ?_
          refine NX.exitThen ?_
          refine NX.exitHere ?_
          refine NX.seq ?_
          refine TR.seq ?_
          refine TR.seq ?_
          refine TR.region ?_
          refine RL.assign rfl rfl rfl ?_
          refine RL.nil ?_
          refine NX.seq ?_
          refine TR.ret ?_
          refine NX.retThen ?_
          refine NX.scopeR ?_
          refine NX.retBlock ?_
          exact NX.ret1 () rfl rfl (congrArg I (show (-1 : Int) = qrZ r from by unfold qrZ; rw [if_neg (by omega), if_neg (by omega)])) (fun w hw => (hw.to 0 [] 0 [] rfl))
end Go.Proofs.YtdnjoffkanjjhaaGreatDoor

namespace Go.Proofs
open Go.Shelf
def Tryz.lays153_ren : Go.Shelf.Ren := ⟨fun | 153 => 92 | 152 => 102 | 226 => 103 | 227 => 104 | 228 => 105 | 137 => 109 | 119 => 110 | 224 => 111 | 225 => 112 | 217 => 113 | 266 => 114 | n => n, fun | 9 => 9 | 3 => 3 | 4 => 4 | 5 => 5 | 21 => 21 | 117 => 145 | 116 => 144 | 0 => 0 | 46 => 97 | 124 => 152 | n => n, fun | n => n⟩
theorem Tryz.lays153 : Go.Proofs.Lays.n153 Tryz.prog Tryz.lays153_ren := {
  mixed := by kernel_rfl
  f119 := Tryz.func110.trans (congrArg some (by kernel_rfl))
  f137 := Tryz.func109.trans (congrArg some (by kernel_rfl))
  f152 := Tryz.func102.trans (congrArg some (by kernel_rfl))
  f153 := Tryz.func92.trans (congrArg some (by kernel_rfl))
  f217 := Tryz.func113.trans (congrArg some (by kernel_rfl))
  f224 := Tryz.func111.trans (congrArg some (by kernel_rfl))
  f225 := Tryz.func112.trans (congrArg some (by kernel_rfl))
  f226 := Tryz.func103.trans (congrArg some (by kernel_rfl))
  f227 := Tryz.func104.trans (congrArg some (by kernel_rfl))
  f228 := Tryz.func105.trans (congrArg some (by kernel_rfl))
  f266 := Tryz.func114.trans (congrArg some (by kernel_rfl))
  t0 := Tryz.underlying0
  a0 := Tryz.isAgg0
  z0 := Tryz.sizeOf0
  v0 := Tryz.zeroValue0
  t3 := Tryz.underlying3
  a3 := Tryz.isAgg3
  z3 := Tryz.sizeOf3
  v3 := Tryz.zeroValue3
  t4 := Tryz.underlying4
  a4 := Tryz.isAgg4
  z4 := Tryz.sizeOf4
  v4 := Tryz.zeroValue4
  t5 := Tryz.underlying5
  a5 := Tryz.isAgg5
  z5 := Tryz.sizeOf5
  v5 := Tryz.zeroValue5
  t9 := Tryz.underlying9
  a9 := Tryz.isAgg9
  z9 := Tryz.sizeOf9
  v9 := Tryz.zeroValue9
  t21 := Tryz.underlying21
  a21 := Tryz.isAgg21
  z21 := Tryz.sizeOf21
  v21 := Tryz.zeroValue21
  t46 := Tryz.underlying97
  a46 := Tryz.isAgg97
  z46 := Tryz.sizeOf97
  v46 := Tryz.zeroValue97
  t116 := Tryz.underlying144
  a116 := Tryz.isAgg144
  z116 := Tryz.sizeOf144
  t117 := Tryz.underlying145
  a117 := Tryz.isAgg145
  z117 := Tryz.sizeOf145
  v117 := Tryz.zeroValue145
  t124 := Tryz.underlying152
  a124 := Tryz.isAgg152
  z124 := Tryz.sizeOf152
  v124 := Tryz.zeroValue152 }
end Go.Proofs

namespace Go.Proofs.YtdnjoffkanjjhaaGreatDoor
open Go.GL
set_option linter.unusedVariables false
theorem ne_tstr9 : tyStr Tryz.prog 9 = true := by kernel_rfl
theorem ci_of_calls3 {P : Program} {f : FuncId} {args : Array Value} {w : World} {R : Ending → World → Prop} (h : Calls P f args w R) : CI P f args w R := (callsIn_wide (n := 0)).2 h
theorem h116 : (Tryz.prog.info? 144).map (fun i => (i.zero, i.size)) = some (some (.agg (Array.replicate 256 (.bool false))), 256) := by kernel_rfl
theorem ixAny_long {l : List UInt8} {M : List HP} {F : List Fact} (h8 : 8 < l.length) (hl : l.length < 4294967281) : Ctr Tryz.prog 92 [S l, S qrL] M F Unit (fun _ => I (qtZ (qtI l))) (fun _ => M) (fun _ => F) := fun w hw => by
  have hs : (⟨l.toArray⟩ : ByteArray).size = l.length := by simp [ByteArray.size]
  refine CallsIn.mono (ci_of_calls3 (Go.Proofs.Any.strings_IndexAny_long Go.Proofs.Tryz.lays153 (Go.zero_of_info h116).1 (Go.zero_of_info h116).2 ⟨l.toArray⟩ ⟨qrL.toArray⟩ w (by decide) (by rw [hs]; exact h8) (by rw [hs]; exact hl) (by decide) (fun j b hj => by
    have : ∀ b, b ∈ qrL → b.toNat < 128 := by decide
    exact this b (List.mem_of_getElem? (by simpa using hj))))) ?_
  rintro e w' ⟨rfl, rfl⟩
  refine ⟨(), ?_, ((hw.alloc _).tail.alloc _).tail⟩
  show Ending.returned (I (Lib.indexAny l qrL)) = _
  rw [show qrL = qrL0 from rfl, indexAny_qt]
theorem useSet_spec {n : Nat} {M : List HP} {F : List Fact} (h8 : n ≤ 8) : Ctr Tryz.prog 103 [I (n : Nat)] M F Unit (fun _ => .bool false) (fun _ => M) (fun _ => F) := by
  refine Ctr.body Tryz.func103 rfl rfl ?_
  refine TR.seq ?_
  refine TR.region ?_
  refine RL.assign rfl rfl rfl ?_
  refine RL.nil ?_
  refine NX.seq ?_
  refine TR.seq ?_
  refine TR.region ?_
  refine RL.move rfl rfl rfl ?_
  refine RL.bin rfl rfl rfl (BinV.to (d := false) BinV.gtr (decide_eq_false (by omega))) rfl ?_
  refine RL.assign rfl rfl rfl ?_
  refine RL.nil ?_
  refine NX.seq ?_
  refine TR.ret ?_
  exact NX.ret1 () rfl rfl rfl (fun w hw => hw)
theorem ixAny_short {l : List UInt8} {M : List HP} {F : List Fact} (h8 : l.length ≤ 8) : Ctr Tryz.prog 92 [S l, S qrL] M F Unit (fun _ => I (qtZ (qtI l))) (fun _ => M) (fun _ => F) := by
  refine Ctr.body Tryz.func92 rfl rfl ?_
  refine TR.seq ?_
  refine TR.region ?_
  refine RL.assign rfl rfl rfl ?_
  refine RL.nil ?_
  refine NX.seq ?_
  refine TR.seq ?_
  refine TR.seq ?_
  refine TR.region ?_
  refine RL.move rfl rfl rfl ?_
  refine RL.bin rfl rfl rfl (BinV.to (d := false) BinV.eqlS (decide_eq_false (by decide))) rfl ?_
  refine RL.nil ?_
  refine NX.seq ?_
  refine TR.condF rfl ?_
  refine TR.skip ?_
  refine NX.seq ?_
  refine TR.seq ?_
  refine TR.seq ?_
  refine TR.region ?_
  refine RL.move rfl rfl rfl ?_
  refine RL.lenStr rfl ne_tstr9 rfl rfl ?_
  refine RL.bin rfl rfl rfl (BinV.to (d := false) BinV.eql (decide_eq_false (by show ¬ ((2 : Nat) : Int) = 1; decide))) rfl ?_
  refine RL.nil ?_
  refine NX.seq ?_
  refine TR.condF rfl ?_
  refine TR.skip ?_
  refine NX.seq ?_
  refine TR.seq ?_
  refine TR.seq ?_
  refine TR.region ?_
  refine RL.move rfl rfl rfl ?_
  refine RL.lenStr rfl ne_tstr9 rfl rfl ?_
  refine RL.call rfl rfl Tryz.call103 rfl (useSet_spec h8) (fun _ => ?_)
  refine RL.nil ?_
  refine NX.seq ?_
  refine TR.condF rfl ?_
  refine TR.skip ?_
  refine NX.seq ?_
  refine TR.seq ?_
  refine TR.seq ?_
  refine TR.region ?_
  refine RL.move rfl rfl rfl ?_
  refine RL.ofGV rfl rfl (GV.rangeS ne_tstr9 rfl) (fun it => ?_)
  refine RL.nil ?_
  refine NX.seq ?_
  refine TR.block ?_
  refine TR.loopP (ι := Nat) (fun z => z ≤ l.length ∧ ∀ (j : Nat) c, j < z → l[j]? = some c → qtB c = false) (fun z => [(1, S qrL), (45, .pointer (some ⟨it, 0, none⟩))]) (fun z => Pts it (.stringIter ⟨l.toArray⟩ z) :: M) (fun z => F) (fun z => (l.length - z)) 0 ⟨Nat.zero_le _, fun j c h => absurd h (by omega)⟩ ⟨rfl, rfl, trivial⟩ (fun w hw => (hw.to 1 [0] 0 [] rfl)) (fun z hz => ?_)
  refine TR.seq ?_
  refine TR.region ?_
  rcases Nat.lt_or_ge z l.length with hk | hk
  · skip
    refine RL.ofGV rfl rfl (GV.nextOn 0 rfl rfl hk) (fun _ => ?_)
    refine RL.extract rfl rfl rfl rfl ?_
    refine RL.nil ?_
    refine NX.seq ?_
    refine TR.seq ?_
    refine TR.condT rfl ?_
    refine TR.skip ?_
    refine NX.seq ?_
    refine TR.block ?_
    refine TR.seq ?_
    obtain ⟨b, hb⟩ : ∃ b, l[z]? = some b := ⟨_, List.getElem?_eq_getElem hk⟩
    have hdq := dec_qt hb
    have hcl := charL_le (l := l.drop z) (by rw [List.length_drop]; omega)
    have hcp := (charL_pos (l.drop z)).1
    rw [List.length_drop] at hcl
    refine TR.region ?_
    refine RL.extract rfl rfl rfl rfl ?_
    refine RL.extract rfl rfl rfl rfl ?_
    refine RL.assign rfl rfl rfl ?_
    refine RL.assign rfl rfl rfl ?_
    refine RL.nil ?_
    refine NX.seq ?_
    refine TR.seq ?_
    refine TR.region ?_
    refine RL.move rfl rfl rfl ?_
    refine RL.move rfl rfl rfl ?_
    refine RL.call rfl rfl Tryz.call102 rfl (indexRune_spec (r := ((Utf8.decode ⟨l.toArray⟩ z).1 : Nat)) (by omega) (by have := (dec_char l z).2.2.2; omega)) (fun _ => ?_)
    refine RL.bin rfl rfl rfl BinV.geq rfl ?_
    refine RL.nil ?_
    refine NX.seq ?_
    refine TR.cond rfl (fun h1 => ?_) (fun h1 => ?_)
    · skip
      have hq : qtB b = true := by
        have h9 := of_decide_eq_true h1
        have h9 : 0 ≤ qrZ ((Utf8.decode ⟨l.toArray⟩ z).1 : Nat) := h9
        rw [qr_ge] at h9
        exact hdq.1 (by omega)
      refine TR.seq ?_
      refine TR.region ?_
      refine RL.move rfl rfl rfl ?_
      refine RL.assign rfl rfl rfl ?_
      refine RL.nil ?_
      refine NX.seq ?_
      refine TR.ret ?_
      refine NX.retBlock ?_
      refine NX.retThen ?_
      refine NX.retBlock ?_
      refine NX.retThen ?_
      exact NX.ret1 () rfl rfl (congrArg I (show ((z : Nat) : Int) = qtZ (qtI l) from by rw [qtI_hit hz.2 hb hq]; rfl)) (fun w hw => (hw.to 1 [] 0 [] rfl))
    · skip
      have hq : qtB b = false := by
        have h9 := of_decide_eq_false h1
        have h9 : ¬ 0 ≤ qrZ ((Utf8.decode ⟨l.toArray⟩ z).1 : Nat) := h9
        rw [qr_ge] at h9
        cases hq : qtB b with
        | false => rfl
        | true => exact absurd (hdq.2 hq) (by omega)
      refine TR.skip ?_
      refine NX.off ?_
      refine NX.roundP (z + (charL (l.drop z)).1) ⟨by omega, dec_skip hz.2 hb hq⟩ (by omega) ⟨rfl, rfl, trivial⟩ (fun w hw => (hw.to 1 [0] 0 [] rfl))
  · skip
    refine RL.ofGV rfl rfl (GV.nextEnd 0 rfl rfl (by omega)) (fun _ => ?_)
    refine RL.extract rfl rfl rfl rfl ?_
    refine RL.nil ?_
    refine NX.seq ?_
    refine TR.seq ?_
    refine TR.condF rfl ?_
    refine TR.exit ?_
    refine NX.exitThen ?_
    refine NX.exitThen ?_
    refine NX.exitHere ?_
    refine NX.seq ?_
    refine TR.seq ?_
    refine TR.region ?_
    refine RL.assign rfl rfl rfl ?_
    refine RL.nil ?_
    refine NX.seq ?_
    refine TR.ret ?_
    exact NX.ret1 () rfl rfl (congrArg I (show (-1 : Int) = qtZ (qtI l) from by rw [qtI_none (fun j c hc => hz.2 j c (by have := (List.getElem?_eq_some_iff.1 hc).1; omega) hc)]; rfl)) (fun w hw => (hw.to 1 [] 0 [] rfl))
theorem ixAny_spec {l : List UInt8} {M : List HP} {F : List Fact} (hl : l.length < 4294967281) : Ctr Tryz.prog 92 [S l, S qrL] M F Unit (fun _ => I (qtZ (qtI l))) (fun _ => M) (fun _ => F) := by
  rcases Nat.lt_or_ge 8 l.length with h | h
  · exact ixAny_long h hl
  · exact ixAny_short h
theorem quoted_spec {l : List UInt8} {M : List HP} {F : List Fact} (h1 : 1 ≤ l.length) (hl : l.length < 4294967281) : Ctr Tryz.prog 77 [S l] M F Unit (fun _ => I (quN l : Nat)) (fun _ => M) (fun _ => F) := by
  refine Ctr.body Tryz.func77 rfl rfl ?_
  refine TR.seq ?_
  refine TR.region ?_
  refine RL.assign rfl rfl rfl ?_
  refine RL.nil ?_
  refine NX.seq ?_
  refine TR.seq ?_
  refine TR.region ?_
  refine RL.move rfl rfl rfl ?_
  refine RL.sliceSfrom rfl ne_tstr9 rfl rfl (by omega) (by omega) rfl ?_
  refine RL.call rfl rfl Tryz.call92 rfl (ixAny_spec (l := l.drop (1 : Int).toNat) (by rw [List.length_drop]; omega)) (fun _ => ?_)
  refine RL.assign rfl rfl rfl ?_
  refine RL.nil ?_
  refine NX.seq ?_
  refine TR.seq ?_
  refine TR.seq ?_
  rw [show l.drop (1 : Int).toNat = l.drop 1 from rfl]
  refine TR.region ?_
  rcases hqi : qtI (l.drop 1) with _ | i
  · skip
    refine RL.move rfl rfl rfl ?_
    skip
    refine RL.bin rfl rfl rfl (BinV.to (d := true) BinV.lss (decide_eq_true (by decide))) rfl ?_
    refine RL.move rfl rfl rfl ?_
    refine RL.skip rfl rfl rfl ?_
    refine RL.skip rfl rfl rfl ?_
    refine RL.skip rfl rfl rfl ?_
    refine RL.skip rfl rfl rfl ?_
    refine RL.skip rfl rfl rfl ?_
    refine RL.pickT rfl rfl rfl rfl ?_
    refine RL.nil ?_
    refine NX.seq ?_
    refine TR.condT rfl ?_
    refine TR.seq ?_
    refine TR.region ?_
    refine RL.assign rfl rfl rfl ?_
    refine RL.nil ?_
    refine NX.seq ?_
    refine TR.ret ?_
    refine NX.retThen ?_
    exact NX.ret1 () rfl rfl (congrArg (fun n : Nat => I (n : Nat)) (show 0 = quN l from by unfold quN; rw [hqi])) (fun w hw => hw)
  · skip
    refine RL.move rfl rfl rfl ?_
    obtain ⟨bq, hb1, hb2⟩ := qtI_lt hqi
    have hil := (List.getElem?_eq_some_iff.1 hb1).1
    rw [List.length_drop] at hil
    have hgd : l[1 + i]? = some (l.getD (1 + i) 0) := by rw [List.getD_eq_getElem?_getD, List.getElem?_eq_getElem (by omega)]; rfl
    refine RL.bin rfl rfl rfl (BinV.to (d := false) BinV.lss (decide_eq_false (by show ¬ ((i : Nat) : Int) < 0; omega))) rfl ?_
    refine RL.move rfl rfl rfl ?_
    refine RL.move rfl rfl rfl ?_
    refine RL.move rfl rfl rfl ?_
    refine RL.bin rfl rfl rfl (BinV.add ((1 + i : Nat) : Int) (by show (1 + ((i : Nat) : Int)) = _; omega) (by omega) (by omega)) rfl ?_
    refine RL.indexS (u := l.getD (1 + i) 0) rfl ne_tstr9 rfl rfl (by omega) (by rw [Int.toNat_natCast]; exact hgd) rfl ?_
    refine RL.bin rfl rfl rfl BinV.eql rfl ?_
    refine RL.pickF rfl rfl rfl rfl ?_
    refine RL.nil ?_
    refine NX.seq ?_
    refine TR.cond rfl (fun h1 => ?_) (fun h1 => ?_)
    · skip
      have h10 : l.getD (1 + i) 0 = 10 := UInt8.toNat_inj.1 (by have h9 := of_decide_eq_true h1; show _ = 10; omega)
      refine TR.seq ?_
      refine TR.region ?_
      refine RL.assign rfl rfl rfl ?_
      refine RL.nil ?_
      refine NX.seq ?_
      refine TR.ret ?_
      refine NX.retThen ?_
      exact NX.ret1 () rfl rfl (congrArg (fun n : Nat => I (n : Nat)) (show 0 = quN l from by unfold quN; rw [hqi]; show _ = if _ then _ else _; rw [if_pos h10])) (fun w hw => hw)
    · skip
      have h10 : ¬ l.getD (1 + i) 0 = 10 := fun e => by have h9 := of_decide_eq_false h1; rw [e] at h9; exact h9 rfl
      refine TR.skip ?_
      refine NX.seq ?_
      refine TR.seq ?_
      refine TR.region ?_
      refine RL.move rfl rfl rfl ?_
      refine RL.bin rfl rfl rfl (BinV.add ((i + 2 : Nat) : Int) (by show ((i : Nat) : Int) + 2 = _; omega) (by omega) (by omega)) rfl ?_
      refine RL.assign rfl rfl rfl ?_
      refine RL.nil ?_
      refine NX.seq ?_
      refine TR.ret ?_
      exact NX.ret1 () rfl rfl (congrArg (fun n : Nat => I (n : Nat)) (show i + 2 = quN l from by unfold quN; rw [hqi]; show _ = if _ then _ else _; rw [if_neg h10])) (fun w hw => hw)
end Go.Proofs.YtdnjoffkanjjhaaGreatDoor

namespace Go.Proofs.YtdnjoffkanjjhaaGreatDoor
open Go.GL
set_option linter.unusedVariables false
theorem nf_tstr9 : tyStr Tryz.prog 9 = true := by kernel_rfl
theorem good_spec {l : List UInt8} {M : List HP} {F : List Fact} (hne : 1 ≤ l.length) (hl : l.length < 4294967281) (hkw : CellsF 0 0 (stC kwL) ∈ F) (hsy : CellsF 1 0 (stC syL) ∈ F) : Ctr Tryz.prog 62 [S l] M F Unit (fun _ => .tuple #[I ((gdN Op.bytesLess l).1 : Nat), I ((gdN Op.bytesLess l).2 : Nat)]) (fun _ => M) (fun _ => F) := by
  refine Ctr.body Tryz.func62 rfl rfl ?_
  refine TR.seq ?_
  obtain ⟨c, l1, rfl⟩ : ∃ c l1, l = c :: l1 := by
    cases l with
    | nil => exact absurd hne (by decide)
    | cons c l1 => exact ⟨c, l1, rfl⟩
  refine TR.region ?_
  refine RL.assign rfl rfl rfl ?_
  refine RL.assign rfl rfl rfl ?_
  refine RL.nil ?_
  refine NX.seq ?_
  refine TR.seq ?_
  refine TR.region ?_
  refine RL.move rfl rfl rfl ?_
  refine RL.indexS (u := c) rfl nf_tstr9 rfl rfl (by decide) rfl rfl ?_
  refine RL.assign rfl rfl rfl ?_
  refine RL.nil ?_
  refine NX.seq ?_
  refine TR.seq ?_
  refine TR.block ?_
  refine TR.seq ?_
  refine TR.region ?_
  refine RL.move rfl rfl rfl ?_
  refine RL.call rfl rfl Tryz.call70 rfl (space_spec (c := c)) (fun _ => ?_)
  refine RL.assign rfl rfl rfl ?_
  refine RL.nil ?_
  refine NX.seq ?_
  refine TR.cond rfl (fun h1 => ?_) (fun h1 => ?_)
  · skip
    have hs := h1
    refine TR.seq ?_
    refine TR.region ?_
    refine RL.move rfl rfl rfl ?_
    refine RL.call rfl rfl Tryz.call63 rfl (run_spec (l := (c :: l1)) (cl := spB) cls_space (by omega)) (fun _ => ?_)
    refine RL.assign rfl rfl rfl ?_
    refine RL.assign rfl rfl rfl ?_
    refine RL.nil ?_
    refine NX.seq ?_
    refine TR.ret ?_
    refine NX.retBlock ?_
    refine NX.retThen ?_
    have hg : gdN Op.bytesLess (c :: l1) = (0, rnN spB (c :: l1)) := by
      show (if _ then _ else _ : Nat × Nat) = _
      rw [if_pos hs]
    exact NX.ret2 () rfl rfl rfl (by rw [hg]; rfl) (fun w hw => hw)
  · skip
    have hs := h1
    have hsn : ¬ spB c = true := by rw [hs]; decide
    refine TR.seq ?_
    refine TR.region ?_
    refine RL.move rfl rfl rfl ?_
    refine RL.bin rfl rfl rfl BinV.eql rfl ?_
    refine RL.assign rfl rfl rfl ?_
    refine RL.nil ?_
    refine NX.seq ?_
    refine TR.cond rfl (fun h2 => ?_) (fun h2 => ?_)
    · skip
      have h35 : c.toNat = 35 := by have := of_decide_eq_true h2; omega
      refine TR.seq ?_
      refine TR.region ?_
      refine RL.move rfl rfl rfl ?_
      refine RL.call rfl rfl Tryz.call63 rfl (run_spec (l := (c :: l1)) (cl := lnB) cls_line (by omega)) (fun _ => ?_)
      refine RL.assign rfl rfl rfl ?_
      refine RL.assign rfl rfl rfl ?_
      refine RL.nil ?_
      refine NX.seq ?_
      refine TR.ret ?_
      refine NX.retBlock ?_
      refine NX.retThen ?_
      have hg : gdN Op.bytesLess (c :: l1) = (1, rnN lnB (c :: l1)) := by
        show (if _ then _ else _ : Nat × Nat) = _
        rw [if_neg hsn, if_pos h35]
      exact NX.ret2 () rfl rfl rfl (by rw [hg]; rfl) (fun w hw => hw)
    · skip
      have h35 : ¬ c.toNat = 35 := by have := of_decide_eq_false h2; omega
      refine TR.seq ?_
      refine TR.region ?_
      refine RL.move rfl rfl rfl ?_
      refine RL.call rfl rfl Tryz.call71 rfl (lower_spec (c := c)) (fun _ => ?_)
      refine RL.assign rfl rfl rfl ?_
      refine RL.nil ?_
      refine NX.seq ?_
      refine TR.cond rfl (fun h3 => ?_) (fun h3 => ?_)
      · skip
        have hlo := h3
        refine TR.seq ?_
        refine TR.region ?_
        refine RL.move rfl rfl rfl ?_
        refine RL.call rfl rfl Tryz.call63 rfl (run_spec (l := (c :: l1)) (cl := woB) cls_word (by omega)) (fun _ => ?_)
        refine RL.assign rfl rfl rfl ?_
        refine RL.nil ?_
        refine NX.seq ?_
        refine TR.seq ?_
        refine TR.seq ?_
        refine TR.region ?_
        refine RL.move rfl rfl rfl ?_
        refine RL.move rfl rfl rfl ?_
        refine RL.sliceSto rfl nf_tstr9 rfl rfl (by omega) (by have := rnN_le woB (c :: l1); omega) rfl ?_
        refine RL.call rfl rfl Tryz.call73 rfl (isKw_spec (s := (c :: l1).take (((rnN woB (c :: l1) : Nat) : Int)).toNat) hkw) (fun _ => ?_)
        refine RL.nil ?_
        refine NX.seq ?_
        refine TR.cond rfl (fun h4 => ?_) (fun h4 => ?_)
        · skip
          have hk : kwB Op.bytesLess ((c :: l1).take (rnN woB (c :: l1))) = true := by have h9 := h4; rw [Int.toNat_natCast] at h9; exact h9
          refine TR.seq ?_
          refine TR.region ?_
          refine RL.move rfl rfl rfl ?_
          refine RL.assign rfl rfl rfl ?_
          refine RL.assign rfl rfl rfl ?_
          refine RL.nil ?_
          refine NX.seq ?_
          refine TR.ret ?_
          refine NX.retThen ?_
          refine NX.retBlock ?_
          refine NX.retThen ?_
          have hg : gdN Op.bytesLess (c :: l1) = (7, rnN woB (c :: l1)) := by
            show (if _ then _ else _ : Nat × Nat) = _
            rw [if_neg hsn, if_neg h35, if_pos hlo, if_pos hk]
          exact NX.ret2 () rfl rfl rfl (by rw [hg]; rfl) (fun w hw => hw)
        · skip
          have hk : ¬ kwB Op.bytesLess ((c :: l1).take (rnN woB (c :: l1))) = true := by have h9 := h4; rw [Int.toNat_natCast] at h9; rw [h9]; decide
          refine TR.skip ?_
          refine NX.seq ?_
          refine TR.seq ?_
          refine TR.region ?_
          refine RL.move rfl rfl rfl ?_
          refine RL.assign rfl rfl rfl ?_
          refine RL.assign rfl rfl rfl ?_
          refine RL.nil ?_
          refine NX.seq ?_
          refine TR.ret ?_
          refine NX.retBlock ?_
          refine NX.retThen ?_
          have hg : gdN Op.bytesLess (c :: l1) = (2, rnN woB (c :: l1)) := by
            show (if _ then _ else _ : Nat × Nat) = _
            rw [if_neg hsn, if_neg h35, if_pos hlo, if_neg hk]
          exact NX.ret2 () rfl rfl rfl (by rw [hg]; rfl) (fun w hw => hw)
      · skip
        have hlo := h3
        have hlon : ¬ loB c = true := by rw [hlo]; decide
        refine TR.seq ?_
        refine TR.region ?_
        refine RL.move rfl rfl rfl ?_
        refine RL.call rfl rfl Tryz.call74 rfl (upper_spec (c := c)) (fun _ => ?_)
        refine RL.assign rfl rfl rfl ?_
        refine RL.nil ?_
        refine NX.seq ?_
        refine TR.cond rfl (fun h5 => ?_) (fun h5 => ?_)
        · skip
          have hup := h5
          refine TR.seq ?_
          refine TR.region ?_
          refine RL.move rfl rfl rfl ?_
          refine RL.call rfl rfl Tryz.call63 rfl (run_spec (l := (c :: l1)) (cl := naB) cls_name (by omega)) (fun _ => ?_)
          refine RL.assign rfl rfl rfl ?_
          refine RL.assign rfl rfl rfl ?_
          refine RL.nil ?_
          refine NX.seq ?_
          refine TR.ret ?_
          refine NX.retBlock ?_
          refine NX.retThen ?_
          have hg : gdN Op.bytesLess (c :: l1) = (3, rnN naB (c :: l1)) := by
            show (if _ then _ else _ : Nat × Nat) = _
            rw [if_neg hsn, if_neg h35, if_neg hlon, if_pos hup]
          exact NX.ret2 () rfl rfl rfl (by rw [hg]; rfl) (fun w hw => hw)
        · skip
          have hup := h5
          have hupn : ¬ upB c = true := by rw [hup]; decide
          refine TR.seq ?_
          refine TR.region ?_
          refine RL.move rfl rfl rfl ?_
          refine RL.call rfl rfl Tryz.call76 rfl (digit_spec (c := c)) (fun _ => ?_)
          refine RL.assign rfl rfl rfl ?_
          refine RL.nil ?_
          refine NX.seq ?_
          refine TR.cond rfl (fun h6 => ?_) (fun h6 => ?_)
          · skip
            have hdg := h6
            refine TR.seq ?_
            refine TR.region ?_
            refine RL.move rfl rfl rfl ?_
            refine RL.call rfl rfl Tryz.call63 rfl (run_spec (l := (c :: l1)) (cl := dgB) cls_digit (by omega)) (fun _ => ?_)
            refine RL.assign rfl rfl rfl ?_
            refine RL.assign rfl rfl rfl ?_
            refine RL.nil ?_
            refine NX.seq ?_
            refine TR.ret ?_
            refine NX.retBlock ?_
            refine NX.retThen ?_
            have hg : gdN Op.bytesLess (c :: l1) = (4, rnN dgB (c :: l1)) := by
              show (if _ then _ else _ : Nat × Nat) = _
              rw [if_neg hsn, if_neg h35, if_neg hlon, if_neg hupn, if_pos hdg]
            exact NX.ret2 () rfl rfl rfl (by rw [hg]; rfl) (fun w hw => hw)
          · skip
            have hdg := h6
            have hdgn : ¬ dgB c = true := by rw [hdg]; decide
            refine TR.seq ?_
            refine TR.region ?_
            refine RL.move rfl rfl rfl ?_
            refine RL.bin rfl rfl rfl BinV.eql rfl ?_
            refine RL.assign rfl rfl rfl ?_
            refine RL.nil ?_
            refine NX.seq ?_
            refine TR.cond rfl (fun h7 => ?_) (fun h7 => ?_)
            · skip
              have h34 : c.toNat = 34 := by have := of_decide_eq_true h7; omega
              refine TR.seq ?_
              refine TR.region ?_
              refine RL.move rfl rfl rfl ?_
              refine RL.call rfl rfl Tryz.call77 rfl (quoted_spec (l := (c :: l1)) (by rw [List.length_cons]; omega) (by omega)) (fun _ => ?_)
              refine RL.assign rfl rfl rfl ?_
              refine RL.assign rfl rfl rfl ?_
              refine RL.nil ?_
              refine NX.seq ?_
              refine TR.ret ?_
              refine NX.retBlock ?_
              refine NX.retThen ?_
              have hg : gdN Op.bytesLess (c :: l1) = (5, quN (c :: l1)) := by
                show (if _ then _ else _ : Nat × Nat) = _
                rw [if_neg hsn, if_neg h35, if_neg hlon, if_neg hupn, if_neg hdgn, if_pos h34]
              exact NX.ret2 () rfl rfl rfl (by rw [hg]; rfl) (fun w hw => hw)
            · skip
              have h34 : ¬ c.toNat = 34 := by have := of_decide_eq_false h7; omega
              refine TR.skip ?_
              refine NX.off ?_
              refine NX.seq ?_
              refine TR.seq ?_
              refine TR.region ?_
              refine RL.move rfl rfl rfl ?_
              refine RL.call rfl rfl Tryz.call78 rfl (symbol_spec (l := (c :: l1)) hsy) (fun _ => ?_)
              refine RL.assign rfl rfl rfl ?_
              refine RL.assign rfl rfl rfl ?_
              refine RL.nil ?_
              refine NX.seq ?_
              refine TR.ret ?_
              have hg : gdN Op.bytesLess (c :: l1) = (6, syN (c :: l1) syL) := by
                show (if _ then _ else _ : Nat × Nat) = _
                rw [if_neg hsn, if_neg h35, if_neg hlon, if_neg hupn, if_neg hdgn, if_neg h34]
              exact NX.ret2 () rfl rfl rfl (by rw [hg]; rfl) (fun w hw => hw)
theorem bdN_stop {lt : List UInt8 → List UInt8 → Bool} {s : List UInt8} {f z : Nat} (h : ¬ (z < s.length ∧ s.getD z 0 ≠ 34)) : bdN lt s f z = z := by
  cases f with
  | zero => rfl
  | succ f => rw [bdN, if_neg h]
theorem bdN_go {lt : List UInt8 → List UInt8 → Bool} {s : List UInt8} {f z : Nat} (h : z < s.length ∧ s.getD z 0 ≠ 34) : bdN lt s (f + 1) z = if 0 < (gdN lt (s.drop z)).2 then z else bdN lt s f (z + 1) := by rw [bdN, if_pos h]
theorem getD_is {l : List UInt8} {i : Nat} {b : UInt8} (h : l[i]? = some b) : l.getD i 0 = b := by rw [List.getD_eq_getElem?_getD, h]; rfl
theorem next_spec {l : List UInt8} {M : List HP} {F : List Fact} (hne : 1 ≤ l.length) (hl : l.length < 4294967281) (hkw : CellsF 0 0 (stC kwL) ∈ F) (hsy : CellsF 1 0 (stC syL) ∈ F) : Ctr Tryz.prog 53 [S l] M F Unit (fun _ => .tuple #[I ((nxN Op.bytesLess l).1 : Nat), I ((nxN Op.bytesLess l).2 : Nat)]) (fun _ => M) (fun _ => F) := by
  refine Ctr.body Tryz.func53 rfl rfl ?_
  refine TR.seq ?_
  obtain ⟨c, hc⟩ : ∃ c, l[(0 : Int).toNat]? = some c := ⟨_, List.getElem?_eq_getElem (by show 0 < l.length; omega)⟩
  have hc0 := getD_is hc
  have hgl := gdN_le Op.bytesLess l
  refine TR.region ?_
  refine RL.assign rfl rfl rfl ?_
  refine RL.assign rfl rfl rfl ?_
  refine RL.nil ?_
  refine NX.seq ?_
  refine TR.seq ?_
  refine TR.region ?_
  refine RL.move rfl rfl rfl ?_
  refine RL.call rfl rfl Tryz.call62 rfl (good_spec (l := l) hne hl hkw hsy) (fun _ => ?_)
  refine RL.move rfl rfl rfl ?_
  refine RL.extract rfl rfl rfl rfl ?_
  refine RL.extract rfl rfl rfl rfl ?_
  refine RL.assign rfl rfl rfl ?_
  refine RL.assign rfl rfl rfl ?_
  refine RL.nil ?_
  refine NX.seq ?_
  refine TR.seq ?_
  refine TR.seq ?_
  refine TR.region ?_
  refine RL.move rfl rfl rfl ?_
  refine RL.bin rfl rfl rfl BinV.gtr rfl ?_
  refine RL.nil ?_
  refine NX.seq ?_
  refine TR.cond rfl (fun h1 => ?_) (fun h1 => ?_)
  · skip
    have hg0 : 0 < (gdN Op.bytesLess l).2 := by have := of_decide_eq_true h1; omega
    refine TR.seq ?_
    refine TR.region ?_
    refine RL.move rfl rfl rfl ?_
    refine RL.move rfl rfl rfl ?_
    refine RL.assign rfl rfl rfl ?_
    refine RL.assign rfl rfl rfl ?_
    refine RL.nil ?_
    refine NX.seq ?_
    refine TR.ret ?_
    refine NX.retThen ?_
    exact NX.ret2 () rfl rfl rfl (by rw [show nxN Op.bytesLess l = gdN Op.bytesLess l from if_pos hg0]; rfl) (fun w hw => hw)
  · skip
    have hg0 : ¬ 0 < (gdN Op.bytesLess l).2 := by have := of_decide_eq_false h1; omega
    refine TR.skip ?_
    refine NX.seq ?_
    refine TR.seq ?_
    refine TR.seq ?_
    refine TR.region ?_
    refine RL.move rfl rfl rfl ?_
    refine RL.indexS (u := c) rfl nf_tstr9 rfl rfl (by decide) hc rfl ?_
    refine RL.bin rfl rfl rfl BinV.eql rfl ?_
    refine RL.nil ?_
    refine NX.seq ?_
    refine TR.cond rfl (fun h2 => ?_) (fun h2 => ?_)
    · skip
      have hq : l.getD 0 0 = 34 := by have h9 := of_decide_eq_true h2; exact hc0.trans (UInt8.toNat_inj.1 (by show _ = 34; omega))
      refine TR.seq ?_
      refine TR.region ?_
      refine RL.move rfl rfl rfl ?_
      refine RL.call rfl rfl Tryz.call63 rfl (run_spec (l := l) (cl := lnB) cls_line (by omega)) (fun _ => ?_)
      refine RL.assign rfl rfl rfl ?_
      refine RL.assign rfl rfl rfl ?_
      refine RL.nil ?_
      refine NX.seq ?_
      refine TR.ret ?_
      refine NX.retThen ?_
      exact NX.ret2 () rfl rfl rfl (by rw [show nxN Op.bytesLess l = (8, rnN lnB l) from by unfold nxN; rw [if_neg hg0, if_pos hq]]; rfl) (fun w hw => hw)
    · skip
      have hq : ¬ l.getD 0 0 = 34 := fun e => by have h9 := of_decide_eq_false h2; have h8 : c = 34 := hc0.symm.trans e; rw [h8] at h9; exact h9 rfl
      refine TR.skip ?_
      refine NX.seq ?_
      refine TR.seq ?_
      refine TR.seq ?_
      refine TR.region ?_
      refine RL.assign rfl rfl rfl ?_
      refine RL.nil ?_
      refine NX.seq ?_
      refine TR.block ?_
      refine TR.loopP (ι := (Nat × Nat)) (fun z => 1 ≤ z.2 ∧ z.2 ≤ l.length ∧ z.1 + z.2 = l.length + 1 ∧ bdN Op.bytesLess l z.1 z.2 = bdN Op.bytesLess l l.length 1) (fun z => [(0, S l), (5, I (z.2 : Nat))]) (fun z => M) (fun z => F) (fun z => (l.length - z.2)) (l.length, 1) ⟨Nat.le_refl _, hne, rfl, rfl⟩ ⟨rfl, rfl, trivial⟩ (fun w hw => (hw.to 0 [] 0 [] rfl)) (fun z hz => ?_)
      refine TR.seq ?_
      refine TR.seq ?_
      refine TR.region ?_
      refine RL.move rfl rfl rfl ?_
      refine RL.move rfl rfl rfl ?_
      refine RL.lenStr rfl nf_tstr9 rfl rfl ?_
      refine RL.bin rfl rfl rfl BinV.lss rfl ?_
      refine RL.move rfl rfl rfl ?_
      refine RL.part (fun h3 => ?_) (fun h3 => ?_)
      · skip
        have hzl : z.2 < l.length := by have := of_decide_eq_true h3; omega
        obtain ⟨b, hb⟩ : ∃ b, l[z.2]? = some b := ⟨_, List.getElem?_eq_getElem hzl⟩
        have hb0 := getD_is hb
        refine RL.move rfl rfl rfl ?_
        refine RL.move rfl rfl rfl ?_
        refine RL.indexS (u := b) rfl nf_tstr9 rfl rfl (by omega) (by rw [Int.toNat_natCast]; exact hb) rfl ?_
        refine RL.bin rfl rfl rfl BinV.neq rfl ?_
        refine RL.pickT rfl rfl rfl rfl ?_
        refine RL.nil ?_
        refine NX.seq ?_
        refine TR.cond rfl (fun h4 => ?_) (fun h4 => ?_)
        · skip
          have hz34 : l.getD z.2 0 ≠ 34 := fun e => by have h9 := of_decide_eq_true h4; have h8 : b = 34 := hb0.symm.trans e; rw [h8] at h9; exact h9 rfl
          refine TR.skip ?_
          refine NX.seq ?_
          refine TR.seq ?_
          refine TR.block ?_
          refine TR.seq ?_
          refine TR.region ?_
          refine RL.move rfl rfl rfl ?_
          refine RL.move rfl rfl rfl ?_
          refine RL.sliceSfrom rfl nf_tstr9 rfl rfl (by omega) (by omega) rfl ?_
          refine RL.call rfl rfl Tryz.call62 rfl (good_spec (l := l.drop (((z.2 : Nat) : Int)).toNat) (by rw [Int.toNat_natCast, List.length_drop]; omega) (by rw [List.length_drop]; omega) hkw hsy) (fun _ => ?_)
          refine RL.move rfl rfl rfl ?_
          refine RL.extract rfl rfl rfl rfl ?_
          refine RL.extract rfl rfl rfl rfl ?_
          refine RL.assign rfl rfl rfl ?_
          refine RL.assign rfl rfl rfl ?_
          refine RL.nil ?_
          refine NX.seq ?_
          refine TR.seq ?_
          refine TR.region ?_
          refine RL.move rfl rfl rfl ?_
          refine RL.bin rfl rfl rfl BinV.gtr rfl ?_
          refine RL.nil ?_
          refine NX.seq ?_
          refine TR.cond rfl (fun h5 => ?_) (fun h5 => ?_)
          · skip
            have hgk : 0 < (gdN Op.bytesLess (l.drop z.2)).2 := by have h9 := of_decide_eq_true h5; rw [Int.toNat_natCast] at h9; omega
            refine TR.exit ?_
            refine NX.exitOn rfl ?_
            refine NX.exitThen ?_
            refine NX.exitThen ?_
            refine NX.exitHere ?_
            refine NX.seq ?_
            refine TR.seq ?_
            refine TR.region ?_
            refine RL.move rfl rfl rfl ?_
            refine RL.assign rfl rfl rfl ?_
            refine RL.assign rfl rfl rfl ?_
            refine RL.nil ?_
            refine NX.seq ?_
            refine TR.ret ?_
            have hbd := bdN_go (lt := Op.bytesLess) (s := l) (f := z.1 - 1) (z := z.2) ⟨hzl, hz34⟩
            rw [show z.1 - 1 + 1 = z.1 from by omega, if_pos hgk, hz.2.2.2] at hbd
            exact NX.ret2 () rfl rfl rfl (by rw [show nxN Op.bytesLess l = (8, bdN Op.bytesLess l l.length 1) from by unfold nxN; rw [if_neg hg0, if_neg hq], hbd]; rfl) (fun w hw => hw)
          · skip
            have hgk : ¬ 0 < (gdN Op.bytesLess (l.drop z.2)).2 := by have h9 := of_decide_eq_false h5; rw [Int.toNat_natCast] at h9; omega
            refine TR.skip ?_
            refine NX.off ?_
            refine NX.seq ?_
            refine TR.region ?_
            refine RL.move rfl rfl rfl ?_
            refine RL.bin rfl rfl rfl (BinV.add ((z.2 + 1 : Nat) : Int) (by omega) (by omega) (by omega)) rfl ?_
            refine RL.assign rfl rfl rfl ?_
            refine RL.nil ?_
            have hbg := bdN_go (lt := Op.bytesLess) (s := l) (f := z.1 - 1) (z := z.2) ⟨hzl, hz34⟩
            rw [show z.1 - 1 + 1 = z.1 from by omega, if_neg hgk] at hbg
            refine NX.roundP (z.1 - 1, z.2 + 1) ⟨by show 1 ≤ z.2 + 1; omega, by show z.2 + 1 ≤ _; omega, by show z.1 - 1 + (z.2 + 1) = _; omega, hbg.symm.trans hz.2.2.2⟩ (by show l.length - (z.2 + 1) < l.length - z.2; omega) ⟨rfl, rfl, trivial⟩ (fun w hw => (hw.to 0 [] 0 [] rfl))
        · skip
          have hz34 : l.getD z.2 0 = 34 := by have h9 := of_decide_eq_false h4; exact hb0.trans (UInt8.toNat_inj.1 (by show _ = 34; omega))
          refine TR.exit ?_
          refine NX.exitThen ?_
          refine NX.exitThen ?_
          refine NX.exitHere ?_
          refine NX.seq ?_
          refine TR.seq ?_
          refine TR.region ?_
          refine RL.move rfl rfl rfl ?_
          refine RL.assign rfl rfl rfl ?_
          refine RL.assign rfl rfl rfl ?_
          refine RL.nil ?_
          refine NX.seq ?_
          refine TR.ret ?_
          have hbd := bdN_stop (lt := Op.bytesLess) (s := l) (f := z.1) (z := z.2) (fun e => e.2 hz34)
          rw [hz.2.2.2] at hbd
          exact NX.ret2 () rfl rfl rfl (by rw [show nxN Op.bytesLess l = (8, bdN Op.bytesLess l l.length 1) from by unfold nxN; rw [if_neg hg0, if_neg hq], hbd]; rfl) (fun w hw => hw)
      · skip
        have hzl : ¬ z.2 < l.length := by have := of_decide_eq_false h3; omega
        refine RL.skip rfl rfl rfl ?_
        refine RL.skip rfl rfl rfl ?_
        refine RL.skip rfl rfl rfl ?_
        refine RL.skip rfl rfl rfl ?_
        refine RL.pickF rfl rfl rfl rfl ?_
        refine RL.nil ?_
        refine NX.seq ?_
        refine TR.condF rfl ?_
        refine TR.exit ?_
        refine NX.exitThen ?_
        refine NX.exitThen ?_
        refine NX.exitHere ?_
        refine NX.seq ?_
        refine TR.seq ?_
        refine TR.region ?_
        refine RL.move rfl rfl rfl ?_
        refine RL.assign rfl rfl rfl ?_
        refine RL.assign rfl rfl rfl ?_
        refine RL.nil ?_
        refine NX.seq ?_
        refine TR.ret ?_
        have hbd := bdN_stop (lt := Op.bytesLess) (s := l) (f := z.1) (z := z.2) (fun e => hzl e.1)
        rw [hz.2.2.2] at hbd
        exact NX.ret2 () rfl rfl rfl (by rw [show nxN Op.bytesLess l = (8, bdN Op.bytesLess l l.length 1) from by unfold nxN; rw [if_neg hg0, if_neg hq], hbd]; rfl) (fun w hw => hw)
end Go.Proofs.YtdnjoffkanjjhaaGreatDoor

namespace Go.Proofs.YtdnjoffkanjjhaaGreatDoor
open Go.GL
set_option linter.unusedVariables false
theorem ng_bs43_1_0 (x00 : Int) (x01 : List UInt8) (x02 : Int) : BuildSV Tryz.prog 43 52 1 [(0, .agg #[.int .i64 x00, S x01, .int .i64 x02])] [.int .i64 x00, S x01, .int .i64 x02] := fun w => by kernel_rfl
theorem ng_bv52_0_1_2 (x0 : Int) (x1 : List UInt8) (x2 : Int) : BuildV Tryz.prog 52 [(0, .int .i64 x0), (1, S x1), (2, .int .i64 x2)] (.agg #[.int .i64 x0, S x1, .int .i64 x2]) := fun w => by kernel_rfl
theorem ng_ni43 : noInt Tryz.prog 43 = true := by kernel_rfl
theorem ng_ta52 : tyAgg Tryz.prog 52 3 = true := by kernel_rfl
theorem ng_te52 : tyElem Tryz.prog 52 3 32 = true := by kernel_rfl
theorem ng_tl43 : tySlice Tryz.prog 43 52 = true := by kernel_rfl
theorem ng_ts43 : tyScalar Tryz.prog 43 = true := by kernel_rfl
theorem ng_ts9 : tyScalar Tryz.prog 9 = true := by kernel_rfl
theorem ng_tstr9 : tyStr Tryz.prog 9 = true := by kernel_rfl
theorem ng_tz52 : tySize Tryz.prog 52 3 = true := by kernel_rfl
def tkEnc : Tk → List Value → Prop := fun t args => args = [.agg #[I (t.k : Nat), S t.x, I (t.at_ : Nat)]]
theorem tkEnc_len (t : Tk) (args : List Value) (h : tkEnc t args) : args.length = 1 := by rw [h]; rfl
theorem tkC_snoc (l : List Tk) (t : Tk) : tkC (l ++ [t]) = tkC l ++ [I (t.k : Nat), S t.x, I (t.at_ : Nat)] := by
  induction l with
  | nil => rfl
  | cons a l ih => rw [List.cons_append, tkC, ih]; rfl
theorem tkF_go {lt : List UInt8 → List UInt8 → Bool} {s : List UInt8} {f p : Nat} (h : p < s.length) (hf : 0 < f) : tkF lt s f p = ⟨(nxN lt (s.drop p)).1, (s.drop p).take (nxN lt (s.drop p)).2, p⟩ :: tkF lt s (f - 1) (p + (nxN lt (s.drop p)).2) := by
  obtain ⟨g, rfl⟩ : ∃ g, f = g + 1 := ⟨f - 1, by omega⟩
  rw [tkF, if_pos h]; rfl
theorem tkF_end {lt : List UInt8 → List UInt8 → Bool} {s : List UInt8} {f p : Nat} (h : ¬ p < s.length) : tkF lt s f p = [] := by
  cases f with
  | zero => rfl
  | succ f => rw [tkF, if_neg h]
theorem lexAll_spec {l : List UInt8} {M : List HP} {F : List Fact} : Ctr Tryz.prog 36 [S l] M F Nat (fun b => .func (.func 52) #[] #[.pointer (some ⟨b, 0, none⟩)]) (fun _ => M) (fun b => CellsF b 0 [S l] :: F) := by
  refine Ctr.body Tryz.func36 rfl rfl ?_
  refine TR.seq ?_
  refine TR.region ?_
  refine RL.box1 rfl rfl rfl rfl (fun b1 => ?_)
  refine RL.assign rfl rfl rfl ?_
  refine RL.nil ?_
  refine NX.seq ?_
  refine TR.seq ?_
  refine TR.region ?_
  refine RL.makeFunc rfl rfl rfl rfl ?_
  refine RL.assign rfl rfl rfl ?_
  refine RL.nil ?_
  refine NX.seq ?_
  refine TR.ret ?_
  exact NX.ret1 b1 rfl rfl rfl (fun w hw => hw.keep)
theorem lexAll_iter {l : List UInt8} {d : Nat} {F : List Fact} (hb : CellsF d 0 [S l] ∈ F) (hl : l.length < 4294967281) (hkw : CellsF 0 0 (stC kwL) ∈ F) (hsy : CellsF 1 0 (stC syL) ∈ F) : IterC Tryz.prog 52 [.pointer (some ⟨d, 0, none⟩)] tkEnc (tks Op.bytesLess l) F := by
  intro ly J hY Mi G hG
  refine Ctr.body Tryz.func52 rfl rfl ?_
  refine TR.seq ?_
  refine TR.region ?_
  refine RL.assign rfl rfl rfl ?_
  refine RL.nil ?_
  refine NX.seq ?_
  refine TR.block ?_
  refine TR.loopP (ι := (List Tk × Nat × Nat)) (fun z => tks Op.bytesLess l = z.1 ++ tkF Op.bytesLess l z.2.1 z.2.2 ∧ l.length - z.2.2 ≤ z.2.1 ∧ z.2.2 ≤ l.length) (fun z => [(0, .func (.yield ly) #[] #[]), (1, .pointer (some ⟨d, 0, none⟩)), (3, I (z.2.2 : Nat))]) (fun z => J z.1 ++ Mi) (fun _ => G) (fun z => l.length - z.2.2) ([], l.length, 0) ⟨rfl, Nat.le_refl _, Nat.zero_le _⟩ ⟨rfl, rfl, rfl, trivial⟩ (fun w hw => hw) (fun z hz => ?_)
  refine TR.seq ?_
  refine TR.seq ?_
  refine TR.region ?_
  refine RL.move rfl rfl rfl ?_
  refine RL.loadF rfl rfl (fun w K hF => run_loadCell1 (j := 0) (hF (CellsF d 0 [S l]) (hG _ hb)) ng_ts9 rfl) rfl ?_
  refine RL.lenStr rfl ng_tstr9 rfl rfl ?_
  refine RL.bin rfl rfl rfl BinV.lss rfl ?_
  refine RL.nil ?_
  refine NX.seq ?_
  refine TR.cond rfl (fun h1 => ?_) (fun h1 => ?_)
  · skip
    have hp : z.2.2 < l.length := by have := of_decide_eq_true h1; omega
    have hnx := nxN_ok Op.bytesLess (s := l.drop z.2.2) (by rw [List.length_drop]; omega)
    refine TR.skip ?_
    refine NX.seq ?_
    refine TR.block ?_
    refine TR.seq ?_
    refine TR.region ?_
    refine RL.loadF rfl rfl (fun w K hF => run_loadCell1 (j := 0) (hF (CellsF d 0 [S l]) (hG _ hb)) ng_ts9 rfl) rfl ?_
    refine RL.move rfl rfl rfl ?_
    refine RL.sliceSfrom rfl ng_tstr9 rfl rfl (by omega) (by omega) rfl ?_
    refine RL.call rfl rfl Tryz.call53 rfl (next_spec (l := l.drop (((z.2.2 : Nat) : Int)).toNat) (by rw [Int.toNat_natCast, List.length_drop]; omega) (by rw [List.length_drop]; omega) (hG _ hkw) (hG _ hsy)) (fun _ => ?_)
    refine RL.move rfl rfl rfl ?_
    refine RL.extract rfl rfl rfl rfl ?_
    refine RL.extract rfl rfl rfl rfl ?_
    refine RL.assign rfl rfl rfl ?_
    refine RL.assign rfl rfl rfl ?_
    refine RL.nil ?_
    refine NX.seq ?_
    refine TR.seq ?_
    refine TR.seq ?_
    rw [Int.toNat_natCast]
    refine TR.region ?_
    refine RL.move rfl rfl rfl ?_
    refine RL.move rfl rfl rfl ?_
    refine RL.loadF rfl rfl (fun w K hF => run_loadCell1 (j := 0) (hF (CellsF d 0 [S l]) (hG _ hb)) ng_ts9 rfl) rfl ?_
    refine RL.move rfl rfl rfl ?_
    refine RL.move rfl rfl rfl ?_
    refine RL.move rfl rfl rfl ?_
    refine RL.bin rfl rfl rfl (BinV.add ((z.2.2 + (nxN Op.bytesLess (l.drop z.2.2)).2 : Nat) : Int) (by omega) (by have := hnx.2.1; rw [List.length_drop] at this; omega) (by have := hnx.2.1; rw [List.length_drop] at this; omega)) rfl ?_
    refine RL.sliceS rfl ng_tstr9 rfl rfl rfl (by omega) (by omega) (by have := hnx.2.1; rw [List.length_drop] at this; omega) rfl ?_
    refine RL.move rfl rfl rfl ?_
    refine RL.build rfl rfl (ng_bv52_0_1_2 _ _ _) rfl ?_
    refine RL.callYield rfl rfl rfl rfl (hY z.1 (⟨(nxN Op.bytesLess (l.drop z.2.2)).1, (l.drop z.2.2).take (nxN Op.bytesLess (l.drop z.2.2)).2, z.2.2⟩ : Tk) (tkF Op.bytesLess l (z.2.1 - 1) (z.2.2 + (nxN Op.bytesLess (l.drop z.2.2)).2)) _ (by rw [hz.1, tkF_go hp (by omega)]) (by show [_] = [_]; rw [Int.toNat_natCast, Int.toNat_natCast, List.drop_take, Nat.add_sub_cancel_left]) _ _ hG) ?_
    refine RL.not rfl rfl rfl ?_
    refine RL.nil ?_
    refine NX.seq ?_
    refine TR.condF rfl ?_
    refine TR.skip ?_
    refine NX.seq ?_
    refine TR.region ?_
    refine RL.move rfl rfl rfl ?_
    refine RL.move rfl rfl rfl ?_
    refine RL.bin rfl rfl rfl (BinV.add ((z.2.2 + (nxN Op.bytesLess (l.drop z.2.2)).2 : Nat) : Int) (by omega) (by have := hnx.2.1; rw [List.length_drop] at this; omega) (by have := hnx.2.1; rw [List.length_drop] at this; omega)) rfl ?_
    refine RL.assign rfl rfl rfl ?_
    refine RL.nil ?_
    refine NX.off ?_
    refine NX.roundP (z.1 ++ [(⟨(nxN Op.bytesLess (l.drop z.2.2)).1, (l.drop z.2.2).take (nxN Op.bytesLess (l.drop z.2.2)).2, z.2.2⟩ : Tk)], z.2.1 - 1, z.2.2 + (nxN Op.bytesLess (l.drop z.2.2)).2) ⟨by rw [hz.1, tkF_go hp (by omega), List.append_assoc]; rfl, by show l.length - (z.2.2 + (nxN Op.bytesLess (l.drop z.2.2)).2) ≤ z.2.1 - 1; omega, by show z.2.2 + (nxN Op.bytesLess (l.drop z.2.2)).2 ≤ l.length; have := hnx.2.1; rw [List.length_drop] at this; omega⟩ (by show l.length - (z.2.2 + (nxN Op.bytesLess (l.drop z.2.2)).2) < l.length - z.2.2; omega) ⟨rfl, rfl, rfl, trivial⟩ (fun w hw => hw)
  · skip
    have hp : ¬ z.2.2 < l.length := by have := of_decide_eq_false h1; omega
    refine TR.exit ?_
    refine NX.exitThen ?_
    refine NX.exitThen ?_
    refine NX.exitHere ?_
    refine NX.end0 () rfl rfl (fun w hw => ?_)
    rw [hz.1, tkF_end hp, List.append_nil]
    exact hw
theorem tokens_spec {s0 : List UInt8} {M : List HP} {F : List Fact} (hl : s0.length < 4294967281) (hkw : CellsF 0 0 (stC kwL) ∈ F) (hsy : CellsF 1 0 (stC syL) ∈ F) : Ctr Tryz.prog 16 [S s0] M F (Option Addr × Nat) (fun i => .slice i.1 (tks Op.bytesLess s0).length i.2) (fun _ => M) (fun i => ArrF i.1 (tkC (tks Op.bytesLess s0)) :: F) := by
  refine Ctr.bodyM Tryz.func16 rfl rfl ?_
  refine TR.seq ?_
  refine TR.region ?_
  refine RL.assign rfl rfl rfl ?_
  refine RL.nil ?_
  refine NX.seq ?_
  refine TR.seq ?_
  refine TR.region ?_
  refine RL.alloc1 rfl (Tryz.zeroValue43) rfl rfl (fun b1 => ?_)
  refine RL.weak (fun w hw => St.varNew (e := 52) (size := 3) hw) ?_
  refine RL.nil ?_
  refine NX.seq ?_
  refine TR.seq ?_
  refine TR.seq ?_
  refine TR.region ?_
  refine RL.move rfl rfl rfl ?_
  refine RL.call rfl rfl Tryz.call36 rfl (lexAll_spec) (fun bc => ?_)
  refine RL.nil ?_
  refine NX.seq ?_
  refine TR.block ?_
  refine TR.rangeFunc (κ := Nat × Option Addr × Nat) (xs := (tks Op.bytesLess s0)) rfl Tryz.call52 (by simp) tkEnc_len (lexAll_iter (.head _) hl (.tail _ hkw) (.tail _ hsy)) (fun pre => [VarB 43 52 3 b1 pre.length (tkC pre)]) M (fun w hw => hw) (fun pre x args b => [(3, .pointer (some ⟨b1, 0, none⟩)), (4, .pointer (some ⟨b.1, 0, none⟩))]) (fun pre x args b => [Box b.1 52 [I (x.k : Nat), S x.x, I (x.at_ : Nat)], Box b1 43 [.slice b.2.1 pre.length b.2.2], OwnSl 52 3 b.2.1 pre.length b.2.2 (tkC pre)]) ?as0 ?bd0 ?ki0
  case as0 =>
    intro l pre x suf args hx he Mi G hG
    obtain rfl : args = [.agg #[I (x.k : Nat), S x.x, I (x.at_ : Nat)]] := he
    refine TR.region ?_
    refine RL.open (fun w hw => St.exOpen hw) (fun i0 => ?_)
    refine RL.allocA rfl (Tryz.zeroValue52) rfl (fun b2 => ?_)
    refine RL.storeA 0 rfl rfl rfl rfl ng_tz52 rfl rfl ?_
    refine RL.nil ?_
    exact NX.meet (b2, i0.1, i0.2) ⟨rfl, rfl, trivial⟩ (fun w hw => hw)
  case bd0 =>
    intro l pre x suf args i hx he Mi G hG
    obtain rfl : args = [.agg #[I (x.k : Nat), S x.x, I (x.at_ : Nat)]] := he
    have hpl : pre.length < (tks Op.bytesLess s0).length := by rw [hx]; simp
    have hpl2 := tkF_len Op.bytesLess s0 s0.length 0
    have hpl3 : (tks Op.bytesLess s0).length ≤ s0.length := hpl2
    refine TR.block ?_
    refine TR.region ?_
    refine RL.load1 1 rfl ng_ts43 rfl rfl rfl rfl ?_
    refine RL.loadA 0 rfl rfl rfl ng_ta52 rfl ?_
    refine RL.buildSlice rfl rfl (ng_bs43_1_0 _ _ _) rfl (fun b3 => ?_)
    refine RL.ofGV rfl rfl (GV.append (j := 3) ng_tl43 ng_ni43 ng_te52 rfl rfl rfl (src_box (i := 0) rfl rfl rfl) (by omega) (by omega)) (fun y => ?_)
    refine RL.store1 2 rfl ng_ts43 rfl rfl rfl rfl rfl ?_
    refine RL.nil ?_
    refine NX.off ?_
    exact fun aa w _ hw => by
      have h9 := (hw.drop 0 rfl).drop 0 rfl
      have h8 : St w (VarB 43 52 3 b1 (pre ++ [x]).length (tkC (pre ++ [x])) :: Mi) G := St.exClose (y.1, y.2) (by rw [tkC_snoc, List.length_append]; exact h9)
      exact h8
  case ki0 =>
    intro D
    refine NX.off ?_
    refine NX.seq ?_
    refine TR.seq ?_
    refine TR.region ?_
    refine RL.open (fun w hw => St.exOpen hw.swap) (fun i0 => ?_)
    refine RL.load1 0 rfl ng_ts43 rfl rfl rfl rfl ?_
    refine RL.assign rfl rfl rfl ?_
    refine RL.nil ?_
    refine NX.seq ?_
    refine TR.ret ?_
    exact NX.retM 2 i0 rfl rfl rfl rfl (fun w hw => ((hw.drop 0 rfl).keepSl).facts (fun φ h => by
      rcases List.mem_cons.1 h with e | h
      · subst e; exact .head _
      · exact .tail _ (.tail _ h)))
end Go.Proofs.YtdnjoffkanjjhaaGreatDoor

namespace Go.Proofs.YtdnjoffkanjjhaaGreatDoor
open Go.GL
set_option linter.unusedVariables false
theorem ge_bs32_1_0 (x0 : Int) : BuildSV Tryz.prog 32 5 1 [(0, .int .u8 x0)] [.int .u8 x0] := fun w => by kernel_rfl
theorem ge_bs32_3_0_1_2 (x0 : Int) (x1 : Int) (x2 : Int) : BuildSV Tryz.prog 32 5 3 [(0, .int .u8 x0), (1, .int .u8 x1), (2, .int .u8 x2)] [.int .u8 x0, .int .u8 x1, .int .u8 x2] := fun w => by kernel_rfl
theorem ge_ta52 : tyAgg Tryz.prog 52 3 = true := by kernel_rfl
theorem ge_tl32 : tySlice Tryz.prog 32 5 = true := by kernel_rfl
theorem ge_tl43 : tySlice Tryz.prog 43 52 = true := by kernel_rfl
theorem ge_tp23 : tyPtr Tryz.prog 23 57 = true := by kernel_rfl
theorem ge_tp47 : tyPtr Tryz.prog 47 78 = true := by kernel_rfl
theorem ge_tstr9 : tyStr Tryz.prog 9 = true := by kernel_rfl
theorem ge_tz5 : tySize Tryz.prog 5 1 = true := by kernel_rfl
theorem ge_tz52 : tySize Tryz.prog 52 3 = true := by kernel_rfl
theorem tokOk_ : tokOk Tryz.prog 52 = true := by kernel_rfl
theorem tokUnd_ : Tryz.prog.underlying 52 = some (.struct (Tryz.prog.fieldsOf 52)) := by kernel_rfl
theorem tokHeld_ : Tryz.prog.stoodInHeld 52 = false := by kernel_rfl
theorem tokGrd_ : Tryz.prog.eqGuardType Tryz.prog.depth 52 = false := by kernel_rfl
set_option maxHeartbeats 2000000 in
theorem law_texts34 {ls ms ks : List Int} {ct fl : Int} {oa ob oc : Option Addr} {ca cb cc : Nat} {M : List HP} {F : List Fact} (hl : ArrF oa (ints ls) ∈ F) (hls : IntsOk ls) (hm : ArrF ob (ints ms) ∈ F) (hms : IntsOk ms) (hk : ArrF oc (ints ks) ∈ F) (hks : IntsOk ks) (hkc : ks.length ≤ cc) (hcut : I64 ct) (hfl : I64 fl) (hkw : CellsF 0 0 (stC kwL) ∈ F) (hsy : CellsF 1 0 (stC syL) ∈ F) : Ctr Tryz.prog 3 [.slice oa ls.length ca, .slice ob ms.length cb, I ct, .slice oc ks.length cc, I fl] M F Unit (fun _ => .bool true) (fun _ => M) (fun _ => F) := by
  refine Ctr.body Tryz.func3 rfl rfl ?_
  refine TR.seq ?_
  refine TR.region ?_
  refine RL.assign rfl rfl rfl ?_
  refine RL.nil ?_
  refine NX.seq ?_
  refine TR.seq ?_
  refine TR.region ?_
  refine RL.call rfl rfl Tryz.call4 rfl (new_d (k := 10000) (by decide)) (fun z0 => ?_)
  refine RL.move rfl rfl rfl ?_
  refine RL.extract rfl rfl rfl rfl ?_
  refine RL.extract rfl rfl rfl rfl ?_
  refine RL.assign rfl rfl rfl ?_
  refine RL.assign rfl rfl rfl ?_
  refine RL.nil ?_
  refine NX.seq ?_
  refine TR.seq ?_
  refine TR.seq ?_
  refine TR.region ?_
  refine RL.move rfl rfl rfl ?_
  refine RL.bin rfl rfl rfl (BinV.eqlPtrNil ge_tp23) rfl ?_
  refine RL.move rfl rfl rfl ?_
  refine RL.move rfl rfl rfl ?_
  refine RL.bin rfl rfl rfl (BinV.to (d := false) BinV.neq (decide_eq_false (by simp))) rfl ?_
  refine RL.pickF rfl rfl rfl rfl ?_
  refine RL.nil ?_
  refine NX.seq ?_
  refine TR.condF rfl ?_
  refine TR.skip ?_
  refine NX.seq ?_
  refine TR.seq ?_
  refine TR.region ?_
  refine RL.move rfl rfl rfl ?_
  refine RL.call rfl rfl Tryz.call5 rfl (source_spec (.tail _ hl) hls) (fun src => ?_)
  refine RL.assign rfl rfl rfl ?_
  refine RL.nil ?_
  refine NX.seq ?_
  refine TR.seq ?_
  refine TR.region ?_
  refine RL.move rfl rfl rfl ?_
  refine RL.move rfl rfl rfl ?_
  refine RL.move rfl rfl rfl ?_
  refine RL.call rfl rfl Tryz.call7 rfl (gEdits_spec (tx := src.1) (.tail _ hm) hms (by have := src.2; omega)) (fun es => ?_)
  obtain ⟨tx, htx⟩ : ∃ x, x = applyGo src.1 0 es.1.es := ⟨_, rfl⟩
  have htl : tx.length ≤ 365 := by rw [htx]; have := es.2.len; have := src.2; omega
  have hel := es.2.1
  refine RL.call rfl rfl Tryz.call6 rfl (apply_ok (x := tx) (es := es.1.es) (.head _) (by omega) es.2.sound htx.symm (by omega)) (fun _ => ?_)
  have hR : (encR tx).length ≤ 375 := by unfold encR; rw [List.length_append]; have := encU_len10 (n := tx.length) (by omega); omega
  have hU : (encU (zz (tx.length : Int))).length ≤ 10 := encU_len10 (zz_lt (by omega) (by omega))
  refine RL.move rfl rfl rfl ?_
  refine RL.extract rfl rfl rfl rfl ?_
  refine RL.extract rfl rfl rfl rfl ?_
  refine RL.assign rfl rfl rfl ?_
  refine RL.assign rfl rfl rfl ?_
  refine RL.nil ?_
  refine NX.seq ?_
  refine TR.seq ?_
  refine TR.seq ?_
  refine TR.region ?_
  refine RL.move rfl rfl rfl ?_
  refine RL.bin rfl rfl rfl (BinV.to (d := false) BinV.neq (decide_eq_false (by simp))) rfl ?_
  refine RL.nil ?_
  refine NX.seq ?_
  refine TR.condF rfl ?_
  refine TR.skip ?_
  refine NX.seq ?_
  refine TR.seq ?_
  refine TR.region ?_
  refine RL.allocA rfl (Tryz.zeroValue34) rfl (fun b1 => ?_)
  refine RL.weak (fun w hw => St.wrNew (e := 5) hw) ?_
  refine RL.nil ?_
  refine NX.seq ?_
  refine TR.seq ?_
  refine TR.region ?_
  refine RL.move rfl rfl rfl ?_
  refine RL.call rfl rfl Tryz.call8 rfl (wText_spec (by simp) (by omega)) (fun _ => ?_)
  refine RL.nil ?_
  refine NX.seq ?_
  refine TR.seq ?_
  refine TR.region ?_
  refine RL.move rfl rfl rfl ?_
  refine RL.lenStr rfl ge_tstr9 rfl rfl ?_
  refine RL.call rfl rfl Tryz.call9 rfl (wInt_spec (n := ((tx.length : Nat) : Int)) (by omega) (by omega) (by simp only [List.nil_append]; omega)) (fun _ => ?_)
  refine RL.nil ?_
  refine NX.seq ?_
  refine TR.seq ?_
  obtain ⟨al, hal⟩ : ∃ l, l = [] ++ encR tx ++ encU (zz (tx.length : Int)) := ⟨_, rfl⟩
  rw [← hal]
  have hall : al.length ≤ 385 := by rw [hal]; simp only [List.nil_append, List.length_append]; omega
  refine TR.region ?_
  refine RL.call rfl rfl Tryz.call10 rfl (wDone_spec (l := al) (by omega)) (fun wd => ?_)
  refine RL.open1 (fun w hw => ⟨hw.ownLen.2, hw⟩) (fun hwc => ?_)
  refine RL.weak (fun w hw => hw.keepSl) ?_
  refine RL.assign rfl rfl rfl ?_
  refine RL.nil ?_
  refine NX.seq ?_
  refine TR.seq ?_
  refine TR.region ?_
  refine RL.move rfl rfl rfl ?_
  refine RL.move rfl rfl rfl ?_
  refine RL.lenSlice rfl ge_tl32 rfl rfl ?_
  refine RL.bin rfl rfl rfl (BinV.add _ rfl (by omega) (by omega)) rfl ?_
  refine RL.call rfl rfl Tryz.call11 rfl (around_spec (by omega) hcut.1 hcut.2) (fun r => ?_)
  obtain ⟨kv, hkv⟩ := r
  obtain ⟨k, rfl⟩ : ∃ k : Nat, kv = k := ⟨kv.toNat, by omega⟩
  have hkl : k ≤ al.length := by omega
  dsimp only
  refine RL.assign rfl rfl rfl ?_
  refine RL.nil ?_
  refine NX.seq ?_
  refine TR.seq ?_
  refine TR.seq ?_
  refine TR.region ?_
  refine RL.assign rfl rfl rfl ?_
  refine RL.nil ?_
  refine NX.seq ?_
  refine TR.block ?_
  refine TR.loopP (ι := Nat × Ds) (fun x => x.1 ≤ 2 ∧ RelP x.2 (tA (al.take k) (al.drop k) x.1)) (fun x => [(3, .slice oc ks.length cc), (4, I fl), (11, .pointer (some ⟨z0.1, 0, none⟩)), (13, S tx), (16, .slice wd.1 al.length wd.2), (17, I (k : Nat)), (18, I ((5 + x.1 : Nat) : Int))]) (fun x => DkB 57 z0.1 x.2 :: M) (fun x => AllF x.2.fs :: ArrF wd.1 (bytesV al) :: F) (fun x => 2 - x.1) (0, ⟨z0.2, [], 10000, false, false, 0⟩) ⟨Nat.zero_le _, RelP.new (by decide)⟩ ⟨rfl, rfl, rfl, rfl, rfl, rfl, rfl, trivial⟩ (fun w hw => (hw.to 2 [1] 3 [2, 0] rfl)) (fun x hx => ?_)
  refine TR.seq ?_
  refine TR.seq ?_
  refine TR.region ?_
  refine RL.move rfl rfl rfl ?_
  refine RL.bin rfl rfl rfl BinV.lss rfl ?_
  refine RL.nil ?_
  refine NX.seq ?_
  refine TR.cond rfl (fun h2 => ?_) (fun h2 => ?_)
  · skip
    have hi2 : x.1 < 2 := by have := of_decide_eq_true h2; omega
    refine TR.skip ?_
    refine NX.seq ?_
    refine TR.seq ?_
    refine TR.block ?_
    refine TR.seq ?_
    refine TR.region ?_
    refine RL.move rfl rfl rfl ?_
    refine RL.move rfl rfl rfl ?_
    refine RL.move rfl rfl rfl ?_
    refine RL.move rfl rfl rfl ?_
    refine RL.sliceToB (k := k) (cap := wd.2) (l := al) rfl ge_tl32 ge_tz5 rfl rfl (by rw [List.length_take]; omega) hwc (.tail _ (.head _)) rfl ?_
    refine RL.call rfl rfl Tryz.call12 rfl (p_append (n := ((5 + x.1 : Nat) : Int)) (x := (al.take k)) hx.2 (.tail _ (.head _)) (.head _) ⟨by omega, by omega⟩ (by rw [List.length_take]; omega)) (fun q1 => ?_)
    refine RL.nil ?_
    refine NX.seq ?_
    refine TR.region ?_
    refine RL.move rfl rfl rfl ?_
    refine RL.move rfl rfl rfl ?_
    refine RL.move rfl rfl rfl ?_
    refine RL.move rfl rfl rfl ?_
    refine RL.sliceFromB (k := k) (cap := wd.2) (l := al) rfl ge_tl32 ge_tz5 rfl rfl (by omega) hwc (.tail _ (.tail _ (.tail _ (.head _)))) rfl ?_
    refine RL.call rfl rfl Tryz.call12 rfl (p_append (n := ((5 + x.1 : Nat) : Int)) (x := (al.drop k)) q1.2 (.tail _ (.head _)) (.head _) ⟨by omega, by omega⟩ (by rw [List.length_drop]; omega)) (fun q2 => ?_)
    refine RL.nil ?_
    refine NX.off ?_
    refine NX.seq ?_
    refine TR.region ?_
    refine RL.move rfl rfl rfl ?_
    refine RL.bin rfl rfl rfl (BinV.add ((5 + (x.1 + 1) : Nat) : Int) (by omega) (by omega) (by omega)) rfl ?_
    refine RL.assign rfl rfl rfl ?_
    refine RL.nil ?_
    refine NX.roundP (x.1 + 1, q2.1) ⟨by show x.1 + 1 ≤ 2; omega, q2.2⟩ (by show 2 - (x.1 + 1) < 2 - x.1; omega) ⟨rfl, rfl, rfl, rfl, rfl, rfl, rfl, trivial⟩ (fun w hw => (hw.to 1 [0] 6 [0, 5] rfl))
  · skip
    have hi2 : x.1 = 2 := by have := of_decide_eq_false h2; have := hx.1; omega
    have hr := hx.2
    rw [hi2] at hr
    refine TR.exit ?_
    refine NX.exitThen ?_
    refine NX.exitThen ?_
    refine NX.exitHere ?_
    refine NX.seq ?_
    refine TR.seq ?_
    refine TR.region ?_
    refine RL.move rfl rfl rfl ?_
    refine RL.call rfl rfl Tryz.call13 rfl (p_sync hr (.head _)) (fun q3 => ?_)
    refine RL.nil ?_
    refine NX.seq ?_
    refine TR.seq ?_
    refine TR.region ?_
    refine RL.move rfl rfl rfl ?_
    refine RL.buildSlice rfl rfl (ge_bs32_3_0_1_2 _ _ _) rfl (fun b3 => ?_)
    refine RL.weak (fun w hw => St.boxBytes [9, 9, 9] rfl hw) ?_
    refine RL.call rfl rfl Tryz.call12 rfl (p_append (n := 6) (x := [9, 9, 9]) q3.2 (.tail _ (.head _)) (.head _) ⟨by decide, by decide⟩ (by decide)) (fun q4 => ?_)
    refine RL.nil ?_
    refine NX.seq ?_
    refine TR.seq ?_
    refine TR.region ?_
    refine RL.move rfl rfl rfl ?_
    refine RL.buildSlice rfl rfl (ge_bs32_1_0 _) rfl (fun b4 => ?_)
    refine RL.weak (fun w hw => St.boxBytes [1] rfl hw) ?_
    refine RL.call rfl rfl Tryz.call12 rfl (p_append (n := 8) (x := [1]) q4.2 (.tail _ (.head _)) (.head _) ⟨by decide, by decide⟩ (by decide)) (fun q5 => ?_)
    refine RL.nil ?_
    refine NX.seq ?_
    refine TR.seq ?_
    refine TR.region ?_
    refine RL.move rfl rfl rfl ?_
    refine RL.move rfl rfl rfl ?_
    refine RL.call rfl rfl Tryz.call15 rfl (ints3_spec (.tail _ (.tail _ (.tail _ (.tail _ (.tail _ (.tail _ (.tail _ hk))))))) hkc) (fun kk => ?_)
    refine RL.weak (fun w hw => hw.keepSl) ?_
    refine RL.move rfl rfl rfl ?_
    refine RL.call rfl rfl Tryz.call14 rfl (p_crash (ks := (ks.take 3)) q5.2 (.tail _ (.head _)) (.head _) ⟨by rw [List.length_take]; have := hks.1; omega, fun v hv => hks.2 v (List.mem_of_mem_take hv)⟩ hfl) (fun q6 => ?_)
    have hrel : RelP q6.1 (tE (al.take k) (al.drop k) (ks.take 3) fl) := q6.2
    have htE : ∀ i, i < 2 → _ := fun i => tE_ok (x := (al.take k)) (y := (al.drop k)) (i := i) (by rw [List.length_take, List.length_drop]; omega) (ks.take 3) fl
    refine RL.nil ?_
    refine NX.seq ?_
    refine TR.seq ?_
    refine TR.region ?_
    refine RL.move rfl rfl rfl ?_
    refine RL.call rfl rfl Tryz.call16 rfl (tokens_spec (s0 := tx) (by omega) (.tail _ (.tail _ (.tail _ (.tail _ (.tail _ (.tail _ (.tail _ (.tail _ (.tail _ hkw))))))))) (.tail _ (.tail _ (.tail _ (.tail _ (.tail _ (.tail _ (.tail _ (.tail _ (.tail _ hsy)))))))))) (fun i1 => ?_)
    refine RL.assign rfl rfl rfl ?_
    refine RL.nil ?_
    refine NX.seq ?_
    refine TR.seq ?_
    refine TR.seq ?_
    refine TR.region ?_
    refine RL.assign rfl rfl rfl ?_
    refine RL.nil ?_
    refine NX.seq ?_
    refine TR.block ?_
    refine TR.loopP (ι := Nat) (fun i => i ≤ 2) (fun i => [(11, .pointer (some ⟨z0.1, 0, none⟩)), (13, S tx), (19, .slice i1.1 (tks Op.bytesLess tx).length i1.2), (20, I ((5 + i : Nat) : Int))]) (fun i => DkB 57 z0.1 q6.1 :: M) (fun i => AllF q6.1.fs :: ArrF i1.1 (tkC (tks Op.bytesLess tx)) :: F) (fun i => 2 - i) 0 (Nat.zero_le _) ⟨rfl, rfl, rfl, rfl, trivial⟩ (fun w hw => (hw.to 1 [0] 10 [1, 0] rfl)) (fun i hi_ => ?_)
    refine TR.seq ?_
    refine TR.seq ?_
    refine TR.region ?_
    refine RL.move rfl rfl rfl ?_
    refine RL.bin rfl rfl rfl BinV.lss rfl ?_
    refine RL.nil ?_
    refine NX.seq ?_
    refine TR.cond rfl (fun h5 => ?_) (fun h5 => ?_)
    · skip
      have hi2 : i < 2 := by have := of_decide_eq_true h5; omega
      obtain ⟨z, hzb, hz0⟩ := htE i hi2
      have hz9 : al ++ z = encR tx ++ (encU (zz (tx.length : Int)) ++ z) := by rw [hal, List.nil_append, List.append_assoc]
      rw [List.take_append_drop, hz9] at hzb
      have hzl : (encR tx ++ (encU (zz (tx.length : Int)) ++ z)).length ≤ 16777216 := by
        rw [← hzb]
        have h1 := used_one (B := (tE (al.take k) (al.drop k) (ks.take 3) fl).B) (n := 5 + i) (by omega)
        have h2 := hrel.used
        have h3 := hrel.rm.used
        have h4 := hrel.rm.room
        omega
      refine TR.skip ?_
      refine NX.seq ?_
      refine TR.seq ?_
      refine TR.block ?_
      refine TR.seq ?_
      refine TR.region ?_
      refine RL.move rfl rfl rfl ?_
      refine RL.move rfl rfl rfl ?_
      refine RL.call rfl rfl Tryz.call17 rfl (p_read_on (n := 5 + i) hrel (.head _) (by omega) rfl) (fun ra => ?_)
      rw [hzb]
      refine RL.weak (fun w hw => hw.keepSl) ?_
      refine RL.move rfl rfl rfl ?_
      refine RL.extract rfl rfl rfl rfl ?_
      refine RL.extract rfl rfl rfl rfl ?_
      refine RL.assign rfl rfl rfl ?_
      refine RL.assign rfl rfl rfl ?_
      refine RL.nil ?_
      refine NX.seq ?_
      refine TR.seq ?_
      refine TR.region ?_
      refine RL.move rfl rfl rfl ?_
      refine RL.call rfl rfl Tryz.call18 rfl (read_spec (l := encR tx ++ (encU (zz (tx.length : Int)) ++ z)) (.head _) (by omega)) (fun rz => ?_)
      refine RL.assign rfl rfl rfl ?_
      refine RL.nil ?_
      refine NX.seq ?_
      refine TR.seq ?_
      refine TR.seq ?_
      refine TR.region ?_
      refine RL.move rfl rfl rfl ?_
      refine RL.bin rfl rfl rfl (BinV.to (d := false) BinV.neq (decide_eq_false (by simp))) rfl ?_
      refine RL.move rfl rfl rfl ?_
      refine RL.move rfl rfl rfl ?_
      refine RL.bin rfl rfl rfl (BinV.eqlPtrNil ge_tp47) rfl ?_
      refine RL.pickF rfl rfl rfl rfl ?_
      refine RL.nil ?_
      refine NX.seq ?_
      refine TR.condF rfl ?_
      refine TR.skip ?_
      refine NX.seq ?_
      refine TR.seq ?_
      refine TR.region ?_
      refine RL.move rfl rfl rfl ?_
      refine RL.call rfl rfl Tryz.call19 rfl (rText_enc (x := tx) (rest := encU (zz (tx.length : Int)) ++ z) (.head _) rz.2 (by omega) (by omega)) (fun z1 => ?_)
      refine RL.call rfl rfl Tryz.call16 rfl (tokens_spec (s0 := tx) (by omega) (.tail _ (.tail _ (.tail _ (.tail _ (.tail _ hkw))))) (.tail _ (.tail _ (.tail _ (.tail _ (.tail _ hsy)))))) (fun i2 => ?_)
      refine RL.assign rfl rfl rfl ?_
      refine RL.nil ?_
      refine NX.seq ?_
      refine TR.seq ?_
      refine TR.region ?_
      refine RL.move rfl rfl rfl ?_
      refine RL.call rfl rfl Tryz.call20 rfl (rInt_enc (n := ((tx.length : Nat) : Int)) (rest := z) (by omega) (by omega) (.tail _ (.head _)) z1.2) (fun z2 => ?_)
      refine RL.assign rfl rfl rfl ?_
      refine RL.nil ?_
      refine NX.seq ?_
      refine TR.seq ?_
      refine TR.seq ?_
      refine TR.region ?_
      refine RL.move rfl rfl rfl ?_
      refine RL.move rfl rfl rfl ?_
      refine RL.lenStr rfl ge_tstr9 rfl rfl ?_
      refine RL.bin rfl rfl rfl (BinV.to (d := false) BinV.neq (decide_eq_false (by simp))) rfl ?_
      refine RL.move rfl rfl rfl ?_
      refine RL.move rfl rfl rfl ?_
      refine RL.lenSlice rfl ge_tl43 rfl rfl ?_
      refine RL.move rfl rfl rfl ?_
      refine RL.lenSlice rfl ge_tl43 rfl rfl ?_
      refine RL.bin rfl rfl rfl (BinV.to (d := false) BinV.neq (decide_eq_false (by simp))) rfl ?_
      refine RL.pickF rfl rfl rfl rfl ?_
      refine RL.move rfl rfl rfl ?_
      refine RL.move rfl rfl rfl ?_
      rcases (by omega : i = 0 ∨ i = 1) with hi0 | hi0
      · skip
        refine RL.bin rfl rfl rfl (BinV.to (d := true) BinV.eql (decide_eq_true (by omega))) rfl ?_
        refine RL.move rfl rfl rfl ?_
        refine RL.move rfl rfl rfl ?_
        refine RL.call rfl rfl Tryz.call21 rfl (rEnd_spec) (fun _ => ?_)
        refine RL.bin rfl rfl rfl (BinV.to (d := false) BinV.neq (decide_eq_false (by rw [hz0 hi0]; simp))) rfl ?_
        refine RL.pickT rfl rfl rfl rfl ?_
        refine RL.pickF rfl rfl rfl rfl ?_
        refine RL.nil ?_
        refine NX.seq ?_
        refine TR.condF rfl ?_
        refine TR.skip ?_
        refine NX.seq ?_
        refine TR.seq ?_
        refine TR.region ?_
        refine RL.assign rfl rfl rfl ?_
        refine RL.nil ?_
        refine NX.seq ?_
        refine TR.block ?_
        refine TR.loopP (ι := Nat) (fun j => j ≤ (tks Op.bytesLess tx).length) (fun j => [(11, .pointer (some ⟨z0.1, 0, none⟩)), (13, S tx), (19, .slice i1.1 (tks Op.bytesLess tx).length i1.2), (20, I ((5 + i : Nat) : Int)), (24, .slice i2.1 (tks Op.bytesLess tx).length i2.2), (26, I (j : Nat))]) (fun j => DkB 57 z0.1 q6.1 :: M) (fun j => AllF q6.1.fs :: ArrF i1.1 (tkC (tks Op.bytesLess tx)) :: ArrF i2.1 (tkC (tks Op.bytesLess tx)) :: F) (fun j => (tks Op.bytesLess tx).length - j) 0 (Nat.zero_le _) ⟨rfl, rfl, rfl, rfl, rfl, rfl, trivial⟩ (fun w hw => (hw.to 2 [1] 7 [5, 6, 1] rfl)) (fun j hj_ => ?_)
        refine TR.seq ?_
        refine TR.seq ?_
        refine TR.region ?_
        refine RL.move rfl rfl rfl ?_
        refine RL.move rfl rfl rfl ?_
        refine RL.lenSlice rfl ge_tl43 rfl rfl ?_
        refine RL.bin rfl rfl rfl BinV.lss rfl ?_
        refine RL.nil ?_
        refine NX.seq ?_
        refine TR.cond rfl (fun h6 => ?_) (fun h6 => ?_)
        · skip
          have hTl : (tks Op.bytesLess tx).length ≤ tx.length := tkF_len _ _ _ _
          have hj : j < (tks Op.bytesLess tx).length := by have := of_decide_eq_true h6; omega
          refine TR.openP (open_arr (oa := i2.1) (xs := tkC (tks Op.bytesLess tx)) (.tail _ (.tail _ (.head _))) (tkC_ne hj)) (fun pg hpg => ?_)
          refine TR.openP (open_arr (oa := i1.1) (xs := tkC (tks Op.bytesLess tx)) (.tail _ (.tail _ (.head _))) (tkC_ne hj)) (fun pw hpw => ?_)
          refine TR.skip ?_
          refine NX.seq ?_
          refine TR.seq ?_
          refine TR.block ?_
          refine TR.seq ?_
          refine TR.sub (E' := [(11, _), (13, _), (19, _), (20, _), (24, _), (26, _), (134, _), (135, _), (136, _), (137, _)]) ⟨rfl, rfl, rfl, rfl, rfl, rfl, rfl, rfl, rfl, rfl, trivial⟩ ?_
          refine TR.draw mixed ?_
          apply AR.more [(0, _), (1, _), (2, _), (3, _), (4, _), (5, _), (6, _), (7, _), (8, .bool false)]
          refine AR.last [0, 1, 2, 3, 4, 5, 6, 7, 8] [0, 1, 2, 3, 4, 5, 6, 7, 8] ⟨QOne.yes rfl rfl rfl (PV.move rfl), QOne.yes rfl rfl rfl (PV.move rfl), QOne.yes rfl rfl rfl (PV.indexAddr ge_tl43 ge_tz52 (congrArg (fun a => some (Value.slice a _ _)) hpg) rfl (by omega) (by omega)), QOne.yes rfl rfl rfl (PV.loadF rfl (fun w K hF => run_tk (hF (CellsF pg.1 pg.2 (tkC (tks Op.bytesLess tx))) (.tail _ (.head _))) ge_ta52 hj)), QOne.yes rfl rfl rfl (PV.move rfl), QOne.yes rfl rfl rfl (PV.move rfl), QOne.yes rfl rfl rfl (PV.indexAddr ge_tl43 ge_tz52 (congrArg (fun a => some (Value.slice a _ _)) hpw) rfl (by omega) (by omega)), QOne.yes rfl rfl rfl (PV.loadF rfl (fun w K hF => run_tk (hF (CellsF pw.1 pw.2 (tkC (tks Op.bytesLess tx))) (.head _)) ge_ta52 hj)), QOne.yes rfl rfl rfl (PV.bin rfl rfl (BinV.to (d := false) (tok_neq tokOk_ tokUnd_ tokHeld_ tokGrd_ _ _ _) rfl)), trivial⟩ rfl rfl rfl ?_
          refine NX.sub (E' := [(11, _), (13, _), (19, _), (20, _), (24, _), (26, _), (134, _), (135, _), (136, _), (137, _), (140, _), (141, _), (142, _), (143, _), (144, _), (145, _), (146, _), (147, _), (148, _)]) ⟨rfl, rfl, rfl, rfl, rfl, rfl, rfl, rfl, rfl, rfl, rfl, rfl, rfl, rfl, rfl, rfl, rfl, rfl, rfl, trivial⟩ ?_
          refine NX.seq ?_
          refine TR.condF rfl ?_
          refine TR.skip ?_
          refine NX.off ?_
          refine NX.seq ?_
          refine TR.region ?_
          refine RL.move rfl rfl rfl ?_
          refine RL.bin rfl rfl rfl (BinV.add ((j + 1 : Nat) : Int) (by omega) (by omega) (by omega)) rfl ?_
          refine RL.assign rfl rfl rfl ?_
          refine RL.nil ?_
          refine NX.roundP (j + 1) (by omega) (by omega) ⟨rfl, rfl, rfl, rfl, rfl, rfl, trivial⟩ (fun w hw => (hw.to 1 [0] 5 [2, 3, 4] rfl))
        · skip
          refine TR.exit ?_
          refine NX.exitThen ?_
          refine NX.exitThen ?_
          refine NX.exitHere ?_
          refine NX.off ?_
          refine NX.seq ?_
          refine TR.region ?_
          refine RL.move rfl rfl rfl ?_
          refine RL.bin rfl rfl rfl (BinV.add ((5 + (i + 1) : Nat) : Int) (by omega) (by omega) (by omega)) rfl ?_
          refine RL.assign rfl rfl rfl ?_
          refine RL.nil ?_
          refine NX.roundP (i + 1) (by omega) (by omega) ⟨rfl, rfl, rfl, rfl, trivial⟩ (fun w hw => (hw.to 1 [0] 3 [0, 1] rfl))
      · skip
        refine RL.bin rfl rfl rfl (BinV.to (d := false) BinV.eql (decide_eq_false (by omega))) rfl ?_
        refine RL.move rfl rfl rfl ?_
        refine RL.skip rfl rfl rfl ?_
        refine RL.skip rfl rfl rfl ?_
        refine RL.skip rfl rfl rfl ?_
        refine RL.pickF rfl rfl rfl rfl ?_
        refine RL.pickF rfl rfl rfl rfl ?_
        refine RL.nil ?_
        refine NX.seq ?_
        refine TR.condF rfl ?_
        refine TR.skip ?_
        refine NX.seq ?_
        refine TR.seq ?_
        refine TR.region ?_
        refine RL.assign rfl rfl rfl ?_
        refine RL.nil ?_
        refine NX.seq ?_
        refine TR.block ?_
        refine TR.loopP (ι := Nat) (fun j => j ≤ (tks Op.bytesLess tx).length) (fun j => [(11, .pointer (some ⟨z0.1, 0, none⟩)), (13, S tx), (19, .slice i1.1 (tks Op.bytesLess tx).length i1.2), (20, I ((5 + i : Nat) : Int)), (24, .slice i2.1 (tks Op.bytesLess tx).length i2.2), (26, I (j : Nat))]) (fun j => DkB 57 z0.1 q6.1 :: M) (fun j => AllF q6.1.fs :: ArrF i1.1 (tkC (tks Op.bytesLess tx)) :: ArrF i2.1 (tkC (tks Op.bytesLess tx)) :: F) (fun j => (tks Op.bytesLess tx).length - j) 0 (Nat.zero_le _) ⟨rfl, rfl, rfl, rfl, rfl, rfl, trivial⟩ (fun w hw => (hw.to 2 [1] 7 [5, 6, 1] rfl)) (fun j hj_ => ?_)
        refine TR.seq ?_
        refine TR.seq ?_
        refine TR.region ?_
        refine RL.move rfl rfl rfl ?_
        refine RL.move rfl rfl rfl ?_
        refine RL.lenSlice rfl ge_tl43 rfl rfl ?_
        refine RL.bin rfl rfl rfl BinV.lss rfl ?_
        refine RL.nil ?_
        refine NX.seq ?_
        refine TR.cond rfl (fun h7 => ?_) (fun h7 => ?_)
        · skip
          have hTl : (tks Op.bytesLess tx).length ≤ tx.length := tkF_len _ _ _ _
          have hj : j < (tks Op.bytesLess tx).length := by have := of_decide_eq_true h7; omega
          refine TR.openP (open_arr (oa := i2.1) (xs := tkC (tks Op.bytesLess tx)) (.tail _ (.tail _ (.head _))) (tkC_ne hj)) (fun pg hpg => ?_)
          refine TR.openP (open_arr (oa := i1.1) (xs := tkC (tks Op.bytesLess tx)) (.tail _ (.tail _ (.head _))) (tkC_ne hj)) (fun pw hpw => ?_)
          refine TR.skip ?_
          refine NX.seq ?_
          refine TR.seq ?_
          refine TR.block ?_
          refine TR.seq ?_
          refine TR.sub (E' := [(11, _), (13, _), (19, _), (20, _), (24, _), (26, _), (134, _), (135, _), (136, _), (137, _)]) ⟨rfl, rfl, rfl, rfl, rfl, rfl, rfl, rfl, rfl, rfl, trivial⟩ ?_
          refine TR.draw mixed ?_
          apply AR.more [(0, _), (1, _), (2, _), (3, _), (4, _), (5, _), (6, _), (7, _), (8, .bool false)]
          refine AR.last [0, 1, 2, 3, 4, 5, 6, 7, 8] [0, 1, 2, 3, 4, 5, 6, 7, 8] ⟨QOne.yes rfl rfl rfl (PV.move rfl), QOne.yes rfl rfl rfl (PV.move rfl), QOne.yes rfl rfl rfl (PV.indexAddr ge_tl43 ge_tz52 (congrArg (fun a => some (Value.slice a _ _)) hpg) rfl (by omega) (by omega)), QOne.yes rfl rfl rfl (PV.loadF rfl (fun w K hF => run_tk (hF (CellsF pg.1 pg.2 (tkC (tks Op.bytesLess tx))) (.tail _ (.head _))) ge_ta52 hj)), QOne.yes rfl rfl rfl (PV.move rfl), QOne.yes rfl rfl rfl (PV.move rfl), QOne.yes rfl rfl rfl (PV.indexAddr ge_tl43 ge_tz52 (congrArg (fun a => some (Value.slice a _ _)) hpw) rfl (by omega) (by omega)), QOne.yes rfl rfl rfl (PV.loadF rfl (fun w K hF => run_tk (hF (CellsF pw.1 pw.2 (tkC (tks Op.bytesLess tx))) (.head _)) ge_ta52 hj)), QOne.yes rfl rfl rfl (PV.bin rfl rfl (BinV.to (d := false) (tok_neq tokOk_ tokUnd_ tokHeld_ tokGrd_ _ _ _) rfl)), trivial⟩ rfl rfl rfl ?_
          refine NX.sub (E' := [(11, _), (13, _), (19, _), (20, _), (24, _), (26, _), (134, _), (135, _), (136, _), (137, _), (140, _), (141, _), (142, _), (143, _), (144, _), (145, _), (146, _), (147, _), (148, _)]) ⟨rfl, rfl, rfl, rfl, rfl, rfl, rfl, rfl, rfl, rfl, rfl, rfl, rfl, rfl, rfl, rfl, rfl, rfl, rfl, trivial⟩ ?_
          refine NX.seq ?_
          refine TR.condF rfl ?_
          refine TR.skip ?_
          refine NX.off ?_
          refine NX.seq ?_
          refine TR.region ?_
          refine RL.move rfl rfl rfl ?_
          refine RL.bin rfl rfl rfl (BinV.add ((j + 1 : Nat) : Int) (by omega) (by omega) (by omega)) rfl ?_
          refine RL.assign rfl rfl rfl ?_
          refine RL.nil ?_
          refine NX.roundP (j + 1) (by omega) (by omega) ⟨rfl, rfl, rfl, rfl, rfl, rfl, trivial⟩ (fun w hw => (hw.to 1 [0] 5 [2, 3, 4] rfl))
        · skip
          refine TR.exit ?_
          refine NX.exitThen ?_
          refine NX.exitThen ?_
          refine NX.exitHere ?_
          refine NX.off ?_
          refine NX.seq ?_
          refine TR.region ?_
          refine RL.move rfl rfl rfl ?_
          refine RL.bin rfl rfl rfl (BinV.add ((5 + (i + 1) : Nat) : Int) (by omega) (by omega) (by omega)) rfl ?_
          refine RL.assign rfl rfl rfl ?_
          refine RL.nil ?_
          refine NX.roundP (i + 1) (by omega) (by omega) ⟨rfl, rfl, rfl, rfl, trivial⟩ (fun w hw => (hw.to 1 [0] 3 [0, 1] rfl))
    · skip
      refine TR.exit ?_
      refine NX.exitThen ?_
      refine NX.exitThen ?_
      refine NX.exitHere ?_
      refine NX.seq ?_
      refine TR.seq ?_
      refine TR.region ?_
      refine RL.call rfl rfl Tryz.call22 rfl (lives_spec) (fun _ => ?_)
      refine RL.assign rfl rfl rfl ?_
      refine RL.nil ?_
      refine NX.seq ?_
      refine TR.ret ?_
      exact NX.ret1 () rfl rfl rfl (fun w hw => (hw.to 1 [] 2 [] rfl))
end Go.Proofs.YtdnjoffkanjjhaaGreatDoor

namespace Go.Proofs.YtdnjoffkanjjhaaGreatDoor
open Go.ChangeShapes Go.WideShapes Go.ChangeAt Go.WideMaps Go.WideElems Go.RowKit Go.GL Go.GL.Tree
theorem own_ : ownKnob Tryz.prog.godebug = none := by kernel_rfl
theorem laidOut_ : laidOutB Tryz.prog = true := by kernel_rfl
theorem sl22 : isSl Tryz.prog 22 3 = true := by kernel_rfl
theorem i64_3 : isI64 Tryz.prog 3 = true := by kernel_rfl
theorem one3 : Nat.beq (Tryz.prog.cellsOf 3) 1 = true := by kernel_rfl
theorem params_ : Tryz.f3.params = #[22, 22, 3, 22, 3] := by kernel_rfl
theorem gKw : Tryz.prog.globalNamed "schemalens/lexer.keywords" = some 0 := by kernel_rfl
theorem gSy : Tryz.prog.globalNamed "schemalens/lexer.symbols" = some 1 := by kernel_rfl
theorem tKw : (Tryz.prog.globals[0]?).map (·.type) = some 133 := by kernel_rfl
theorem tSy : (Tryz.prog.globals[1]?).map (·.type) = some 135 := by kernel_rfl
theorem c9 : Tryz.prog.cellsOf 9 = 1 := by kernel_rfl
theorem uKw : Tryz.prog.underlying 133 = some (.array 26 9) := by kernel_rfl
theorem uSy : Tryz.prog.underlying 135 = some (.array 24 9) := by kernel_rfl
theorem u9 : Tryz.prog.underlying 9 = some .string := by kernel_rfl
def laidL {H : Type} : List (String × DataW H) := [("schemalens/lexer.keywords", Rows.laid_schemalens_lexer_keywords), ("schemalens/lexer.symbols", Rows.laid_schemalens_lexer_symbols)]
theorem str_S (ba : ByteArray) : (.string ba : Value) = S ba.data.toList := by
  show _ = Value.string ⟨ba.data.toList.toArray⟩
  rw [Array.toArray_toList]
theorem cells_of_strs {enc : TypeId × Value → Unit} {W : World} {base : Nat} {spare : Nat → Bool} {held : Bool} {fuel t n : Nat} {cs : List Value} {m : List MemPlace} {ls : List (List UInt8)} (hu : Tryz.prog.underlying t = some (.array n 9)) (hn : ls.length = n) (h : DataW.trod enc Tryz.prog W base spare held fuel t cs = some (.agg (ls.map fun l => .lit (.string l)), m)) : ∀ (j : Nat) v, (stC ls)[j]? = some v → cs[j]? = some v := by
  obtain ⟨xs, f, _, hx, hlen, hxn, hel⟩ := DataW.trod_array hu h
  intro j v hv
  have hj : j < ls.length := by have := (List.getElem?_eq_some_iff.1 hv).1; unfold stC at this; rwa [List.length_map] at this
  have h1 := hel j (by omega)
  have hxj : j < xs.length := by omega
  rw [c9, Nat.mul_one, List.getElem?_eq_getElem hxj] at h1
  obtain ⟨s, e1, e2, _⟩ := DataW.trod_string u9 h1
  have hx1 : ls.map (fun l => (DataW.lit (.string l) : DataW Unit)) = xs.map (·.1) := by
    have := congrArg Prod.fst hx
    simpa using this
  have h2 : (ls.map fun l => (DataW.lit (.string l) : DataW Unit))[j]? = (xs.map (·.1))[j]? := by rw [hx1]
  rw [List.getElem?_map, List.getElem?_map, List.getElem?_eq_getElem hj, List.getElem?_eq_getElem hxj] at h2
  have h3 : (DataW.lit (.string ls[j]) : DataW Unit) = xs[j].1 := by simpa using h2
  rw [e2] at h3
  have h4 : ls[j] = s.data.toList := by simpa using h3
  have h5 : v = S ls[j] := by
    unfold stC at hv
    rw [List.getElem?_map, List.getElem?_eq_getElem hj] at hv
    simpa using hv.symm
  have h6 : cs[j]? = some (.string s) := by
    have := congrArg (fun l : List Value => l[0]?) e1
    simp only [List.getElem?_take, List.getElem?_drop] at this
    simpa using this
  rw [h6, h5, h4, str_S]
theorem heap_of_cell {w : World} {b o : Nat} {v : Value} (h : w.cell? ⟨b, o, none⟩ = some v) : b < w.heap.size := by
  rcases Nat.lt_or_ge b w.heap.size with hb | hb
  · exact hb
  · exfalso; simp [World.cell?, Array.getElem?_eq_none hb] at h
theorem of_laid {W : World} (h : laidMetH Tryz.prog laidL W) : CellsAt W [] 0 0 (stC kwL) ∧ CellsAt W [] 1 0 (stC syL) := by
  rw [MakeChecks.laidMetH_plain _ _ _ (by kernel_rfl)] at h
  obtain ⟨ps, ⟨g0, t0, cs0, f0, p0, q0, hg0, ht0, hv0, hd0, ⟨g1, t1, cs1, f1, p1, q1, hg1, ht1, hv1, hd1, _, _⟩, _⟩, _, _⟩ := h
  obtain rfl := Option.some.inj (gKw.symm.trans hg0)
  obtain rfl := Option.some.inj (gSy.symm.trans hg1)
  obtain rfl := Option.some.inj (tKw.symm.trans ht0)
  obtain rfl := Option.some.inj (tSy.symm.trans ht1)
  have k0 := cells_of_strs (ls := kwL) uKw rfl hd0
  have k1 := cells_of_strs (ls := syL) uSy rfl hd1
  have e0 : ∀ (j : Nat) v, (stC kwL)[j]? = some v → W.cell? ⟨0, 0 + j, none⟩ = some v := fun j v hv => by
    rw [Nat.zero_add, World.var?_cell gKw hv0 j, ← Array.getElem?_toList]; exact k0 j v hv
  have e1 : ∀ (j : Nat) v, (stC syL)[j]? = some v → W.cell? ⟨1, 0 + j, none⟩ = some v := fun j v hv => by
    rw [Nat.zero_add, World.var?_cell gSy hv1 j, ← Array.getElem?_toList]; exact k1 j v hv
  exact ⟨⟨by simp, heap_of_cell (e0 0 _ rfl), e0⟩, ⟨by simp, heap_of_cell (e1 0 _ rfl), e1⟩⟩
theorem door_met (os : Os) (args : Array Value) : laidMetH Tryz.prog laidL ((World.doorLaid Tryz.prog 19 os).forCall (fun _ _ => 0) ⟨#[], args, []⟩).memory :=
  laidMetH_of_parts3 (fuel := 8) (laidMet_of_run' 8 (by kernel_rfl) (by kernel_rfl)) (by kernel_rfl) (by kernel_rfl)
set_option maxRecDepth 100000 in
theorem lifted (os : Os) (started : os.Started) (H : Type) (enc : TypeId × Value → H) :
    ReturnsInHanded {} Tryz.checked os 3 .any (fun w args => (Rows.diskTextsSpec.pre enc Tryz.prog Tryz.f3 [] false w args ∧ laidMetH Tryz.prog laidL w) ∧ sizedMet enc Tryz.prog Tryz.f3 (OpenSpec.ofChange Rows.diskTextsSpec) false w args)
      (Rows.diskTextsSpec.post enc Tryz.prog Tryz.f3 false true false false) := by
  refine returnsInHanded_of_change_and (C := Tryz.checked) (X := fun w _ => laidMetH Tryz.prog laidL w) (fun _ _ _ hh h => h.of_heap hh) own_ started (by kernel_rfl) Tryz.func3
    (ChangeSpec.witness_shaped (enc := enc) (C := Tryz.checked) (os := os) (X := fun w _ => laidMetH Tryz.prog laidL w) false (World.doorLaid Tryz.prog 19 os) #[.slice none 0 0, .slice none 0 0, .int .i64 0, .slice none 0 0, .int .i64 0] 8 rfl (World.shaped_of_RefB (by kernel_rfl) (by kernel_rfl)) (by kernel_rfl) (by kernel_rfl) (by kernel_rfl) (door_met os _)) ?_
  intro W base args ds gs before hval0 hW _ _ hL _
  have hval : ∀ (j : Nat) t v, Tryz.f3.params[j]? = some t → args[j]? = some v → Value.okWide Tryz.prog W .any base t v := hval0
  have hW' := hW
  obtain ⟨p, q, hA0, hV, rfl, hfz, hnd⟩ := hW
  have hA : DataW.TrodAll enc Tryz.prog W 0 (fun _ => true) true Tryz.f3.params.toList args.toList ds p := hA0
  rw [params_] at hA hval
  obtain ⟨v0, vs0, d0, ds0, p0, q0, hargs, rfl, rfl, h0, r0⟩ := trodAll_cons hA
  obtain ⟨v1, vs1, d1, ds1, p1, q1, rfl, rfl, rfl, h1, r1⟩ := trodAll_cons r0
  obtain ⟨v2, vs2, d2, ds2, p2, q2, rfl, rfl, rfl, h2, r2⟩ := trodAll_cons r1
  obtain ⟨v3, vs3, d3, ds3, p3, q3, rfl, rfl, rfl, h3, r3⟩ := trodAll_cons r2
  obtain ⟨v4, vs4, d4, ds4, p4, q4, rfl, rfl, rfl, h4, r4⟩ := trodAll_cons r3
  obtain ⟨rfl, rfl, rfl⟩ := trodAll_nil r4
  obtain rfl : args = #[v0, v1, v2, v3, v4] := by cases args; simp_all
  obtain ⟨oa0, ca0, xs0, rfl, hxa0, hxl0, hxm0, hxr0⟩ := in_ints1 sl22 i64_3 one3 (hval 0 22 v0 rfl rfl) h0
  have hok0 : IntsOk xs0 := ⟨by simp [maxLen] at hxm0; omega, hxr0⟩
  obtain ⟨oa1, ca1, xs1, rfl, hxa1, hxl1, hxm1, hxr1⟩ := in_ints1 sl22 i64_3 one3 (hval 1 22 v1 rfl rfl) h1
  have hok1 : IntsOk xs1 := ⟨by simp [maxLen] at hxm1; omega, hxr1⟩
  obtain ⟨oa3, ca3, xs3, rfl, hxa3, hxl3, hxm3, hxr3⟩ := in_ints1 sl22 i64_3 one3 (hval 3 22 v3 rfl rfl) h3
  have hok3 : IntsOk xs3 := ⟨by simp [maxLen] at hxm3; omega, hxr3⟩
  obtain ⟨o2, rfl, _, _, ho2⟩ := open_int (isI64_is i64_3) (hval 2 3 v2 rfl rfl) h2
  have hoi2 : -9223372036854775808 ≤ o2 ∧ o2 ≤ 9223372036854775807 := by simpa [Lit.wf, IntKind.min, IntKind.max, IntKind.signed, IntKind.bits] using ho2
  obtain ⟨o4, rfl, _, _, ho4⟩ := open_int (isI64_is i64_3) (hval 4 3 v4 rfl rfl) h4
  have hoi4 : -9223372036854775808 ≤ o4 ∧ o4 ≤ 9223372036854775807 := by simpa [Lit.wf, IntKind.min, IntKind.max, IntKind.signed, IntKind.bits] using ho4
  obtain ⟨hkw, hsy⟩ := of_laid hL
  have hwalk := law_run (W := W) (law_texts34 (ls := xs0) (ms := xs1) (ks := xs3) (ct := o2) (fl := o4) (oa := oa0) (ob := oa1) (oc := oa3) (ca := ca0) (cb := ca1) (cc := ca3) (M := []) (F := [OldF W, ArrF oa0 (ints xs0), ArrF oa1 (ints xs1), ArrF oa3 (ints xs3), CellsF 0 0 (stC kwL), CellsF 1 0 (stC syL)]) (.tail _ (.head _)) hok0 (.tail _ (.tail _ (.head _))) hok1 (.tail _ (.tail _ (.tail _ (.head _)))) hok3 hxl3 hoi2 hoi4 (.tail _ (.tail _ (.tail _ (.tail _ (.head _))))) (.tail _ (.tail _ (.tail _ (.tail _ (.tail _ (.head _))))))) (fun φ hφ => by
      rcases List.mem_cons.1 hφ with e | hφ
      · subst e; exact hxa0
      rcases List.mem_cons.1 hφ with e | hφ
      · subst e; exact hxa1
      rcases List.mem_cons.1 hφ with e | hφ
      · subst e; exact hxa3
      rcases List.mem_cons.1 hφ with e | hφ
      · subst e; exact hkw
      rcases List.mem_cons.1 hφ with e | hφ
      · subst e; exact hsy
      cases hφ)
  exact hwalk.mono fun e W' ⟨he, hb⟩ => ⟨_, he, law_post (tb := 4) laidOut_ (by kernel_rfl) rfl (by kernel_rfl) (by kernel_rfl) rfl hW' hb⟩
theorem diskTexts_said : Rows.DiskTextsSaid :=
  OpenClaim.holds_of_wide 3 Tryz.f3 rfl rfl rfl rfl rfl rfl rfl ⟨rfl, rfl, rfl, rfl, rfl⟩ rfl rfl rfl rfl rfl (by kernel_rfl) Tryz.func3 (by kernel_rfl)
    (of_decide_eq_true (by kernel_rfl)) (by unfold Func.isWrapper; first | (rw [if_pos (by decide +kernel)]; kernel_rfl) | (rw [if_neg (by decide +kernel)]; exact ⟨rfl, rfl⟩))
    (fun os started H enc _ => lifted os started H enc)
theorem diskTexts_holds : Rows.DiskTextsCardSaid :=
  Claim7.holds_tied_plain_at .later [] [.widerDeep, .data] true (true, "a89f4bc761b8349ef46607eed9bdb2b566f1ae343937e28d4603bd235512cf15") true
    diskTexts_said (fun _ h => by cases h) (by kernel_rfl) (fun _ h => by cases h) diskTexts_row_tie rfl ⟨rfl, rfl⟩ (by kernel_rfl) rfl
    (fun f fn hf hfn => by
      obtain rfl : f = 3 := Option.some.inj ((show Tryz.prog.funcNamed "schemalens/schemalenslaw34.DiskTexts" = some 3 by kernel_rfl).symm.trans hf) |>.symm
      obtain rfl : fn = Tryz.f3 := (Option.some.inj (Tryz.func3.symm.trans hfn)).symm
      exact ⟨by kernel_rfl, fun j t ht => by
        rw [params_] at ht
        have hm : t ∈ [22, 22, 3, 22, 3] := by simpa using Array.mem_of_getElem? ht
        have hall : ([22, 22, 3, 22, 3].all fun u => !Tryz.prog.wantsStandIn u) = true := by kernel_rfl
        exact (show Tryz.prog.wantsStandIn t = false by simpa using List.all_eq_true.1 hall t hm)⟩)
    (by kernel_rfl)
end Go.Proofs.YtdnjoffkanjjhaaGreatDoor
