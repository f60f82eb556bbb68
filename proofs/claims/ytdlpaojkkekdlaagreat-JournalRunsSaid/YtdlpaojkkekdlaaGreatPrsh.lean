/- The law JournalRuns holds: whatever the input, it returns true and the input reads as it did. No condition. -/
import Derived.Test.YtdlpaojkkekdlaaGreatPrsg
namespace Go.Proofs.YtdlpaojkkekdlaaGreat
open Go.GL
set_option linter.unusedVariables false
theorem fc_bs22_1_0 (x0 : Int) : BuildSV Tryz.prog 22 3 1 [(0, .int .i64 x0)] [.int .i64 x0] := fun w => by kernel_rfl
theorem fc_tb4 : tyBool Tryz.prog 4 = true := by kernel_rfl
theorem fc_tf44_2 : fieldOff Tryz.prog 44 2 2 = true := by kernel_rfl
theorem fc_tf44_3 : fieldOff Tryz.prog 44 3 3 = true := by kernel_rfl
theorem fc_tf50_1 : fieldOff Tryz.prog 50 1 1 = true := by kernel_rfl
theorem fc_tf50_3 : fieldOff Tryz.prog 50 3 3 = true := by kernel_rfl
theorem fc_tl22 : tySlice Tryz.prog 22 3 = true := by kernel_rfl
theorem fc_tl29 : tySlice Tryz.prog 29 39 = true := by kernel_rfl
theorem fc_tp24 : tyPtr Tryz.prog 24 62 = true := by kernel_rfl
theorem fc_tp28 : tyPtr Tryz.prog 28 59 = true := by kernel_rfl
theorem fc_tp33 : tyPtr Tryz.prog 33 44 = true := by kernel_rfl
theorem fc_ts29 : tyScalar Tryz.prog 29 = true := by kernel_rfl
theorem fc_ts3 : tyScalar Tryz.prog 3 = true := by kernel_rfl
theorem fc_ts39 : tyScalar Tryz.prog 39 = true := by kernel_rfl
theorem fc_ts4 : tyScalar Tryz.prog 4 = true := by kernel_rfl
theorem fc_tz3 : tySize Tryz.prog 3 1 = true := by kernel_rfl
theorem fc_tz39 : tySize Tryz.prog 39 1 = true := by kernel_rfl
theorem opt_pair {o o' : Option Nat} (h : o.isSome = o'.isSome) : (o = none ∧ o' = none) ∨ ∃ l l', o = some l ∧ o' = some l' := by
  cases o <;> cases o' <;> simp_all
structure Ru35 where
  i : Nat
  s : Ds
  r : Rf
  o : Option Nat
  o' : Option Nat
  g : Lg
  e : Int

set_option maxHeartbeats 2000000 in
theorem law_runs35 {n : Int} {xs : List Int} {oa : Option Addr} {ca : Nat} {M : List HP} {F : List Fact} (hn : I64 n) (hl : ArrF oa (ints xs) ∈ F) (hok : IntsOk xs) : Ctr Tryz.prog 3 [I n, .slice oa xs.length ca] M F Unit (fun _ => .bool true) (fun _ => M) (fun _ => F) := by
  refine Ctr.body Tryz.func3 rfl rfl ?_
  refine TR.seq ?_
  refine TR.region ?_
  refine RL.assign rfl rfl rfl ?_
  refine RL.nil ?_
  refine NX.seq ?_
  refine TR.seq ?_
  refine TR.region ?_
  refine RL.move rfl rfl rfl ?_
  refine RL.call rfl rfl Tryz.call4 rfl (around_spec (by decide) hn.1 hn.2) (fun r0 => ?_)
  obtain ⟨r0v, r0h⟩ := r0
  obtain ⟨q, rfl⟩ : ∃ q : Nat, r0v = q := ⟨r0v.toNat, by omega⟩
  dsimp only
  refine RL.bin rfl rfl rfl (BinV.add ((40 + q : Nat) : Int) (by omega) (by omega) (by omega)) rfl ?_
  refine RL.assign rfl rfl rfl ?_
  refine RL.nil ?_
  refine NX.seq ?_
  refine TR.seq ?_
  refine TR.region ?_
  refine RL.move rfl rfl rfl ?_
  refine RL.call rfl rfl Tryz.call5 rfl (fresh_d (k := 40 + q) (by omega)) (fun z0 => ?_)
  refine RL.assign rfl rfl rfl ?_
  refine RL.nil ?_
  refine NX.seq ?_
  refine TR.seq ?_
  refine TR.seq ?_
  refine TR.region ?_
  refine RL.move rfl rfl rfl ?_
  refine RL.bin rfl rfl rfl (BinV.eqlPtrNil fc_tp24) rfl ?_
  refine RL.nil ?_
  refine NX.seq ?_
  refine TR.condF rfl ?_
  refine TR.skip ?_
  refine NX.seq ?_
  refine TR.seq ?_
  refine TR.region ?_
  refine RL.move rfl rfl rfl ?_
  refine RL.call rfl rfl Tryz.call6 rfl (r_new (k := 40 + q)) (fun z1 => ?_)
  refine RL.assign rfl rfl rfl ?_
  refine RL.nil ?_
  refine NX.seq ?_
  refine TR.seq ?_
  refine TR.region ?_
  refine RL.move rfl rfl rfl ?_
  refine RL.call rfl rfl Tryz.call7 rfl (Ctr.pick 2 [1, 0] rfl (p_open (f := 2) (RelP.new (by omega)) (.tail _ (.head _)) (by decide))) (fun q3 => ?_)
  refine RL.move rfl rfl rfl ?_
  refine RL.extract rfl rfl rfl rfl ?_
  refine RL.extract rfl rfl rfl rfl ?_
  refine RL.extract rfl rfl rfl rfl ?_
  refine RL.assign rfl rfl rfl ?_
  refine RL.assign rfl rfl rfl ?_
  refine RL.assign rfl rfl rfl ?_
  refine RL.nil ?_
  refine NX.seq ?_
  refine TR.seq ?_
  refine TR.region ?_
  refine RL.move rfl rfl rfl ?_
  refine RL.call rfl rfl Tryz.call8 rfl (Ctr.pick 3 [2, 0, 1] rfl (r_open (f := 2) (RfOk.new (by omega) : RfOk (rf0 (40 + q) z1.2.1 z1.2.2)) (.tail _ (.tail _ (.tail _ (.head _)))) (by decide))) (fun q4 => ?_)
  refine RL.move rfl rfl rfl ?_
  refine RL.extract rfl rfl rfl rfl ?_
  refine RL.extract rfl rfl rfl rfl ?_
  refine RL.extract rfl rfl rfl rfl ?_
  refine RL.assign rfl rfl rfl ?_
  refine RL.assign rfl rfl rfl ?_
  refine RL.assign rfl rfl rfl ?_
  refine RL.nil ?_
  refine NX.seq ?_
  refine TR.seq ?_
  refine TR.seq ?_
  have hsm := q3.2.2.same q4.2.2
  have hsl := q3.2.2.len
  refine TR.region ?_
  refine RL.assign rfl rfl rfl ?_
  refine RL.nil ?_
  refine NX.seq ?_
  refine TR.block ?_
  refine TR.loopP (ι := Ru35) (fun x => x.i ≤ 14 ∧ RelP x.s x.r.a ∧ RfOk x.r ∧ x.o.isSome = x.o'.isSome ∧ x.g.f = 2 ∧ x.g.n ≤ 16777216 + x.i) (fun x => [(1, .slice oa xs.length ca), (6, .pointer (some ⟨z0.1, 0, none⟩)), (7, .pointer (some ⟨z1.1, 0, none⟩)), (8, ptrO x.o), (10, I x.e), (11, ptrO x.o'), (13, I x.e), (14, I (x.i : Nat))]) (fun x => LgB 59 z0.1 x.o x.g :: LgB 44 z1.1 x.o' x.g :: DkB 62 z0.1 (x.s) :: RfB 50 39 3 z1.1 (x.r) :: M) (fun x => AllF x.s.fs :: AllB (rowsF x.r.a.B x.r.x) :: F) (fun x => 14 - x.i) ⟨0, q3.1.1, q4.1.1, q3.1.2.1, q4.1.2.1, ⟨2, q3.1.2.2.ps.length, false⟩, (openA (rf0 (40 + q) z1.2.1 z1.2.2).a 2).1⟩ ⟨Nat.zero_le _, (show RelP q3.1.1 q4.1.1.a by rw [q4.2.1.2]; exact q3.2.1), q4.2.1.1, hsm.2.2, rfl, by show q3.1.2.2.ps.length ≤ 16777216 + 0; exact Nat.le_trans hsl (Nat.zero_le _)⟩ ⟨rfl, rfl, rfl, rfl, rfl, rfl, rfl, rfl, trivial⟩ (fun w hw => (by
      have h9 : St w (LgB 59 z0.1 q3.1.2.1 ⟨2, q3.1.2.2.ps.length, false⟩ :: LgB 44 z1.1 q4.1.2.1 ⟨2, q4.1.2.2.ps.length, false⟩ :: DkB 62 z0.1 (q3.1.1) :: RfB 50 39 3 z1.1 (q4.1.1) :: M) (AllF q3.1.1.fs :: AllB (rowsF q4.1.1.a.B q4.1.1.x) :: F) := (hw.to 4 [2, 0, 3, 1] 8 [5, 2] rfl)
      rw [← hsm.2.1] at h9
      exact h9)) (fun x hx => ?_)
  refine TR.seq ?_
  refine TR.seq ?_
  refine TR.region ?_
  refine RL.move rfl rfl rfl ?_
  refine RL.move rfl rfl rfl ?_
  refine RL.lenSlice rfl fc_tl22 rfl rfl ?_
  refine RL.bin rfl rfl rfl BinV.lss rfl ?_
  refine RL.move rfl rfl rfl ?_
  refine RL.part (fun h1 => ?_) (fun h1 => ?_)
  · skip
    have hik : x.i < xs.length := by have := of_decide_eq_true h1; omega
    refine RL.move rfl rfl rfl ?_
    refine RL.bin rfl rfl rfl BinV.lss rfl ?_
    refine RL.pickT rfl rfl rfl rfl ?_
    refine RL.nil ?_
    refine NX.seq ?_
    refine TR.cond rfl (fun h2 => ?_) (fun h2 => ?_)
    · skip
      have hi14 : x.i < 14 := by have := of_decide_eq_true h2; omega
      have hxi := hok.2 _ (List.getElem_mem hik)
      have hq8 := tdiv8 hxi.1 hxi.2
      have hgn := hx.2.2.2.2.2
      refine TR.openP (open_arr (oa := oa) (xs := ints xs) (.tail _ (.tail _ hl)) (ints_ne (by omega))) (fun pq hpa => ?_)
      refine TR.skip ?_
      refine NX.seq ?_
      refine TR.seq ?_
      refine TR.block ?_
      refine TR.seq ?_
      refine TR.region ?_
      refine RL.move rfl rfl rfl ?_
      refine RL.move rfl rfl rfl ?_
      refine RL.indexAddr rfl fc_tl22 fc_tz3 (congrArg (fun a => some (Value.slice a _ _)) hpa) rfl (by omega) (by omega) rfl ?_
      refine RL.loadF rfl rfl (fun w K hF => run_loadCell1 (j := ((x.i : Nat) : Int).toNat * 1) (v := I xs[x.i]) (hF (CellsF pq.1 pq.2 (ints xs)) (.head _)) fc_ts3 (by rw [Nat.mul_one, Int.toNat_natCast]; exact ints_get hik)) rfl ?_
      refine RL.bin rfl rfl rfl (BinV.quo (by decide) (xs[x.i].tdiv 8) rfl (by omega) (by omega)) rfl ?_
      refine RL.call rfl rfl Tryz.call4 rfl (around_spec (by decide) hq8.1 hq8.2) (fun r1 => ?_)
      obtain ⟨r1v, r1h⟩ := r1
      obtain ⟨X, rfl⟩ : ∃ X : Nat, r1v = X := ⟨r1v.toNat, by omega⟩
      dsimp only
      refine RL.assign rfl rfl rfl ?_
      refine RL.nil ?_
      refine NX.seq ?_
      refine TR.seq ?_
      refine TR.seq ?_
      refine TR.region ?_
      rcases opt_pair hx.2.2.2.1 with ⟨ho, ho'⟩ | ⟨l, l', ho, ho'⟩ <;> rw [ho, ho']
      · skip
        refine RL.move rfl rfl rfl ?_
        refine RL.move rfl rfl rfl ?_
        refine RL.bin rfl rfl rfl (BinV.to (d := false) BinV.neq (decide_eq_false (fun e => e rfl))) rfl ?_
        refine RL.move rfl rfl rfl ?_
        refine RL.move rfl rfl rfl ?_
        refine RL.bin rfl rfl rfl (BinV.eqlPtrNil fc_tp28) rfl ?_
        refine RL.move rfl rfl rfl ?_
        refine RL.bin rfl rfl rfl (BinV.eqlPtrNil fc_tp33) rfl ?_
        refine RL.bin rfl rfl rfl (BinV.to (d := false) (BinV.neqB fc_tb4) (decide_eq_false (by simp))) rfl ?_
        refine RL.pickF rfl rfl rfl rfl ?_
        refine RL.nil ?_
        refine NX.seq ?_
        refine TR.condF rfl ?_
        refine TR.skip ?_
        refine NX.seq ?_
        refine TR.seq ?_
        refine TR.seq ?_
        refine TR.region ?_
        refine RL.move rfl rfl rfl ?_
        refine RL.move rfl rfl rfl ?_
        refine RL.indexAddr rfl fc_tl22 fc_tz3 (congrArg (fun a => some (Value.slice a _ _)) hpa) rfl (by omega) (by omega) rfl ?_
        refine RL.loadF rfl rfl (fun w K hF => run_loadCell1 (j := ((x.i : Nat) : Int).toNat * 1) (v := I xs[x.i]) (hF (CellsF pq.1 pq.2 (ints xs)) (.head _)) fc_ts3 (by rw [Nat.mul_one, Int.toNat_natCast]; exact ints_get hik)) rfl ?_
        refine RL.call rfl rfl Tryz.call4 rfl (around_spec (by decide) hxi.1 hxi.2) (fun r2 => ?_)
        obtain ⟨q9, hq⟩ := r2
        dsimp only
        refine RL.nil ?_
        refine NX.seq ?_
        refine TR.block ?_
        refine TR.seq ?_
        refine TR.region ?_
        rcases (by omega : q9 = 0 ∨ q9 = 1 ∨ q9 = 2 ∨ q9 = 3 ∨ 4 ≤ q9) with rfl | rfl | rfl | rfl | hq4
        · skip
          refine RL.bin rfl rfl rfl (BinV.to (d := true) BinV.eql (decide_eq_true rfl)) rfl ?_
          refine RL.assign rfl rfl rfl ?_
          refine RL.nil ?_
          refine NX.seq ?_
          refine TR.condT rfl ?_
          refine TR.seq ?_
          refine TR.region ?_
          refine RL.move rfl rfl rfl ?_
          refine RL.move rfl rfl rfl ?_
          refine RL.bin rfl rfl rfl (BinV.remK (a := X) (b := 5) (by decide)) rfl ?_
          refine RL.call rfl rfl Tryz.call9 rfl (Ctr.pick 4 [2, 0, 1, 3] rfl (p_arm (n := ((X % 5 : Nat) : Int)) hx.2.1 (.tail _ (.head _)) (by omega) (by omega))) (fun q1 => ?_)
          refine RL.nil ?_
          refine NX.seq ?_
          refine TR.region ?_
          refine RL.move rfl rfl rfl ?_
          refine RL.move rfl rfl rfl ?_
          refine RL.bin rfl rfl rfl (BinV.remK (a := X) (b := 5) (by decide)) rfl ?_
          refine RL.call rfl rfl Tryz.call10 rfl (Ctr.pick 4 [3, 0, 1, 2] rfl (r_arm (n := ((X % 5 : Nat) : Int)) hx.2.2.1 (.tail _ (.tail _ (.tail _ (.head _)))) (by omega) (by omega))) (fun q2 => ?_)
          refine RL.nil ?_
          refine NX.off ?_
          refine NX.seq ?_
          refine TR.seq ?_
          skip
          refine TR.region ?_
          rcases Bool.eq_false_or_eq_true q2.1.a.off with hoff | hoff
          · skip
            refine RL.move rfl rfl rfl ?_
            refine RL.call rfl rfl Tryz.call19 rfl (Ctr.pick 4 [1, 0, 2, 3] rfl (p_read (n := 2) (show RelP q1.1 q2.1.a by rw [q2.2.2]; exact q1.2) (.tail _ (.head _)) (by decide))) (fun rd => ?_)
            refine RL.move rfl rfl rfl ?_
            refine RL.extract rfl rfl rfl rfl ?_
            refine RL.extract rfl rfl rfl rfl ?_
            refine RL.assign rfl rfl rfl ?_
            refine RL.assign rfl rfl rfl ?_
            refine RL.nil ?_
            refine NX.seq ?_
            refine TR.seq ?_
            refine TR.openP (rf_at (i := 1) rfl) (fun g hg => ?_)
            refine TR.weak (fun w hw => hw.allB_get (.tail _ (.head _)) (rowsF_mem (n := 2) (by decide))) ?_
            refine TR.region ?_
            refine RL.move rfl rfl rfl ?_
            refine RL.bin rfl rfl rfl (BinV.to (d := false) BinV.eql (decide_eq_false (by rw [hoff]; decide))) rfl ?_
            refine RL.move rfl rfl rfl ?_
            refine RL.skip rfl rfl rfl ?_
            refine RL.skip rfl rfl rfl ?_
            refine RL.skip rfl rfl rfl ?_
            refine RL.skip rfl rfl rfl ?_
            refine RL.skip rfl rfl rfl ?_
            refine RL.skip rfl rfl rfl ?_
            refine RL.skip rfl rfl rfl ?_
            refine RL.skip rfl rfl rfl ?_
            refine RL.skip rfl rfl rfl ?_
            refine RL.pickF rfl rfl rfl rfl ?_
            refine RL.move rfl rfl rfl ?_
            refine RL.move rfl rfl rfl ?_
            refine RL.bin rfl rfl rfl (BinV.to (d := true) BinV.eql (decide_eq_true (by rw [hoff]; rfl))) rfl ?_
            refine RL.move rfl rfl rfl ?_
            refine RL.nilCheck rfl rfl rfl ?_
            refine RL.fieldAddr rfl fc_tf50_3 rfl rfl ?_
            refine RL.loadS rfl rfl (rf_cell (j := 3) (v := .bool true) (i := 1) rfl fc_ts4 (by show some (Value.bool q2.1.a.off) = _; rw [hoff])) rfl ?_
            refine RL.bin rfl rfl rfl (BinV.to (d := false) (BinV.neqB fc_tb4) (decide_eq_false (by simp))) rfl ?_
            refine RL.pickF rfl rfl rfl rfl ?_
            refine RL.nil ?_
            refine NX.seq ?_
            refine TR.condF rfl ?_
            refine TR.skip ?_
            refine NX.off ?_
            refine NX.seq ?_
            refine TR.region ?_
            refine RL.move rfl rfl rfl ?_
            refine RL.bin rfl rfl rfl (BinV.add ((x.i + 1 : Nat) : Int) (by omega) (by omega) (by omega)) rfl ?_
            refine RL.assign rfl rfl rfl ?_
            refine RL.nil ?_
            refine NX.roundP ⟨x.i + 1, q1.1, q2.1, none, none, x.g, x.e⟩ ⟨by show x.i + 1 ≤ 14; omega, (show RelP q1.1 q2.1.a by rw [q2.2.2]; exact q1.2), q2.2.1, rfl, hx.2.2.2.2.1, by show x.g.n ≤ 16777216 + (x.i + 1); omega⟩ (by show 14 - (x.i + 1) < _; omega) ⟨rfl, rfl, rfl, rfl, rfl, rfl, rfl, rfl, trivial⟩ (fun w hw => (hw.to 4 [2, 3, 0, 1] 7 [3, 2] rfl))
          · skip
            refine RL.move rfl rfl rfl ?_
            refine RL.call rfl rfl Tryz.call19 rfl (Ctr.pick 4 [1, 0, 2, 3] rfl (p_read (n := 2) (show RelP q1.1 q2.1.a by rw [q2.2.2]; exact q1.2) (.tail _ (.head _)) (by decide))) (fun rd => ?_)
            refine RL.move rfl rfl rfl ?_
            refine RL.extract rfl rfl rfl rfl ?_
            refine RL.extract rfl rfl rfl rfl ?_
            refine RL.assign rfl rfl rfl ?_
            refine RL.assign rfl rfl rfl ?_
            refine RL.nil ?_
            refine NX.seq ?_
            refine TR.seq ?_
            refine TR.openP (rf_at (i := 1) rfl) (fun g hg => ?_)
            refine TR.weak (fun w hw => hw.allB_get (.tail _ (.head _)) (rowsF_mem (n := 2) (by decide))) ?_
            refine TR.region ?_
            refine RL.move rfl rfl rfl ?_
            refine RL.bin rfl rfl rfl (BinV.to (d := true) BinV.eql (decide_eq_true (by rw [hoff]; rfl))) rfl ?_
            refine RL.move rfl rfl rfl ?_
            refine RL.move rfl rfl rfl ?_
            refine RL.move rfl rfl rfl ?_
            refine RL.nilCheck rfl rfl rfl ?_
            refine RL.fieldAddr rfl fc_tf50_1 rfl rfl ?_
            refine RL.loadS rfl rfl (rf_cell (j := 1) (v := .slice q2.1.ba 64 64) (i := 1) rfl fc_ts29 rfl) rfl ?_
            refine RL.indexAddr rfl fc_tl29 fc_tz39 (congrArg (fun a => some (Value.slice a _ _)) hg) rfl (by decide) (by decide) rfl ?_
            refine RL.loadS rfl rfl (rf_row (n := 2) (u := 2) (i := 1) rfl hg fc_ts39 rfl (by decide)) rfl ?_
            refine RL.call rfl rfl Tryz.call20 rfl (Ctr.boolT (decide_eq_true (show (if q2.1.a.off = true then [] else q2.1.a.B 2) = q2.1.a.B 2 by rw [hoff]; rfl)) (sameB_spec (xs := (if q2.1.a.off = true then [] else q2.1.a.B 2)) (ys := q2.1.a.B 2) (.tail _ (.head _)) (.head _) (by rw [hoff]; have h7 := used_one (B := q2.1.a.B) (n := 2) (by decide); have h8 := q2.2.1.us; have h9 := q2.2.1.rm; show (q2.1.a.B 2).length ≤ _; omega))) (fun _ => ?_)
            refine RL.not rfl rfl rfl ?_
            refine RL.pickT rfl rfl rfl rfl ?_
            refine RL.move rfl rfl rfl ?_
            refine RL.move rfl rfl rfl ?_
            refine RL.bin rfl rfl rfl (BinV.to (d := false) BinV.eql (decide_eq_false (by rw [hoff]; decide))) rfl ?_
            refine RL.move rfl rfl rfl ?_
            refine RL.nilCheck rfl rfl rfl ?_
            refine RL.fieldAddr rfl fc_tf50_3 rfl rfl ?_
            refine RL.loadS rfl rfl (rf_cell (j := 3) (v := .bool false) (i := 1) rfl fc_ts4 (by show some (Value.bool q2.1.a.off) = _; rw [hoff])) rfl ?_
            refine RL.bin rfl rfl rfl (BinV.to (d := false) (BinV.neqB fc_tb4) (decide_eq_false (by simp))) rfl ?_
            refine RL.pickF rfl rfl rfl rfl ?_
            refine RL.nil ?_
            refine NX.seq ?_
            refine TR.condF rfl ?_
            refine TR.skip ?_
            refine NX.off ?_
            refine NX.seq ?_
            refine TR.region ?_
            refine RL.move rfl rfl rfl ?_
            refine RL.bin rfl rfl rfl (BinV.add ((x.i + 1 : Nat) : Int) (by omega) (by omega) (by omega)) rfl ?_
            refine RL.assign rfl rfl rfl ?_
            refine RL.nil ?_
            refine NX.roundP ⟨x.i + 1, q1.1, q2.1, none, none, x.g, x.e⟩ ⟨by show x.i + 1 ≤ 14; omega, (show RelP q1.1 q2.1.a by rw [q2.2.2]; exact q1.2), q2.2.1, rfl, hx.2.2.2.2.1, by show x.g.n ≤ 16777216 + (x.i + 1); omega⟩ (by show 14 - (x.i + 1) < _; omega) ⟨rfl, rfl, rfl, rfl, rfl, rfl, rfl, rfl, trivial⟩ (fun w hw => (hw.to 4 [2, 3, 0, 1] 7 [3, 2] rfl))
        · skip
          refine RL.bin rfl rfl rfl (BinV.to (d := false) BinV.eql (decide_eq_false (by decide))) rfl ?_
          refine RL.assign rfl rfl rfl ?_
          refine RL.nil ?_
          refine NX.seq ?_
          refine TR.condF rfl ?_
          refine TR.seq ?_
          refine TR.seq ?_
          refine TR.region ?_
          refine RL.bin rfl rfl rfl (BinV.to (d := true) BinV.eql (decide_eq_true rfl)) rfl ?_
          refine RL.assign rfl rfl rfl ?_
          refine RL.nil ?_
          refine NX.seq ?_
          refine TR.condT rfl ?_
          refine TR.skip ?_
          refine NX.seq ?_
          refine TR.condT rfl ?_
          refine TR.seq ?_
          refine TR.region ?_
          refine RL.move rfl rfl rfl ?_
          refine RL.bin rfl rfl rfl (BinV.remK (a := X) (b := 30) (by decide)) rfl ?_
          refine RL.buildSlice rfl rfl (fc_bs22_1_0 _) rfl (fun b3 => ?_)
          refine RL.weak (fun w hw => St.boxArr (show St w (Box _ _ (ints [((X % 30 : Nat) : Int)]) :: _) _ from hw)) ?_
          refine RL.assign rfl rfl rfl ?_
          refine RL.nil ?_
          refine NX.seq ?_
          refine TR.seq ?_
          have hkp : IntsOk [((X % 30 : Nat) : Int)] := ⟨by show 1 ≤ _; decide, fun v hv => by rw [List.mem_singleton.1 hv]; omega⟩
          refine TR.region ?_
          refine RL.move rfl rfl rfl ?_
          refine RL.move rfl rfl rfl ?_
          refine RL.move rfl rfl rfl ?_
          refine RL.bin rfl rfl rfl (BinV.quo (by decide) ((X / 30 : Nat) : Int) (by rw [Int.tdiv_eq_ediv_of_nonneg (by omega)]; omega) (by omega) (by omega)) rfl ?_
          refine RL.bin rfl rfl rfl (BinV.remK (a := X / 30) (b := 300) (by decide)) rfl ?_
          refine RL.bin rfl rfl rfl (BinV.sub (((X / 30 % 300 : Nat) : Int) - 100) rfl (by omega) (by omega)) rfl ?_
          refine RL.call rfl rfl Tryz.call11 rfl (Ctr.pick 4 [2, 0, 1, 3] rfl (p_crash (ks := [((X % 30 : Nat) : Int)]) (fl := (((X / 30 % 300 : Nat) : Int) - 100)) hx.2.1 (.tail _ (.tail _ (.head _))) (.head _) hkp ⟨by omega, by omega⟩)) (fun q1 => ?_)
          refine RL.nil ?_
          refine NX.seq ?_
          refine TR.seq ?_
          refine TR.region ?_
          refine RL.move rfl rfl rfl ?_
          refine RL.move rfl rfl rfl ?_
          refine RL.move rfl rfl rfl ?_
          refine RL.bin rfl rfl rfl (BinV.quo (by decide) ((X / 30 : Nat) : Int) (by rw [Int.tdiv_eq_ediv_of_nonneg (by omega)]; omega) (by omega) (by omega)) rfl ?_
          refine RL.bin rfl rfl rfl (BinV.remK (a := X / 30) (b := 300) (by decide)) rfl ?_
          refine RL.bin rfl rfl rfl (BinV.sub (((X / 30 % 300 : Nat) : Int) - 100) rfl (by omega) (by omega)) rfl ?_
          refine RL.call rfl rfl Tryz.call12 rfl (Ctr.pick 4 [3, 0, 1, 2] rfl (r_crash (ks := [((X % 30 : Nat) : Int)]) (fl := (((X / 30 % 300 : Nat) : Int) - 100)) hx.2.2.1 (.tail _ (.tail _ (.tail _ (.tail _ (.head _))))) (.tail _ (.head _)) hkp ⟨by omega, by omega⟩)) (fun q2 => ?_)
          refine RL.nil ?_
          refine NX.seq ?_
          refine TR.seq ?_
          refine TR.region ?_
          refine RL.move rfl rfl rfl ?_
          refine RL.call rfl rfl Tryz.call7 rfl (Ctr.pick 4 [1, 0, 2, 3] rfl (p_open (f := 2) (show RelP q1.1 q2.1.a by rw [q2.2.2]; exact q1.2) (.tail _ (.head _)) (by decide))) (fun q3 => ?_)
          refine RL.move rfl rfl rfl ?_
          refine RL.extract rfl rfl rfl rfl ?_
          refine RL.extract rfl rfl rfl rfl ?_
          refine RL.extract rfl rfl rfl rfl ?_
          refine RL.assign rfl rfl rfl ?_
          refine RL.assign rfl rfl rfl ?_
          refine RL.nil ?_
          refine NX.seq ?_
          refine TR.region ?_
          refine RL.move rfl rfl rfl ?_
          refine RL.call rfl rfl Tryz.call8 rfl (Ctr.pick 5 [2, 0, 1, 3, 4] rfl (r_open (f := 2) q2.2.1 (.tail _ (.tail _ (.tail _ (.head _)))) (by decide))) (fun q4 => ?_)
          refine RL.move rfl rfl rfl ?_
          refine RL.extract rfl rfl rfl rfl ?_
          refine RL.extract rfl rfl rfl rfl ?_
          refine RL.extract rfl rfl rfl rfl ?_
          refine RL.assign rfl rfl rfl ?_
          refine RL.assign rfl rfl rfl ?_
          refine RL.nil ?_
          refine NX.off ?_
          refine NX.seq ?_
          refine TR.seq ?_
          have hsm := q3.2.2.same q4.2.2
          have hsl := q3.2.2.len
          have hb2 := used_one (B := q2.1.a.B) (n := 2) (by decide)
          have hus2 := q2.2.1.us
          have hrm2 := q2.2.1.rm
          refine TR.region ?_
          rcases Bool.eq_false_or_eq_true q4.1.1.a.off with hoff | hoff
          · skip
            refine RL.move rfl rfl rfl ?_
            refine RL.call rfl rfl Tryz.call19 rfl (Ctr.pick 6 [3, 0, 1, 2, 4, 5] rfl (p_read (n := 2) (show RelP q3.1.1 q4.1.1.a by rw [q4.2.1.2]; exact q3.2.1) (.tail _ (.tail _ (.tail _ (.tail _ (.tail _ (.head _)))))) (by decide))) (fun rd => ?_)
            refine RL.move rfl rfl rfl ?_
            refine RL.extract rfl rfl rfl rfl ?_
            refine RL.extract rfl rfl rfl rfl ?_
            refine RL.assign rfl rfl rfl ?_
            refine RL.assign rfl rfl rfl ?_
            refine RL.nil ?_
            refine NX.seq ?_
            refine TR.seq ?_
            refine TR.openP (rf_at (i := 2) rfl) (fun g hg => ?_)
            refine TR.weak (fun w hw => hw.allB_get (.tail _ (.tail _ (.tail _ (.head _)))) (rowsF_mem (n := 2) (by decide))) ?_
            refine TR.region ?_
            refine RL.move rfl rfl rfl ?_
            refine RL.bin rfl rfl rfl (BinV.to (d := false) BinV.eql (decide_eq_false (by rw [hoff]; decide))) rfl ?_
            refine RL.move rfl rfl rfl ?_
            refine RL.skip rfl rfl rfl ?_
            refine RL.skip rfl rfl rfl ?_
            refine RL.skip rfl rfl rfl ?_
            refine RL.skip rfl rfl rfl ?_
            refine RL.skip rfl rfl rfl ?_
            refine RL.skip rfl rfl rfl ?_
            refine RL.skip rfl rfl rfl ?_
            refine RL.skip rfl rfl rfl ?_
            refine RL.skip rfl rfl rfl ?_
            refine RL.pickF rfl rfl rfl rfl ?_
            refine RL.move rfl rfl rfl ?_
            refine RL.move rfl rfl rfl ?_
            refine RL.bin rfl rfl rfl (BinV.to (d := true) BinV.eql (decide_eq_true (by rw [hoff]; rfl))) rfl ?_
            refine RL.move rfl rfl rfl ?_
            refine RL.nilCheck rfl rfl rfl ?_
            refine RL.fieldAddr rfl fc_tf50_3 rfl rfl ?_
            refine RL.loadS rfl rfl (rf_cell (j := 3) (v := .bool true) (i := 2) rfl fc_ts4 (by show some (Value.bool q4.1.1.a.off) = _; rw [hoff])) rfl ?_
            refine RL.bin rfl rfl rfl (BinV.to (d := false) (BinV.neqB fc_tb4) (decide_eq_false (by simp))) rfl ?_
            refine RL.pickF rfl rfl rfl rfl ?_
            refine RL.nil ?_
            refine NX.seq ?_
            refine TR.condF rfl ?_
            refine TR.skip ?_
            refine NX.off ?_
            refine NX.seq ?_
            refine TR.region ?_
            refine RL.move rfl rfl rfl ?_
            refine RL.bin rfl rfl rfl (BinV.add ((x.i + 1 : Nat) : Int) (by omega) (by omega) (by omega)) rfl ?_
            refine RL.assign rfl rfl rfl ?_
            refine RL.nil ?_
            refine NX.roundP ⟨x.i + 1, q3.1.1, q4.1.1, q3.1.2.1, q4.1.2.1, ⟨2, q3.1.2.2.ps.length, false⟩, (openA q2.1.a 2).1⟩ ⟨by show x.i + 1 ≤ 14; omega, (show RelP q3.1.1 q4.1.1.a by rw [q4.2.1.2]; exact q3.2.1), q4.2.1.1, hsm.2.2, rfl, by show q3.1.2.2.ps.length ≤ 16777216 + (x.i + 1); omega⟩ (by show 14 - (x.i + 1) < _; omega) ⟨rfl, rfl, rfl, rfl, rfl, rfl, rfl, rfl, trivial⟩ (fun w hw => (by
                      have h9 : St w (LgB 59 z0.1 q3.1.2.1 ⟨2, q3.1.2.2.ps.length, false⟩ :: LgB 44 z1.1 q4.1.2.1 ⟨2, q4.1.2.2.ps.length, false⟩ :: DkB 62 z0.1 (q3.1.1) :: RfB 50 39 3 z1.1 (q4.1.1) :: M) (AllF q3.1.1.fs :: AllB (rowsF q4.1.1.a.B q4.1.1.x) :: F) := (hw.to 6 [3, 1, 0, 2] 14 [7, 4] rfl)
                      rw [← hsm.2.1] at h9
                      exact h9))
          · skip
            refine RL.move rfl rfl rfl ?_
            refine RL.call rfl rfl Tryz.call19 rfl (Ctr.pick 6 [3, 0, 1, 2, 4, 5] rfl (p_read (n := 2) (show RelP q3.1.1 q4.1.1.a by rw [q4.2.1.2]; exact q3.2.1) (.tail _ (.tail _ (.tail _ (.tail _ (.tail _ (.head _)))))) (by decide))) (fun rd => ?_)
            refine RL.move rfl rfl rfl ?_
            refine RL.extract rfl rfl rfl rfl ?_
            refine RL.extract rfl rfl rfl rfl ?_
            refine RL.assign rfl rfl rfl ?_
            refine RL.assign rfl rfl rfl ?_
            refine RL.nil ?_
            refine NX.seq ?_
            refine TR.seq ?_
            refine TR.openP (rf_at (i := 2) rfl) (fun g hg => ?_)
            refine TR.weak (fun w hw => hw.allB_get (.tail _ (.tail _ (.tail _ (.head _)))) (rowsF_mem (n := 2) (by decide))) ?_
            refine TR.region ?_
            refine RL.move rfl rfl rfl ?_
            refine RL.bin rfl rfl rfl (BinV.to (d := true) BinV.eql (decide_eq_true (by rw [hoff]; rfl))) rfl ?_
            refine RL.move rfl rfl rfl ?_
            refine RL.move rfl rfl rfl ?_
            refine RL.move rfl rfl rfl ?_
            refine RL.nilCheck rfl rfl rfl ?_
            refine RL.fieldAddr rfl fc_tf50_1 rfl rfl ?_
            refine RL.loadS rfl rfl (rf_cell (j := 1) (v := .slice q4.1.1.ba 64 64) (i := 2) rfl fc_ts29 rfl) rfl ?_
            refine RL.indexAddr rfl fc_tl29 fc_tz39 (congrArg (fun a => some (Value.slice a _ _)) hg) rfl (by decide) (by decide) rfl ?_
            refine RL.loadS rfl rfl (rf_row (n := 2) (u := 2) (i := 2) rfl hg fc_ts39 rfl (by decide)) rfl ?_
            refine RL.call rfl rfl Tryz.call20 rfl (Ctr.boolT (decide_eq_true (show (if q4.1.1.a.off = true then [] else q4.1.1.a.B 2) = q4.1.1.a.B 2 by rw [hoff]; rfl)) (sameB_spec (xs := (if q4.1.1.a.off = true then [] else q4.1.1.a.B 2)) (ys := q4.1.1.a.B 2) (.tail _ (.head _)) (.head _) (by rw [hoff]; have h7 := used_one (B := q4.1.1.a.B) (n := 2) (by decide); have h8 := q4.2.1.1.us; have h9 := q4.2.1.1.rm; show (q4.1.1.a.B 2).length ≤ _; omega))) (fun _ => ?_)
            refine RL.not rfl rfl rfl ?_
            refine RL.pickT rfl rfl rfl rfl ?_
            refine RL.move rfl rfl rfl ?_
            refine RL.move rfl rfl rfl ?_
            refine RL.bin rfl rfl rfl (BinV.to (d := false) BinV.eql (decide_eq_false (by rw [hoff]; decide))) rfl ?_
            refine RL.move rfl rfl rfl ?_
            refine RL.nilCheck rfl rfl rfl ?_
            refine RL.fieldAddr rfl fc_tf50_3 rfl rfl ?_
            refine RL.loadS rfl rfl (rf_cell (j := 3) (v := .bool false) (i := 2) rfl fc_ts4 (by show some (Value.bool q4.1.1.a.off) = _; rw [hoff])) rfl ?_
            refine RL.bin rfl rfl rfl (BinV.to (d := false) (BinV.neqB fc_tb4) (decide_eq_false (by simp))) rfl ?_
            refine RL.pickF rfl rfl rfl rfl ?_
            refine RL.nil ?_
            refine NX.seq ?_
            refine TR.condF rfl ?_
            refine TR.skip ?_
            refine NX.off ?_
            refine NX.seq ?_
            refine TR.region ?_
            refine RL.move rfl rfl rfl ?_
            refine RL.bin rfl rfl rfl (BinV.add ((x.i + 1 : Nat) : Int) (by omega) (by omega) (by omega)) rfl ?_
            refine RL.assign rfl rfl rfl ?_
            refine RL.nil ?_
            refine NX.roundP ⟨x.i + 1, q3.1.1, q4.1.1, q3.1.2.1, q4.1.2.1, ⟨2, q3.1.2.2.ps.length, false⟩, (openA q2.1.a 2).1⟩ ⟨by show x.i + 1 ≤ 14; omega, (show RelP q3.1.1 q4.1.1.a by rw [q4.2.1.2]; exact q3.2.1), q4.2.1.1, hsm.2.2, rfl, by show q3.1.2.2.ps.length ≤ 16777216 + (x.i + 1); omega⟩ (by show 14 - (x.i + 1) < _; omega) ⟨rfl, rfl, rfl, rfl, rfl, rfl, rfl, rfl, trivial⟩ (fun w hw => (by
                      have h9 : St w (LgB 59 z0.1 q3.1.2.1 ⟨2, q3.1.2.2.ps.length, false⟩ :: LgB 44 z1.1 q4.1.2.1 ⟨2, q4.1.2.2.ps.length, false⟩ :: DkB 62 z0.1 (q3.1.1) :: RfB 50 39 3 z1.1 (q4.1.1) :: M) (AllF q3.1.1.fs :: AllB (rowsF q4.1.1.a.B q4.1.1.x) :: F) := (hw.to 6 [3, 1, 0, 2] 14 [7, 4] rfl)
                      rw [← hsm.2.1] at h9
                      exact h9))
        · skip
          refine RL.bin rfl rfl rfl (BinV.to (d := false) BinV.eql (decide_eq_false (by decide))) rfl ?_
          refine RL.assign rfl rfl rfl ?_
          refine RL.nil ?_
          refine NX.seq ?_
          refine TR.condF rfl ?_
          refine TR.seq ?_
          refine TR.seq ?_
          refine TR.region ?_
          refine RL.bin rfl rfl rfl (BinV.to (d := false) BinV.eql (decide_eq_false (by decide))) rfl ?_
          refine RL.assign rfl rfl rfl ?_
          refine RL.nil ?_
          refine NX.seq ?_
          refine TR.condF rfl ?_
          refine TR.region ?_
          refine RL.bin rfl rfl rfl (BinV.to (d := true) BinV.eql (decide_eq_true rfl)) rfl ?_
          refine RL.assign rfl rfl rfl ?_
          refine RL.nil ?_
          refine NX.seq ?_
          refine TR.condT rfl ?_
          refine TR.seq ?_
          refine TR.region ?_
          refine RL.move rfl rfl rfl ?_
          refine RL.bin rfl rfl rfl (BinV.remK (a := X) (b := 30) (by decide)) rfl ?_
          refine RL.buildSlice rfl rfl (fc_bs22_1_0 _) rfl (fun b4 => ?_)
          refine RL.weak (fun w hw => St.boxArr (show St w (Box _ _ (ints [((X % 30 : Nat) : Int)]) :: _) _ from hw)) ?_
          refine RL.assign rfl rfl rfl ?_
          refine RL.nil ?_
          refine NX.seq ?_
          refine TR.seq ?_
          have hkp : IntsOk [((X % 30 : Nat) : Int)] := ⟨by show 1 ≤ _; decide, fun v hv => by rw [List.mem_singleton.1 hv]; omega⟩
          refine TR.region ?_
          refine RL.move rfl rfl rfl ?_
          refine RL.move rfl rfl rfl ?_
          refine RL.move rfl rfl rfl ?_
          refine RL.bin rfl rfl rfl (BinV.quo (by decide) ((X / 30 : Nat) : Int) (by rw [Int.tdiv_eq_ediv_of_nonneg (by omega)]; omega) (by omega) (by omega)) rfl ?_
          refine RL.bin rfl rfl rfl (BinV.remK (a := X / 30) (b := 300) (by decide)) rfl ?_
          refine RL.bin rfl rfl rfl (BinV.sub (((X / 30 % 300 : Nat) : Int) - 100) rfl (by omega) (by omega)) rfl ?_
          refine RL.call rfl rfl Tryz.call11 rfl (Ctr.pick 4 [2, 0, 1, 3] rfl (p_crash (ks := [((X % 30 : Nat) : Int)]) (fl := (((X / 30 % 300 : Nat) : Int) - 100)) hx.2.1 (.tail _ (.tail _ (.head _))) (.head _) hkp ⟨by omega, by omega⟩)) (fun q1 => ?_)
          refine RL.nil ?_
          refine NX.seq ?_
          refine TR.seq ?_
          refine TR.region ?_
          refine RL.move rfl rfl rfl ?_
          refine RL.move rfl rfl rfl ?_
          refine RL.move rfl rfl rfl ?_
          refine RL.bin rfl rfl rfl (BinV.quo (by decide) ((X / 30 : Nat) : Int) (by rw [Int.tdiv_eq_ediv_of_nonneg (by omega)]; omega) (by omega) (by omega)) rfl ?_
          refine RL.bin rfl rfl rfl (BinV.remK (a := X / 30) (b := 300) (by decide)) rfl ?_
          refine RL.bin rfl rfl rfl (BinV.sub (((X / 30 % 300 : Nat) : Int) - 100) rfl (by omega) (by omega)) rfl ?_
          refine RL.call rfl rfl Tryz.call12 rfl (Ctr.pick 4 [3, 0, 1, 2] rfl (r_crash (ks := [((X % 30 : Nat) : Int)]) (fl := (((X / 30 % 300 : Nat) : Int) - 100)) hx.2.2.1 (.tail _ (.tail _ (.tail _ (.tail _ (.head _))))) (.tail _ (.head _)) hkp ⟨by omega, by omega⟩)) (fun q2 => ?_)
          refine RL.nil ?_
          refine NX.seq ?_
          refine TR.seq ?_
          refine TR.region ?_
          refine RL.move rfl rfl rfl ?_
          refine RL.call rfl rfl Tryz.call7 rfl (Ctr.pick 4 [1, 0, 2, 3] rfl (p_open (f := 2) (show RelP q1.1 q2.1.a by rw [q2.2.2]; exact q1.2) (.tail _ (.head _)) (by decide))) (fun q3 => ?_)
          refine RL.move rfl rfl rfl ?_
          refine RL.extract rfl rfl rfl rfl ?_
          refine RL.extract rfl rfl rfl rfl ?_
          refine RL.extract rfl rfl rfl rfl ?_
          refine RL.assign rfl rfl rfl ?_
          refine RL.assign rfl rfl rfl ?_
          refine RL.nil ?_
          refine NX.seq ?_
          refine TR.region ?_
          refine RL.move rfl rfl rfl ?_
          refine RL.call rfl rfl Tryz.call8 rfl (Ctr.pick 5 [2, 0, 1, 3, 4] rfl (r_open (f := 2) q2.2.1 (.tail _ (.tail _ (.tail _ (.head _)))) (by decide))) (fun q4 => ?_)
          refine RL.move rfl rfl rfl ?_
          refine RL.extract rfl rfl rfl rfl ?_
          refine RL.extract rfl rfl rfl rfl ?_
          refine RL.extract rfl rfl rfl rfl ?_
          refine RL.assign rfl rfl rfl ?_
          refine RL.assign rfl rfl rfl ?_
          refine RL.nil ?_
          refine NX.off ?_
          refine NX.seq ?_
          refine TR.seq ?_
          have hsm := q3.2.2.same q4.2.2
          have hsl := q3.2.2.len
          have hb2 := used_one (B := q2.1.a.B) (n := 2) (by decide)
          have hus2 := q2.2.1.us
          have hrm2 := q2.2.1.rm
          refine TR.region ?_
          rcases Bool.eq_false_or_eq_true q4.1.1.a.off with hoff | hoff
          · skip
            refine RL.move rfl rfl rfl ?_
            refine RL.call rfl rfl Tryz.call19 rfl (Ctr.pick 6 [3, 0, 1, 2, 4, 5] rfl (p_read (n := 2) (show RelP q3.1.1 q4.1.1.a by rw [q4.2.1.2]; exact q3.2.1) (.tail _ (.tail _ (.tail _ (.tail _ (.tail _ (.head _)))))) (by decide))) (fun rd => ?_)
            refine RL.move rfl rfl rfl ?_
            refine RL.extract rfl rfl rfl rfl ?_
            refine RL.extract rfl rfl rfl rfl ?_
            refine RL.assign rfl rfl rfl ?_
            refine RL.assign rfl rfl rfl ?_
            refine RL.nil ?_
            refine NX.seq ?_
            refine TR.seq ?_
            refine TR.openP (rf_at (i := 2) rfl) (fun g hg => ?_)
            refine TR.weak (fun w hw => hw.allB_get (.tail _ (.tail _ (.tail _ (.head _)))) (rowsF_mem (n := 2) (by decide))) ?_
            refine TR.region ?_
            refine RL.move rfl rfl rfl ?_
            refine RL.bin rfl rfl rfl (BinV.to (d := false) BinV.eql (decide_eq_false (by rw [hoff]; decide))) rfl ?_
            refine RL.move rfl rfl rfl ?_
            refine RL.skip rfl rfl rfl ?_
            refine RL.skip rfl rfl rfl ?_
            refine RL.skip rfl rfl rfl ?_
            refine RL.skip rfl rfl rfl ?_
            refine RL.skip rfl rfl rfl ?_
            refine RL.skip rfl rfl rfl ?_
            refine RL.skip rfl rfl rfl ?_
            refine RL.skip rfl rfl rfl ?_
            refine RL.skip rfl rfl rfl ?_
            refine RL.pickF rfl rfl rfl rfl ?_
            refine RL.move rfl rfl rfl ?_
            refine RL.move rfl rfl rfl ?_
            refine RL.bin rfl rfl rfl (BinV.to (d := true) BinV.eql (decide_eq_true (by rw [hoff]; rfl))) rfl ?_
            refine RL.move rfl rfl rfl ?_
            refine RL.nilCheck rfl rfl rfl ?_
            refine RL.fieldAddr rfl fc_tf50_3 rfl rfl ?_
            refine RL.loadS rfl rfl (rf_cell (j := 3) (v := .bool true) (i := 2) rfl fc_ts4 (by show some (Value.bool q4.1.1.a.off) = _; rw [hoff])) rfl ?_
            refine RL.bin rfl rfl rfl (BinV.to (d := false) (BinV.neqB fc_tb4) (decide_eq_false (by simp))) rfl ?_
            refine RL.pickF rfl rfl rfl rfl ?_
            refine RL.nil ?_
            refine NX.seq ?_
            refine TR.condF rfl ?_
            refine TR.skip ?_
            refine NX.off ?_
            refine NX.seq ?_
            refine TR.region ?_
            refine RL.move rfl rfl rfl ?_
            refine RL.bin rfl rfl rfl (BinV.add ((x.i + 1 : Nat) : Int) (by omega) (by omega) (by omega)) rfl ?_
            refine RL.assign rfl rfl rfl ?_
            refine RL.nil ?_
            refine NX.roundP ⟨x.i + 1, q3.1.1, q4.1.1, q3.1.2.1, q4.1.2.1, ⟨2, q3.1.2.2.ps.length, false⟩, (openA q2.1.a 2).1⟩ ⟨by show x.i + 1 ≤ 14; omega, (show RelP q3.1.1 q4.1.1.a by rw [q4.2.1.2]; exact q3.2.1), q4.2.1.1, hsm.2.2, rfl, by show q3.1.2.2.ps.length ≤ 16777216 + (x.i + 1); omega⟩ (by show 14 - (x.i + 1) < _; omega) ⟨rfl, rfl, rfl, rfl, rfl, rfl, rfl, rfl, trivial⟩ (fun w hw => (by
                      have h9 : St w (LgB 59 z0.1 q3.1.2.1 ⟨2, q3.1.2.2.ps.length, false⟩ :: LgB 44 z1.1 q4.1.2.1 ⟨2, q4.1.2.2.ps.length, false⟩ :: DkB 62 z0.1 (q3.1.1) :: RfB 50 39 3 z1.1 (q4.1.1) :: M) (AllF q3.1.1.fs :: AllB (rowsF q4.1.1.a.B q4.1.1.x) :: F) := (hw.to 6 [3, 1, 0, 2] 14 [7, 4] rfl)
                      rw [← hsm.2.1] at h9
                      exact h9))
          · skip
            refine RL.move rfl rfl rfl ?_
            refine RL.call rfl rfl Tryz.call19 rfl (Ctr.pick 6 [3, 0, 1, 2, 4, 5] rfl (p_read (n := 2) (show RelP q3.1.1 q4.1.1.a by rw [q4.2.1.2]; exact q3.2.1) (.tail _ (.tail _ (.tail _ (.tail _ (.tail _ (.head _)))))) (by decide))) (fun rd => ?_)
            refine RL.move rfl rfl rfl ?_
            refine RL.extract rfl rfl rfl rfl ?_
            refine RL.extract rfl rfl rfl rfl ?_
            refine RL.assign rfl rfl rfl ?_
            refine RL.assign rfl rfl rfl ?_
            refine RL.nil ?_
            refine NX.seq ?_
            refine TR.seq ?_
            refine TR.openP (rf_at (i := 2) rfl) (fun g hg => ?_)
            refine TR.weak (fun w hw => hw.allB_get (.tail _ (.tail _ (.tail _ (.head _)))) (rowsF_mem (n := 2) (by decide))) ?_
            refine TR.region ?_
            refine RL.move rfl rfl rfl ?_
            refine RL.bin rfl rfl rfl (BinV.to (d := true) BinV.eql (decide_eq_true (by rw [hoff]; rfl))) rfl ?_
            refine RL.move rfl rfl rfl ?_
            refine RL.move rfl rfl rfl ?_
            refine RL.move rfl rfl rfl ?_
            refine RL.nilCheck rfl rfl rfl ?_
            refine RL.fieldAddr rfl fc_tf50_1 rfl rfl ?_
            refine RL.loadS rfl rfl (rf_cell (j := 1) (v := .slice q4.1.1.ba 64 64) (i := 2) rfl fc_ts29 rfl) rfl ?_
            refine RL.indexAddr rfl fc_tl29 fc_tz39 (congrArg (fun a => some (Value.slice a _ _)) hg) rfl (by decide) (by decide) rfl ?_
            refine RL.loadS rfl rfl (rf_row (n := 2) (u := 2) (i := 2) rfl hg fc_ts39 rfl (by decide)) rfl ?_
            refine RL.call rfl rfl Tryz.call20 rfl (Ctr.boolT (decide_eq_true (show (if q4.1.1.a.off = true then [] else q4.1.1.a.B 2) = q4.1.1.a.B 2 by rw [hoff]; rfl)) (sameB_spec (xs := (if q4.1.1.a.off = true then [] else q4.1.1.a.B 2)) (ys := q4.1.1.a.B 2) (.tail _ (.head _)) (.head _) (by rw [hoff]; have h7 := used_one (B := q4.1.1.a.B) (n := 2) (by decide); have h8 := q4.2.1.1.us; have h9 := q4.2.1.1.rm; show (q4.1.1.a.B 2).length ≤ _; omega))) (fun _ => ?_)
            refine RL.not rfl rfl rfl ?_
            refine RL.pickT rfl rfl rfl rfl ?_
            refine RL.move rfl rfl rfl ?_
            refine RL.move rfl rfl rfl ?_
            refine RL.bin rfl rfl rfl (BinV.to (d := false) BinV.eql (decide_eq_false (by rw [hoff]; decide))) rfl ?_
            refine RL.move rfl rfl rfl ?_
            refine RL.nilCheck rfl rfl rfl ?_
            refine RL.fieldAddr rfl fc_tf50_3 rfl rfl ?_
            refine RL.loadS rfl rfl (rf_cell (j := 3) (v := .bool false) (i := 2) rfl fc_ts4 (by show some (Value.bool q4.1.1.a.off) = _; rw [hoff])) rfl ?_
            refine RL.bin rfl rfl rfl (BinV.to (d := false) (BinV.neqB fc_tb4) (decide_eq_false (by simp))) rfl ?_
            refine RL.pickF rfl rfl rfl rfl ?_
            refine RL.nil ?_
            refine NX.seq ?_
            refine TR.condF rfl ?_
            refine TR.skip ?_
            refine NX.off ?_
            refine NX.seq ?_
            refine TR.region ?_
            refine RL.move rfl rfl rfl ?_
            refine RL.bin rfl rfl rfl (BinV.add ((x.i + 1 : Nat) : Int) (by omega) (by omega) (by omega)) rfl ?_
            refine RL.assign rfl rfl rfl ?_
            refine RL.nil ?_
            refine NX.roundP ⟨x.i + 1, q3.1.1, q4.1.1, q3.1.2.1, q4.1.2.1, ⟨2, q3.1.2.2.ps.length, false⟩, (openA q2.1.a 2).1⟩ ⟨by show x.i + 1 ≤ 14; omega, (show RelP q3.1.1 q4.1.1.a by rw [q4.2.1.2]; exact q3.2.1), q4.2.1.1, hsm.2.2, rfl, by show q3.1.2.2.ps.length ≤ 16777216 + (x.i + 1); omega⟩ (by show 14 - (x.i + 1) < _; omega) ⟨rfl, rfl, rfl, rfl, rfl, rfl, rfl, rfl, trivial⟩ (fun w hw => (by
                      have h9 : St w (LgB 59 z0.1 q3.1.2.1 ⟨2, q3.1.2.2.ps.length, false⟩ :: LgB 44 z1.1 q4.1.2.1 ⟨2, q4.1.2.2.ps.length, false⟩ :: DkB 62 z0.1 (q3.1.1) :: RfB 50 39 3 z1.1 (q4.1.1) :: M) (AllF q3.1.1.fs :: AllB (rowsF q4.1.1.a.B q4.1.1.x) :: F) := (hw.to 6 [3, 1, 0, 2] 14 [7, 4] rfl)
                      rw [← hsm.2.1] at h9
                      exact h9))
        · skip
          refine RL.bin rfl rfl rfl (BinV.to (d := false) BinV.eql (decide_eq_false (by decide))) rfl ?_
          refine RL.assign rfl rfl rfl ?_
          refine RL.nil ?_
          refine NX.seq ?_
          refine TR.condF rfl ?_
          refine TR.seq ?_
          refine TR.seq ?_
          refine TR.region ?_
          refine RL.bin rfl rfl rfl (BinV.to (d := false) BinV.eql (decide_eq_false (by decide))) rfl ?_
          refine RL.assign rfl rfl rfl ?_
          refine RL.nil ?_
          refine NX.seq ?_
          refine TR.condF rfl ?_
          refine TR.region ?_
          refine RL.bin rfl rfl rfl (BinV.to (d := false) BinV.eql (decide_eq_false (by decide))) rfl ?_
          refine RL.assign rfl rfl rfl ?_
          refine RL.nil ?_
          refine NX.seq ?_
          refine TR.condF rfl ?_
          refine TR.seq ?_
          refine TR.region ?_
          refine RL.bin rfl rfl rfl (BinV.to (d := true) BinV.eql (decide_eq_true rfl)) rfl ?_
          refine RL.assign rfl rfl rfl ?_
          refine RL.nil ?_
          refine NX.seq ?_
          refine TR.condT rfl ?_
          refine TR.seq ?_
          refine TR.region ?_
          refine RL.assign rfl rfl rfl ?_
          refine RL.nil ?_
          refine NX.seq ?_
          refine TR.seq ?_
          refine TR.region ?_
          refine RL.assign rfl rfl rfl ?_
          refine RL.nil ?_
          refine NX.seq ?_
          refine TR.seq ?_
          refine TR.region ?_
          refine RL.move rfl rfl rfl ?_
          refine RL.call rfl rfl Tryz.call7 rfl (Ctr.pick 4 [2, 0, 1, 3] rfl (p_open (f := 2) hx.2.1 (.tail _ (.head _)) (by decide))) (fun q3 => ?_)
          refine RL.move rfl rfl rfl ?_
          refine RL.extract rfl rfl rfl rfl ?_
          refine RL.extract rfl rfl rfl rfl ?_
          refine RL.extract rfl rfl rfl rfl ?_
          refine RL.assign rfl rfl rfl ?_
          refine RL.assign rfl rfl rfl ?_
          refine RL.assign rfl rfl rfl ?_
          refine RL.nil ?_
          refine NX.seq ?_
          refine TR.seq ?_
          refine TR.region ?_
          refine RL.move rfl rfl rfl ?_
          refine RL.call rfl rfl Tryz.call8 rfl (Ctr.pick 5 [4, 0, 1, 2, 3] rfl (r_open (f := 2) hx.2.2.1 (.tail _ (.tail _ (.tail _ (.tail _ (.tail _ (.head _)))))) (by decide))) (fun q4 => ?_)
          refine RL.move rfl rfl rfl ?_
          refine RL.extract rfl rfl rfl rfl ?_
          refine RL.extract rfl rfl rfl rfl ?_
          refine RL.extract rfl rfl rfl rfl ?_
          refine RL.assign rfl rfl rfl ?_
          refine RL.assign rfl rfl rfl ?_
          refine RL.assign rfl rfl rfl ?_
          refine RL.nil ?_
          refine NX.seq ?_
          refine TR.seq ?_
          have hsm := q3.2.2.same q4.2.2
          have hsl := q3.2.2.len
          have hb2 := used_one (B := x.r.a.B) (n := 2) (by decide)
          have hus2 := hx.2.2.1.us
          have hrm2 := hx.2.2.1.rm
          have hpl : ∀ p, p ∈ q3.1.2.2.ps → p.1.length ≤ 4611686018427387904 := fun p hp => by
            have h7 := q3.2.2.each hp
            omega
          refine TR.region ?_
          refine RL.move rfl rfl rfl ?_
          refine RL.move rfl rfl rfl ?_
          refine RL.call rfl rfl Tryz.call13 rfl (Ctr.boolT (decide_eq_true hsm.1) (sameL_spec (ps := q3.1.2.2.ps) (qs := q4.1.2.2.ps) (.tail _ (.tail _ (.tail _ (.head _)))) (.head _) (.tail _ (.tail _ (.tail _ (.tail _ (.head _))))) (.tail _ (.head _)) hpl (by omega))) (fun _ => ?_)
          refine RL.not rfl rfl rfl ?_
          refine RL.nil ?_
          refine NX.seq ?_
          refine TR.condF rfl ?_
          refine TR.skip ?_
          refine NX.off ?_
          refine NX.seq ?_
          refine TR.seq ?_
          have hsm := q3.2.2.same q4.2.2
          have hsl := q3.2.2.len
          have hb2 := used_one (B := x.r.a.B) (n := 2) (by decide)
          have hus2 := hx.2.2.1.us
          have hrm2 := hx.2.2.1.rm
          refine TR.region ?_
          rcases Bool.eq_false_or_eq_true q4.1.1.a.off with hoff | hoff
          · skip
            refine RL.move rfl rfl rfl ?_
            refine RL.call rfl rfl Tryz.call19 rfl (Ctr.pick 6 [3, 0, 1, 2, 4, 5] rfl (p_read (n := 2) (show RelP q3.1.1 q4.1.1.a by rw [q4.2.1.2]; exact q3.2.1) (.tail _ (.tail _ (.tail _ (.tail _ (.tail _ (.head _)))))) (by decide))) (fun rd => ?_)
            refine RL.move rfl rfl rfl ?_
            refine RL.extract rfl rfl rfl rfl ?_
            refine RL.extract rfl rfl rfl rfl ?_
            refine RL.assign rfl rfl rfl ?_
            refine RL.assign rfl rfl rfl ?_
            refine RL.nil ?_
            refine NX.seq ?_
            refine TR.seq ?_
            refine TR.openP (rf_at (i := 2) rfl) (fun g hg => ?_)
            refine TR.weak (fun w hw => hw.allB_get (.tail _ (.tail _ (.tail _ (.head _)))) (rowsF_mem (n := 2) (by decide))) ?_
            refine TR.region ?_
            refine RL.move rfl rfl rfl ?_
            refine RL.bin rfl rfl rfl (BinV.to (d := false) BinV.eql (decide_eq_false (by rw [hoff]; decide))) rfl ?_
            refine RL.move rfl rfl rfl ?_
            refine RL.skip rfl rfl rfl ?_
            refine RL.skip rfl rfl rfl ?_
            refine RL.skip rfl rfl rfl ?_
            refine RL.skip rfl rfl rfl ?_
            refine RL.skip rfl rfl rfl ?_
            refine RL.skip rfl rfl rfl ?_
            refine RL.skip rfl rfl rfl ?_
            refine RL.skip rfl rfl rfl ?_
            refine RL.skip rfl rfl rfl ?_
            refine RL.pickF rfl rfl rfl rfl ?_
            refine RL.move rfl rfl rfl ?_
            refine RL.move rfl rfl rfl ?_
            refine RL.bin rfl rfl rfl (BinV.to (d := true) BinV.eql (decide_eq_true (by rw [hoff]; rfl))) rfl ?_
            refine RL.move rfl rfl rfl ?_
            refine RL.nilCheck rfl rfl rfl ?_
            refine RL.fieldAddr rfl fc_tf50_3 rfl rfl ?_
            refine RL.loadS rfl rfl (rf_cell (j := 3) (v := .bool true) (i := 2) rfl fc_ts4 (by show some (Value.bool q4.1.1.a.off) = _; rw [hoff])) rfl ?_
            refine RL.bin rfl rfl rfl (BinV.to (d := false) (BinV.neqB fc_tb4) (decide_eq_false (by simp))) rfl ?_
            refine RL.pickF rfl rfl rfl rfl ?_
            refine RL.nil ?_
            refine NX.seq ?_
            refine TR.condF rfl ?_
            refine TR.skip ?_
            refine NX.off ?_
            refine NX.seq ?_
            refine TR.region ?_
            refine RL.move rfl rfl rfl ?_
            refine RL.bin rfl rfl rfl (BinV.add ((x.i + 1 : Nat) : Int) (by omega) (by omega) (by omega)) rfl ?_
            refine RL.assign rfl rfl rfl ?_
            refine RL.nil ?_
            refine NX.roundP ⟨x.i + 1, q3.1.1, q4.1.1, q3.1.2.1, q4.1.2.1, ⟨2, q3.1.2.2.ps.length, false⟩, (openA x.r.a 2).1⟩ ⟨by show x.i + 1 ≤ 14; omega, (show RelP q3.1.1 q4.1.1.a by rw [q4.2.1.2]; exact q3.2.1), q4.2.1.1, hsm.2.2, rfl, by show q3.1.2.2.ps.length ≤ 16777216 + (x.i + 1); omega⟩ (by show 14 - (x.i + 1) < _; omega) ⟨rfl, rfl, rfl, rfl, rfl, rfl, rfl, rfl, trivial⟩ (fun w hw => (by
                      have h9 : St w (LgB 59 z0.1 q3.1.2.1 ⟨2, q3.1.2.2.ps.length, false⟩ :: LgB 44 z1.1 q4.1.2.1 ⟨2, q4.1.2.2.ps.length, false⟩ :: DkB 62 z0.1 (q3.1.1) :: RfB 50 39 3 z1.1 (q4.1.1) :: M) (AllF q3.1.1.fs :: AllB (rowsF q4.1.1.a.B q4.1.1.x) :: F) := (hw.to 6 [3, 1, 0, 2] 11 [7, 4] rfl)
                      rw [← hsm.2.1] at h9
                      exact h9))
          · skip
            refine RL.move rfl rfl rfl ?_
            refine RL.call rfl rfl Tryz.call19 rfl (Ctr.pick 6 [3, 0, 1, 2, 4, 5] rfl (p_read (n := 2) (show RelP q3.1.1 q4.1.1.a by rw [q4.2.1.2]; exact q3.2.1) (.tail _ (.tail _ (.tail _ (.tail _ (.tail _ (.head _)))))) (by decide))) (fun rd => ?_)
            refine RL.move rfl rfl rfl ?_
            refine RL.extract rfl rfl rfl rfl ?_
            refine RL.extract rfl rfl rfl rfl ?_
            refine RL.assign rfl rfl rfl ?_
            refine RL.assign rfl rfl rfl ?_
            refine RL.nil ?_
            refine NX.seq ?_
            refine TR.seq ?_
            refine TR.openP (rf_at (i := 2) rfl) (fun g hg => ?_)
            refine TR.weak (fun w hw => hw.allB_get (.tail _ (.tail _ (.tail _ (.head _)))) (rowsF_mem (n := 2) (by decide))) ?_
            refine TR.region ?_
            refine RL.move rfl rfl rfl ?_
            refine RL.bin rfl rfl rfl (BinV.to (d := true) BinV.eql (decide_eq_true (by rw [hoff]; rfl))) rfl ?_
            refine RL.move rfl rfl rfl ?_
            refine RL.move rfl rfl rfl ?_
            refine RL.move rfl rfl rfl ?_
            refine RL.nilCheck rfl rfl rfl ?_
            refine RL.fieldAddr rfl fc_tf50_1 rfl rfl ?_
            refine RL.loadS rfl rfl (rf_cell (j := 1) (v := .slice q4.1.1.ba 64 64) (i := 2) rfl fc_ts29 rfl) rfl ?_
            refine RL.indexAddr rfl fc_tl29 fc_tz39 (congrArg (fun a => some (Value.slice a _ _)) hg) rfl (by decide) (by decide) rfl ?_
            refine RL.loadS rfl rfl (rf_row (n := 2) (u := 2) (i := 2) rfl hg fc_ts39 rfl (by decide)) rfl ?_
            refine RL.call rfl rfl Tryz.call20 rfl (Ctr.boolT (decide_eq_true (show (if q4.1.1.a.off = true then [] else q4.1.1.a.B 2) = q4.1.1.a.B 2 by rw [hoff]; rfl)) (sameB_spec (xs := (if q4.1.1.a.off = true then [] else q4.1.1.a.B 2)) (ys := q4.1.1.a.B 2) (.tail _ (.head _)) (.head _) (by rw [hoff]; have h7 := used_one (B := q4.1.1.a.B) (n := 2) (by decide); have h8 := q4.2.1.1.us; have h9 := q4.2.1.1.rm; show (q4.1.1.a.B 2).length ≤ _; omega))) (fun _ => ?_)
            refine RL.not rfl rfl rfl ?_
            refine RL.pickT rfl rfl rfl rfl ?_
            refine RL.move rfl rfl rfl ?_
            refine RL.move rfl rfl rfl ?_
            refine RL.bin rfl rfl rfl (BinV.to (d := false) BinV.eql (decide_eq_false (by rw [hoff]; decide))) rfl ?_
            refine RL.move rfl rfl rfl ?_
            refine RL.nilCheck rfl rfl rfl ?_
            refine RL.fieldAddr rfl fc_tf50_3 rfl rfl ?_
            refine RL.loadS rfl rfl (rf_cell (j := 3) (v := .bool false) (i := 2) rfl fc_ts4 (by show some (Value.bool q4.1.1.a.off) = _; rw [hoff])) rfl ?_
            refine RL.bin rfl rfl rfl (BinV.to (d := false) (BinV.neqB fc_tb4) (decide_eq_false (by simp))) rfl ?_
            refine RL.pickF rfl rfl rfl rfl ?_
            refine RL.nil ?_
            refine NX.seq ?_
            refine TR.condF rfl ?_
            refine TR.skip ?_
            refine NX.off ?_
            refine NX.seq ?_
            refine TR.region ?_
            refine RL.move rfl rfl rfl ?_
            refine RL.bin rfl rfl rfl (BinV.add ((x.i + 1 : Nat) : Int) (by omega) (by omega) (by omega)) rfl ?_
            refine RL.assign rfl rfl rfl ?_
            refine RL.nil ?_
            refine NX.roundP ⟨x.i + 1, q3.1.1, q4.1.1, q3.1.2.1, q4.1.2.1, ⟨2, q3.1.2.2.ps.length, false⟩, (openA x.r.a 2).1⟩ ⟨by show x.i + 1 ≤ 14; omega, (show RelP q3.1.1 q4.1.1.a by rw [q4.2.1.2]; exact q3.2.1), q4.2.1.1, hsm.2.2, rfl, by show q3.1.2.2.ps.length ≤ 16777216 + (x.i + 1); omega⟩ (by show 14 - (x.i + 1) < _; omega) ⟨rfl, rfl, rfl, rfl, rfl, rfl, rfl, rfl, trivial⟩ (fun w hw => (by
                      have h9 : St w (LgB 59 z0.1 q3.1.2.1 ⟨2, q3.1.2.2.ps.length, false⟩ :: LgB 44 z1.1 q4.1.2.1 ⟨2, q4.1.2.2.ps.length, false⟩ :: DkB 62 z0.1 (q3.1.1) :: RfB 50 39 3 z1.1 (q4.1.1) :: M) (AllF q3.1.1.fs :: AllB (rowsF q4.1.1.a.B q4.1.1.x) :: F) := (hw.to 6 [3, 1, 0, 2] 11 [7, 4] rfl)
                      rw [← hsm.2.1] at h9
                      exact h9))
        · skip
          refine RL.bin rfl rfl rfl (BinV.to (d := false) BinV.eql (decide_eq_false (by omega))) rfl ?_
          refine RL.assign rfl rfl rfl ?_
          refine RL.nil ?_
          refine NX.seq ?_
          refine TR.condF rfl ?_
          refine TR.seq ?_
          refine TR.seq ?_
          refine TR.region ?_
          refine RL.bin rfl rfl rfl (BinV.to (d := false) BinV.eql (decide_eq_false (by omega))) rfl ?_
          refine RL.assign rfl rfl rfl ?_
          refine RL.nil ?_
          refine NX.seq ?_
          refine TR.condF rfl ?_
          refine TR.region ?_
          refine RL.bin rfl rfl rfl (BinV.to (d := false) BinV.eql (decide_eq_false (by omega))) rfl ?_
          refine RL.assign rfl rfl rfl ?_
          refine RL.nil ?_
          refine NX.seq ?_
          refine TR.condF rfl ?_
          refine TR.seq ?_
          refine TR.region ?_
          refine RL.bin rfl rfl rfl (BinV.to (d := false) BinV.eql (decide_eq_false (by omega))) rfl ?_
          refine RL.assign rfl rfl rfl ?_
          refine RL.nil ?_
          refine NX.seq ?_
          refine TR.condF rfl ?_
          refine TR.seq ?_
          refine TR.seq ?_
          refine TR.region ?_
          refine RL.move rfl rfl rfl ?_
          refine RL.bin rfl rfl rfl (BinV.eqlPtrNil fc_tp28) rfl ?_
          refine RL.move rfl rfl rfl ?_
          refine RL.skip rfl rfl rfl ?_
          refine RL.skip rfl rfl rfl ?_
          refine RL.pickT rfl rfl rfl rfl ?_
          refine RL.nil ?_
          refine NX.seq ?_
          refine TR.condT rfl ?_
          refine TR.exit ?_
          refine NX.exitThen ?_
          refine NX.exitOn rfl ?_
          refine NX.exitThen ?_
          refine NX.exitHere ?_
          refine NX.seq ?_
          refine TR.region ?_
          refine RL.move rfl rfl rfl ?_
          refine RL.bin rfl rfl rfl (BinV.add ((x.i + 1 : Nat) : Int) (by omega) (by omega) (by omega)) rfl ?_
          refine RL.assign rfl rfl rfl ?_
          refine RL.nil ?_
          refine NX.roundP ⟨x.i + 1, x.s, x.r, none, none, x.g, x.e⟩ ⟨by show x.i + 1 ≤ 14; omega, hx.2.1, hx.2.2.1, rfl, hx.2.2.2.2.1, by show x.g.n ≤ 16777216 + (x.i + 1); omega⟩ (by show 14 - (x.i + 1) < _; omega) ⟨rfl, rfl, rfl, rfl, rfl, rfl, rfl, rfl, trivial⟩ (fun w hw => (hw.to 4 [0, 1, 2, 3] 3 [1, 2] rfl))
      · skip
        refine RL.move rfl rfl rfl ?_
        refine RL.move rfl rfl rfl ?_
        refine RL.bin rfl rfl rfl (BinV.to (d := false) BinV.neq (decide_eq_false (fun e => e rfl))) rfl ?_
        refine RL.move rfl rfl rfl ?_
        refine RL.move rfl rfl rfl ?_
        refine RL.bin rfl rfl rfl (BinV.eqlPtrNil fc_tp28) rfl ?_
        refine RL.move rfl rfl rfl ?_
        refine RL.bin rfl rfl rfl (BinV.eqlPtrNil fc_tp33) rfl ?_
        refine RL.bin rfl rfl rfl (BinV.to (d := false) (BinV.neqB fc_tb4) (decide_eq_false (by simp))) rfl ?_
        refine RL.pickF rfl rfl rfl rfl ?_
        refine RL.nil ?_
        refine NX.seq ?_
        refine TR.condF rfl ?_
        refine TR.skip ?_
        refine NX.seq ?_
        refine TR.seq ?_
        refine TR.seq ?_
        refine TR.region ?_
        refine RL.move rfl rfl rfl ?_
        refine RL.move rfl rfl rfl ?_
        refine RL.indexAddr rfl fc_tl22 fc_tz3 (congrArg (fun a => some (Value.slice a _ _)) hpa) rfl (by omega) (by omega) rfl ?_
        refine RL.loadF rfl rfl (fun w K hF => run_loadCell1 (j := ((x.i : Nat) : Int).toNat * 1) (v := I xs[x.i]) (hF (CellsF pq.1 pq.2 (ints xs)) (.head _)) fc_ts3 (by rw [Nat.mul_one, Int.toNat_natCast]; exact ints_get hik)) rfl ?_
        refine RL.call rfl rfl Tryz.call4 rfl (around_spec (by decide) hxi.1 hxi.2) (fun r2 => ?_)
        obtain ⟨q9, hq⟩ := r2
        dsimp only
        refine RL.nil ?_
        refine NX.seq ?_
        refine TR.block ?_
        refine TR.seq ?_
        refine TR.region ?_
        rcases (by omega : q9 = 0 ∨ q9 = 1 ∨ q9 = 2 ∨ q9 = 3 ∨ 4 ≤ q9) with rfl | rfl | rfl | rfl | hq4
        · skip
          refine RL.bin rfl rfl rfl (BinV.to (d := true) BinV.eql (decide_eq_true rfl)) rfl ?_
          refine RL.assign rfl rfl rfl ?_
          refine RL.nil ?_
          refine NX.seq ?_
          refine TR.condT rfl ?_
          refine TR.seq ?_
          refine TR.region ?_
          refine RL.move rfl rfl rfl ?_
          refine RL.move rfl rfl rfl ?_
          refine RL.bin rfl rfl rfl (BinV.remK (a := X) (b := 5) (by decide)) rfl ?_
          refine RL.call rfl rfl Tryz.call9 rfl (Ctr.pick 4 [2, 0, 1, 3] rfl (p_arm (n := ((X % 5 : Nat) : Int)) hx.2.1 (.tail _ (.head _)) (by omega) (by omega))) (fun q1 => ?_)
          refine RL.nil ?_
          refine NX.seq ?_
          refine TR.region ?_
          refine RL.move rfl rfl rfl ?_
          refine RL.move rfl rfl rfl ?_
          refine RL.bin rfl rfl rfl (BinV.remK (a := X) (b := 5) (by decide)) rfl ?_
          refine RL.call rfl rfl Tryz.call10 rfl (Ctr.pick 4 [3, 0, 1, 2] rfl (r_arm (n := ((X % 5 : Nat) : Int)) hx.2.2.1 (.tail _ (.tail _ (.tail _ (.head _)))) (by omega) (by omega))) (fun q2 => ?_)
          refine RL.nil ?_
          refine NX.off ?_
          refine NX.seq ?_
          refine TR.seq ?_
          skip
          refine TR.region ?_
          rcases Bool.eq_false_or_eq_true q2.1.a.off with hoff | hoff
          · skip
            refine RL.move rfl rfl rfl ?_
            refine RL.call rfl rfl Tryz.call19 rfl (Ctr.pick 4 [1, 0, 2, 3] rfl (p_read (n := 2) (show RelP q1.1 q2.1.a by rw [q2.2.2]; exact q1.2) (.tail _ (.head _)) (by decide))) (fun rd => ?_)
            refine RL.move rfl rfl rfl ?_
            refine RL.extract rfl rfl rfl rfl ?_
            refine RL.extract rfl rfl rfl rfl ?_
            refine RL.assign rfl rfl rfl ?_
            refine RL.assign rfl rfl rfl ?_
            refine RL.nil ?_
            refine NX.seq ?_
            refine TR.seq ?_
            refine TR.openP (rf_at (i := 1) rfl) (fun g hg => ?_)
            refine TR.weak (fun w hw => hw.allB_get (.tail _ (.head _)) (rowsF_mem (n := 2) (by decide))) ?_
            refine TR.region ?_
            refine RL.move rfl rfl rfl ?_
            refine RL.bin rfl rfl rfl (BinV.to (d := false) BinV.eql (decide_eq_false (by rw [hoff]; decide))) rfl ?_
            refine RL.move rfl rfl rfl ?_
            refine RL.skip rfl rfl rfl ?_
            refine RL.skip rfl rfl rfl ?_
            refine RL.skip rfl rfl rfl ?_
            refine RL.skip rfl rfl rfl ?_
            refine RL.skip rfl rfl rfl ?_
            refine RL.skip rfl rfl rfl ?_
            refine RL.skip rfl rfl rfl ?_
            refine RL.skip rfl rfl rfl ?_
            refine RL.skip rfl rfl rfl ?_
            refine RL.pickF rfl rfl rfl rfl ?_
            refine RL.move rfl rfl rfl ?_
            refine RL.move rfl rfl rfl ?_
            refine RL.bin rfl rfl rfl (BinV.to (d := true) BinV.eql (decide_eq_true (by rw [hoff]; rfl))) rfl ?_
            refine RL.move rfl rfl rfl ?_
            refine RL.nilCheck rfl rfl rfl ?_
            refine RL.fieldAddr rfl fc_tf50_3 rfl rfl ?_
            refine RL.loadS rfl rfl (rf_cell (j := 3) (v := .bool true) (i := 1) rfl fc_ts4 (by show some (Value.bool q2.1.a.off) = _; rw [hoff])) rfl ?_
            refine RL.bin rfl rfl rfl (BinV.to (d := false) (BinV.neqB fc_tb4) (decide_eq_false (by simp))) rfl ?_
            refine RL.pickF rfl rfl rfl rfl ?_
            refine RL.nil ?_
            refine NX.seq ?_
            refine TR.condF rfl ?_
            refine TR.skip ?_
            refine NX.off ?_
            refine NX.seq ?_
            refine TR.region ?_
            refine RL.move rfl rfl rfl ?_
            refine RL.bin rfl rfl rfl (BinV.add ((x.i + 1 : Nat) : Int) (by omega) (by omega) (by omega)) rfl ?_
            refine RL.assign rfl rfl rfl ?_
            refine RL.nil ?_
            refine NX.roundP ⟨x.i + 1, q1.1, q2.1, some l, some l', x.g, x.e⟩ ⟨by show x.i + 1 ≤ 14; omega, (show RelP q1.1 q2.1.a by rw [q2.2.2]; exact q1.2), q2.2.1, rfl, hx.2.2.2.2.1, by show x.g.n ≤ 16777216 + (x.i + 1); omega⟩ (by show 14 - (x.i + 1) < _; omega) ⟨rfl, rfl, rfl, rfl, rfl, rfl, rfl, rfl, trivial⟩ (fun w hw => (hw.to 4 [2, 3, 0, 1] 7 [3, 2] rfl))
          · skip
            refine RL.move rfl rfl rfl ?_
            refine RL.call rfl rfl Tryz.call19 rfl (Ctr.pick 4 [1, 0, 2, 3] rfl (p_read (n := 2) (show RelP q1.1 q2.1.a by rw [q2.2.2]; exact q1.2) (.tail _ (.head _)) (by decide))) (fun rd => ?_)
            refine RL.move rfl rfl rfl ?_
            refine RL.extract rfl rfl rfl rfl ?_
            refine RL.extract rfl rfl rfl rfl ?_
            refine RL.assign rfl rfl rfl ?_
            refine RL.assign rfl rfl rfl ?_
            refine RL.nil ?_
            refine NX.seq ?_
            refine TR.seq ?_
            refine TR.openP (rf_at (i := 1) rfl) (fun g hg => ?_)
            refine TR.weak (fun w hw => hw.allB_get (.tail _ (.head _)) (rowsF_mem (n := 2) (by decide))) ?_
            refine TR.region ?_
            refine RL.move rfl rfl rfl ?_
            refine RL.bin rfl rfl rfl (BinV.to (d := true) BinV.eql (decide_eq_true (by rw [hoff]; rfl))) rfl ?_
            refine RL.move rfl rfl rfl ?_
            refine RL.move rfl rfl rfl ?_
            refine RL.move rfl rfl rfl ?_
            refine RL.nilCheck rfl rfl rfl ?_
            refine RL.fieldAddr rfl fc_tf50_1 rfl rfl ?_
            refine RL.loadS rfl rfl (rf_cell (j := 1) (v := .slice q2.1.ba 64 64) (i := 1) rfl fc_ts29 rfl) rfl ?_
            refine RL.indexAddr rfl fc_tl29 fc_tz39 (congrArg (fun a => some (Value.slice a _ _)) hg) rfl (by decide) (by decide) rfl ?_
            refine RL.loadS rfl rfl (rf_row (n := 2) (u := 2) (i := 1) rfl hg fc_ts39 rfl (by decide)) rfl ?_
            refine RL.call rfl rfl Tryz.call20 rfl (Ctr.boolT (decide_eq_true (show (if q2.1.a.off = true then [] else q2.1.a.B 2) = q2.1.a.B 2 by rw [hoff]; rfl)) (sameB_spec (xs := (if q2.1.a.off = true then [] else q2.1.a.B 2)) (ys := q2.1.a.B 2) (.tail _ (.head _)) (.head _) (by rw [hoff]; have h7 := used_one (B := q2.1.a.B) (n := 2) (by decide); have h8 := q2.2.1.us; have h9 := q2.2.1.rm; show (q2.1.a.B 2).length ≤ _; omega))) (fun _ => ?_)
            refine RL.not rfl rfl rfl ?_
            refine RL.pickT rfl rfl rfl rfl ?_
            refine RL.move rfl rfl rfl ?_
            refine RL.move rfl rfl rfl ?_
            refine RL.bin rfl rfl rfl (BinV.to (d := false) BinV.eql (decide_eq_false (by rw [hoff]; decide))) rfl ?_
            refine RL.move rfl rfl rfl ?_
            refine RL.nilCheck rfl rfl rfl ?_
            refine RL.fieldAddr rfl fc_tf50_3 rfl rfl ?_
            refine RL.loadS rfl rfl (rf_cell (j := 3) (v := .bool false) (i := 1) rfl fc_ts4 (by show some (Value.bool q2.1.a.off) = _; rw [hoff])) rfl ?_
            refine RL.bin rfl rfl rfl (BinV.to (d := false) (BinV.neqB fc_tb4) (decide_eq_false (by simp))) rfl ?_
            refine RL.pickF rfl rfl rfl rfl ?_
            refine RL.nil ?_
            refine NX.seq ?_
            refine TR.condF rfl ?_
            refine TR.skip ?_
            refine NX.off ?_
            refine NX.seq ?_
            refine TR.region ?_
            refine RL.move rfl rfl rfl ?_
            refine RL.bin rfl rfl rfl (BinV.add ((x.i + 1 : Nat) : Int) (by omega) (by omega) (by omega)) rfl ?_
            refine RL.assign rfl rfl rfl ?_
            refine RL.nil ?_
            refine NX.roundP ⟨x.i + 1, q1.1, q2.1, some l, some l', x.g, x.e⟩ ⟨by show x.i + 1 ≤ 14; omega, (show RelP q1.1 q2.1.a by rw [q2.2.2]; exact q1.2), q2.2.1, rfl, hx.2.2.2.2.1, by show x.g.n ≤ 16777216 + (x.i + 1); omega⟩ (by show 14 - (x.i + 1) < _; omega) ⟨rfl, rfl, rfl, rfl, rfl, rfl, rfl, rfl, trivial⟩ (fun w hw => (hw.to 4 [2, 3, 0, 1] 7 [3, 2] rfl))
        · skip
          refine RL.bin rfl rfl rfl (BinV.to (d := false) BinV.eql (decide_eq_false (by decide))) rfl ?_
          refine RL.assign rfl rfl rfl ?_
          refine RL.nil ?_
          refine NX.seq ?_
          refine TR.condF rfl ?_
          refine TR.seq ?_
          refine TR.seq ?_
          refine TR.region ?_
          refine RL.bin rfl rfl rfl (BinV.to (d := true) BinV.eql (decide_eq_true rfl)) rfl ?_
          refine RL.assign rfl rfl rfl ?_
          refine RL.nil ?_
          refine NX.seq ?_
          refine TR.condT rfl ?_
          refine TR.skip ?_
          refine NX.seq ?_
          refine TR.condT rfl ?_
          refine TR.seq ?_
          refine TR.region ?_
          refine RL.move rfl rfl rfl ?_
          refine RL.bin rfl rfl rfl (BinV.remK (a := X) (b := 30) (by decide)) rfl ?_
          refine RL.buildSlice rfl rfl (fc_bs22_1_0 _) rfl (fun b5 => ?_)
          refine RL.weak (fun w hw => St.boxArr (show St w (Box _ _ (ints [((X % 30 : Nat) : Int)]) :: _) _ from hw)) ?_
          refine RL.assign rfl rfl rfl ?_
          refine RL.nil ?_
          refine NX.seq ?_
          refine TR.seq ?_
          have hkp : IntsOk [((X % 30 : Nat) : Int)] := ⟨by show 1 ≤ _; decide, fun v hv => by rw [List.mem_singleton.1 hv]; omega⟩
          refine TR.region ?_
          refine RL.move rfl rfl rfl ?_
          refine RL.move rfl rfl rfl ?_
          refine RL.move rfl rfl rfl ?_
          refine RL.bin rfl rfl rfl (BinV.quo (by decide) ((X / 30 : Nat) : Int) (by rw [Int.tdiv_eq_ediv_of_nonneg (by omega)]; omega) (by omega) (by omega)) rfl ?_
          refine RL.bin rfl rfl rfl (BinV.remK (a := X / 30) (b := 300) (by decide)) rfl ?_
          refine RL.bin rfl rfl rfl (BinV.sub (((X / 30 % 300 : Nat) : Int) - 100) rfl (by omega) (by omega)) rfl ?_
          refine RL.call rfl rfl Tryz.call11 rfl (Ctr.pick 4 [2, 0, 1, 3] rfl (p_crash (ks := [((X % 30 : Nat) : Int)]) (fl := (((X / 30 % 300 : Nat) : Int) - 100)) hx.2.1 (.tail _ (.tail _ (.head _))) (.head _) hkp ⟨by omega, by omega⟩)) (fun q1 => ?_)
          refine RL.nil ?_
          refine NX.seq ?_
          refine TR.seq ?_
          refine TR.region ?_
          refine RL.move rfl rfl rfl ?_
          refine RL.move rfl rfl rfl ?_
          refine RL.move rfl rfl rfl ?_
          refine RL.bin rfl rfl rfl (BinV.quo (by decide) ((X / 30 : Nat) : Int) (by rw [Int.tdiv_eq_ediv_of_nonneg (by omega)]; omega) (by omega) (by omega)) rfl ?_
          refine RL.bin rfl rfl rfl (BinV.remK (a := X / 30) (b := 300) (by decide)) rfl ?_
          refine RL.bin rfl rfl rfl (BinV.sub (((X / 30 % 300 : Nat) : Int) - 100) rfl (by omega) (by omega)) rfl ?_
          refine RL.call rfl rfl Tryz.call12 rfl (Ctr.pick 4 [3, 0, 1, 2] rfl (r_crash (ks := [((X % 30 : Nat) : Int)]) (fl := (((X / 30 % 300 : Nat) : Int) - 100)) hx.2.2.1 (.tail _ (.tail _ (.tail _ (.tail _ (.head _))))) (.tail _ (.head _)) hkp ⟨by omega, by omega⟩)) (fun q2 => ?_)
          refine RL.nil ?_
          refine NX.seq ?_
          refine TR.seq ?_
          refine TR.region ?_
          refine RL.move rfl rfl rfl ?_
          refine RL.call rfl rfl Tryz.call7 rfl (Ctr.pick 4 [1, 0, 2, 3] rfl (p_open (f := 2) (show RelP q1.1 q2.1.a by rw [q2.2.2]; exact q1.2) (.tail _ (.head _)) (by decide))) (fun q3 => ?_)
          refine RL.move rfl rfl rfl ?_
          refine RL.extract rfl rfl rfl rfl ?_
          refine RL.extract rfl rfl rfl rfl ?_
          refine RL.extract rfl rfl rfl rfl ?_
          refine RL.assign rfl rfl rfl ?_
          refine RL.assign rfl rfl rfl ?_
          refine RL.nil ?_
          refine NX.seq ?_
          refine TR.region ?_
          refine RL.move rfl rfl rfl ?_
          refine RL.call rfl rfl Tryz.call8 rfl (Ctr.pick 5 [2, 0, 1, 3, 4] rfl (r_open (f := 2) q2.2.1 (.tail _ (.tail _ (.tail _ (.head _)))) (by decide))) (fun q4 => ?_)
          refine RL.move rfl rfl rfl ?_
          refine RL.extract rfl rfl rfl rfl ?_
          refine RL.extract rfl rfl rfl rfl ?_
          refine RL.extract rfl rfl rfl rfl ?_
          refine RL.assign rfl rfl rfl ?_
          refine RL.assign rfl rfl rfl ?_
          refine RL.nil ?_
          refine NX.off ?_
          refine NX.seq ?_
          refine TR.seq ?_
          have hsm := q3.2.2.same q4.2.2
          have hsl := q3.2.2.len
          have hb2 := used_one (B := q2.1.a.B) (n := 2) (by decide)
          have hus2 := q2.2.1.us
          have hrm2 := q2.2.1.rm
          refine TR.region ?_
          rcases Bool.eq_false_or_eq_true q4.1.1.a.off with hoff | hoff
          · skip
            refine RL.move rfl rfl rfl ?_
            refine RL.call rfl rfl Tryz.call19 rfl (Ctr.pick 6 [3, 0, 1, 2, 4, 5] rfl (p_read (n := 2) (show RelP q3.1.1 q4.1.1.a by rw [q4.2.1.2]; exact q3.2.1) (.tail _ (.tail _ (.tail _ (.tail _ (.tail _ (.head _)))))) (by decide))) (fun rd => ?_)
            refine RL.move rfl rfl rfl ?_
            refine RL.extract rfl rfl rfl rfl ?_
            refine RL.extract rfl rfl rfl rfl ?_
            refine RL.assign rfl rfl rfl ?_
            refine RL.assign rfl rfl rfl ?_
            refine RL.nil ?_
            refine NX.seq ?_
            refine TR.seq ?_
            refine TR.openP (rf_at (i := 2) rfl) (fun g hg => ?_)
            refine TR.weak (fun w hw => hw.allB_get (.tail _ (.tail _ (.tail _ (.head _)))) (rowsF_mem (n := 2) (by decide))) ?_
            refine TR.region ?_
            refine RL.move rfl rfl rfl ?_
            refine RL.bin rfl rfl rfl (BinV.to (d := false) BinV.eql (decide_eq_false (by rw [hoff]; decide))) rfl ?_
            refine RL.move rfl rfl rfl ?_
            refine RL.skip rfl rfl rfl ?_
            refine RL.skip rfl rfl rfl ?_
            refine RL.skip rfl rfl rfl ?_
            refine RL.skip rfl rfl rfl ?_
            refine RL.skip rfl rfl rfl ?_
            refine RL.skip rfl rfl rfl ?_
            refine RL.skip rfl rfl rfl ?_
            refine RL.skip rfl rfl rfl ?_
            refine RL.skip rfl rfl rfl ?_
            refine RL.pickF rfl rfl rfl rfl ?_
            refine RL.move rfl rfl rfl ?_
            refine RL.move rfl rfl rfl ?_
            refine RL.bin rfl rfl rfl (BinV.to (d := true) BinV.eql (decide_eq_true (by rw [hoff]; rfl))) rfl ?_
            refine RL.move rfl rfl rfl ?_
            refine RL.nilCheck rfl rfl rfl ?_
            refine RL.fieldAddr rfl fc_tf50_3 rfl rfl ?_
            refine RL.loadS rfl rfl (rf_cell (j := 3) (v := .bool true) (i := 2) rfl fc_ts4 (by show some (Value.bool q4.1.1.a.off) = _; rw [hoff])) rfl ?_
            refine RL.bin rfl rfl rfl (BinV.to (d := false) (BinV.neqB fc_tb4) (decide_eq_false (by simp))) rfl ?_
            refine RL.pickF rfl rfl rfl rfl ?_
            refine RL.nil ?_
            refine NX.seq ?_
            refine TR.condF rfl ?_
            refine TR.skip ?_
            refine NX.off ?_
            refine NX.seq ?_
            refine TR.region ?_
            refine RL.move rfl rfl rfl ?_
            refine RL.bin rfl rfl rfl (BinV.add ((x.i + 1 : Nat) : Int) (by omega) (by omega) (by omega)) rfl ?_
            refine RL.assign rfl rfl rfl ?_
            refine RL.nil ?_
            refine NX.roundP ⟨x.i + 1, q3.1.1, q4.1.1, q3.1.2.1, q4.1.2.1, ⟨2, q3.1.2.2.ps.length, false⟩, (openA q2.1.a 2).1⟩ ⟨by show x.i + 1 ≤ 14; omega, (show RelP q3.1.1 q4.1.1.a by rw [q4.2.1.2]; exact q3.2.1), q4.2.1.1, hsm.2.2, rfl, by show q3.1.2.2.ps.length ≤ 16777216 + (x.i + 1); omega⟩ (by show 14 - (x.i + 1) < _; omega) ⟨rfl, rfl, rfl, rfl, rfl, rfl, rfl, rfl, trivial⟩ (fun w hw => (by
                      have h9 : St w (LgB 59 z0.1 q3.1.2.1 ⟨2, q3.1.2.2.ps.length, false⟩ :: LgB 44 z1.1 q4.1.2.1 ⟨2, q4.1.2.2.ps.length, false⟩ :: DkB 62 z0.1 (q3.1.1) :: RfB 50 39 3 z1.1 (q4.1.1) :: M) (AllF q3.1.1.fs :: AllB (rowsF q4.1.1.a.B q4.1.1.x) :: F) := (hw.to 6 [3, 1, 0, 2] 14 [7, 4] rfl)
                      rw [← hsm.2.1] at h9
                      exact h9))
          · skip
            refine RL.move rfl rfl rfl ?_
            refine RL.call rfl rfl Tryz.call19 rfl (Ctr.pick 6 [3, 0, 1, 2, 4, 5] rfl (p_read (n := 2) (show RelP q3.1.1 q4.1.1.a by rw [q4.2.1.2]; exact q3.2.1) (.tail _ (.tail _ (.tail _ (.tail _ (.tail _ (.head _)))))) (by decide))) (fun rd => ?_)
            refine RL.move rfl rfl rfl ?_
            refine RL.extract rfl rfl rfl rfl ?_
            refine RL.extract rfl rfl rfl rfl ?_
            refine RL.assign rfl rfl rfl ?_
            refine RL.assign rfl rfl rfl ?_
            refine RL.nil ?_
            refine NX.seq ?_
            refine TR.seq ?_
            refine TR.openP (rf_at (i := 2) rfl) (fun g hg => ?_)
            refine TR.weak (fun w hw => hw.allB_get (.tail _ (.tail _ (.tail _ (.head _)))) (rowsF_mem (n := 2) (by decide))) ?_
            refine TR.region ?_
            refine RL.move rfl rfl rfl ?_
            refine RL.bin rfl rfl rfl (BinV.to (d := true) BinV.eql (decide_eq_true (by rw [hoff]; rfl))) rfl ?_
            refine RL.move rfl rfl rfl ?_
            refine RL.move rfl rfl rfl ?_
            refine RL.move rfl rfl rfl ?_
            refine RL.nilCheck rfl rfl rfl ?_
            refine RL.fieldAddr rfl fc_tf50_1 rfl rfl ?_
            refine RL.loadS rfl rfl (rf_cell (j := 1) (v := .slice q4.1.1.ba 64 64) (i := 2) rfl fc_ts29 rfl) rfl ?_
            refine RL.indexAddr rfl fc_tl29 fc_tz39 (congrArg (fun a => some (Value.slice a _ _)) hg) rfl (by decide) (by decide) rfl ?_
            refine RL.loadS rfl rfl (rf_row (n := 2) (u := 2) (i := 2) rfl hg fc_ts39 rfl (by decide)) rfl ?_
            refine RL.call rfl rfl Tryz.call20 rfl (Ctr.boolT (decide_eq_true (show (if q4.1.1.a.off = true then [] else q4.1.1.a.B 2) = q4.1.1.a.B 2 by rw [hoff]; rfl)) (sameB_spec (xs := (if q4.1.1.a.off = true then [] else q4.1.1.a.B 2)) (ys := q4.1.1.a.B 2) (.tail _ (.head _)) (.head _) (by rw [hoff]; have h7 := used_one (B := q4.1.1.a.B) (n := 2) (by decide); have h8 := q4.2.1.1.us; have h9 := q4.2.1.1.rm; show (q4.1.1.a.B 2).length ≤ _; omega))) (fun _ => ?_)
            refine RL.not rfl rfl rfl ?_
            refine RL.pickT rfl rfl rfl rfl ?_
            refine RL.move rfl rfl rfl ?_
            refine RL.move rfl rfl rfl ?_
            refine RL.bin rfl rfl rfl (BinV.to (d := false) BinV.eql (decide_eq_false (by rw [hoff]; decide))) rfl ?_
            refine RL.move rfl rfl rfl ?_
            refine RL.nilCheck rfl rfl rfl ?_
            refine RL.fieldAddr rfl fc_tf50_3 rfl rfl ?_
            refine RL.loadS rfl rfl (rf_cell (j := 3) (v := .bool false) (i := 2) rfl fc_ts4 (by show some (Value.bool q4.1.1.a.off) = _; rw [hoff])) rfl ?_
            refine RL.bin rfl rfl rfl (BinV.to (d := false) (BinV.neqB fc_tb4) (decide_eq_false (by simp))) rfl ?_
            refine RL.pickF rfl rfl rfl rfl ?_
            refine RL.nil ?_
            refine NX.seq ?_
            refine TR.condF rfl ?_
            refine TR.skip ?_
            refine NX.off ?_
            refine NX.seq ?_
            refine TR.region ?_
            refine RL.move rfl rfl rfl ?_
            refine RL.bin rfl rfl rfl (BinV.add ((x.i + 1 : Nat) : Int) (by omega) (by omega) (by omega)) rfl ?_
            refine RL.assign rfl rfl rfl ?_
            refine RL.nil ?_
            refine NX.roundP ⟨x.i + 1, q3.1.1, q4.1.1, q3.1.2.1, q4.1.2.1, ⟨2, q3.1.2.2.ps.length, false⟩, (openA q2.1.a 2).1⟩ ⟨by show x.i + 1 ≤ 14; omega, (show RelP q3.1.1 q4.1.1.a by rw [q4.2.1.2]; exact q3.2.1), q4.2.1.1, hsm.2.2, rfl, by show q3.1.2.2.ps.length ≤ 16777216 + (x.i + 1); omega⟩ (by show 14 - (x.i + 1) < _; omega) ⟨rfl, rfl, rfl, rfl, rfl, rfl, rfl, rfl, trivial⟩ (fun w hw => (by
                      have h9 : St w (LgB 59 z0.1 q3.1.2.1 ⟨2, q3.1.2.2.ps.length, false⟩ :: LgB 44 z1.1 q4.1.2.1 ⟨2, q4.1.2.2.ps.length, false⟩ :: DkB 62 z0.1 (q3.1.1) :: RfB 50 39 3 z1.1 (q4.1.1) :: M) (AllF q3.1.1.fs :: AllB (rowsF q4.1.1.a.B q4.1.1.x) :: F) := (hw.to 6 [3, 1, 0, 2] 14 [7, 4] rfl)
                      rw [← hsm.2.1] at h9
                      exact h9))
        · skip
          refine RL.bin rfl rfl rfl (BinV.to (d := false) BinV.eql (decide_eq_false (by decide))) rfl ?_
          refine RL.assign rfl rfl rfl ?_
          refine RL.nil ?_
          refine NX.seq ?_
          refine TR.condF rfl ?_
          refine TR.seq ?_
          refine TR.seq ?_
          refine TR.region ?_
          refine RL.bin rfl rfl rfl (BinV.to (d := false) BinV.eql (decide_eq_false (by decide))) rfl ?_
          refine RL.assign rfl rfl rfl ?_
          refine RL.nil ?_
          refine NX.seq ?_
          refine TR.condF rfl ?_
          refine TR.region ?_
          refine RL.bin rfl rfl rfl (BinV.to (d := true) BinV.eql (decide_eq_true rfl)) rfl ?_
          refine RL.assign rfl rfl rfl ?_
          refine RL.nil ?_
          refine NX.seq ?_
          refine TR.condT rfl ?_
          refine TR.seq ?_
          refine TR.region ?_
          refine RL.move rfl rfl rfl ?_
          refine RL.bin rfl rfl rfl (BinV.remK (a := X) (b := 30) (by decide)) rfl ?_
          refine RL.buildSlice rfl rfl (fc_bs22_1_0 _) rfl (fun b6 => ?_)
          refine RL.weak (fun w hw => St.boxArr (show St w (Box _ _ (ints [((X % 30 : Nat) : Int)]) :: _) _ from hw)) ?_
          refine RL.assign rfl rfl rfl ?_
          refine RL.nil ?_
          refine NX.seq ?_
          refine TR.seq ?_
          have hkp : IntsOk [((X % 30 : Nat) : Int)] := ⟨by show 1 ≤ _; decide, fun v hv => by rw [List.mem_singleton.1 hv]; omega⟩
          refine TR.region ?_
          refine RL.move rfl rfl rfl ?_
          refine RL.move rfl rfl rfl ?_
          refine RL.move rfl rfl rfl ?_
          refine RL.bin rfl rfl rfl (BinV.quo (by decide) ((X / 30 : Nat) : Int) (by rw [Int.tdiv_eq_ediv_of_nonneg (by omega)]; omega) (by omega) (by omega)) rfl ?_
          refine RL.bin rfl rfl rfl (BinV.remK (a := X / 30) (b := 300) (by decide)) rfl ?_
          refine RL.bin rfl rfl rfl (BinV.sub (((X / 30 % 300 : Nat) : Int) - 100) rfl (by omega) (by omega)) rfl ?_
          refine RL.call rfl rfl Tryz.call11 rfl (Ctr.pick 4 [2, 0, 1, 3] rfl (p_crash (ks := [((X % 30 : Nat) : Int)]) (fl := (((X / 30 % 300 : Nat) : Int) - 100)) hx.2.1 (.tail _ (.tail _ (.head _))) (.head _) hkp ⟨by omega, by omega⟩)) (fun q1 => ?_)
          refine RL.nil ?_
          refine NX.seq ?_
          refine TR.seq ?_
          refine TR.region ?_
          refine RL.move rfl rfl rfl ?_
          refine RL.move rfl rfl rfl ?_
          refine RL.move rfl rfl rfl ?_
          refine RL.bin rfl rfl rfl (BinV.quo (by decide) ((X / 30 : Nat) : Int) (by rw [Int.tdiv_eq_ediv_of_nonneg (by omega)]; omega) (by omega) (by omega)) rfl ?_
          refine RL.bin rfl rfl rfl (BinV.remK (a := X / 30) (b := 300) (by decide)) rfl ?_
          refine RL.bin rfl rfl rfl (BinV.sub (((X / 30 % 300 : Nat) : Int) - 100) rfl (by omega) (by omega)) rfl ?_
          refine RL.call rfl rfl Tryz.call12 rfl (Ctr.pick 4 [3, 0, 1, 2] rfl (r_crash (ks := [((X % 30 : Nat) : Int)]) (fl := (((X / 30 % 300 : Nat) : Int) - 100)) hx.2.2.1 (.tail _ (.tail _ (.tail _ (.tail _ (.head _))))) (.tail _ (.head _)) hkp ⟨by omega, by omega⟩)) (fun q2 => ?_)
          refine RL.nil ?_
          refine NX.seq ?_
          refine TR.seq ?_
          refine TR.region ?_
          refine RL.move rfl rfl rfl ?_
          refine RL.call rfl rfl Tryz.call7 rfl (Ctr.pick 4 [1, 0, 2, 3] rfl (p_open (f := 2) (show RelP q1.1 q2.1.a by rw [q2.2.2]; exact q1.2) (.tail _ (.head _)) (by decide))) (fun q3 => ?_)
          refine RL.move rfl rfl rfl ?_
          refine RL.extract rfl rfl rfl rfl ?_
          refine RL.extract rfl rfl rfl rfl ?_
          refine RL.extract rfl rfl rfl rfl ?_
          refine RL.assign rfl rfl rfl ?_
          refine RL.assign rfl rfl rfl ?_
          refine RL.nil ?_
          refine NX.seq ?_
          refine TR.region ?_
          refine RL.move rfl rfl rfl ?_
          refine RL.call rfl rfl Tryz.call8 rfl (Ctr.pick 5 [2, 0, 1, 3, 4] rfl (r_open (f := 2) q2.2.1 (.tail _ (.tail _ (.tail _ (.head _)))) (by decide))) (fun q4 => ?_)
          refine RL.move rfl rfl rfl ?_
          refine RL.extract rfl rfl rfl rfl ?_
          refine RL.extract rfl rfl rfl rfl ?_
          refine RL.extract rfl rfl rfl rfl ?_
          refine RL.assign rfl rfl rfl ?_
          refine RL.assign rfl rfl rfl ?_
          refine RL.nil ?_
          refine NX.off ?_
          refine NX.seq ?_
          refine TR.seq ?_
          have hsm := q3.2.2.same q4.2.2
          have hsl := q3.2.2.len
          have hb2 := used_one (B := q2.1.a.B) (n := 2) (by decide)
          have hus2 := q2.2.1.us
          have hrm2 := q2.2.1.rm
          refine TR.region ?_
          rcases Bool.eq_false_or_eq_true q4.1.1.a.off with hoff | hoff
          · skip
            refine RL.move rfl rfl rfl ?_
            refine RL.call rfl rfl Tryz.call19 rfl (Ctr.pick 6 [3, 0, 1, 2, 4, 5] rfl (p_read (n := 2) (show RelP q3.1.1 q4.1.1.a by rw [q4.2.1.2]; exact q3.2.1) (.tail _ (.tail _ (.tail _ (.tail _ (.tail _ (.head _)))))) (by decide))) (fun rd => ?_)
            refine RL.move rfl rfl rfl ?_
            refine RL.extract rfl rfl rfl rfl ?_
            refine RL.extract rfl rfl rfl rfl ?_
            refine RL.assign rfl rfl rfl ?_
            refine RL.assign rfl rfl rfl ?_
            refine RL.nil ?_
            refine NX.seq ?_
            refine TR.seq ?_
            refine TR.openP (rf_at (i := 2) rfl) (fun g hg => ?_)
            refine TR.weak (fun w hw => hw.allB_get (.tail _ (.tail _ (.tail _ (.head _)))) (rowsF_mem (n := 2) (by decide))) ?_
            refine TR.region ?_
            refine RL.move rfl rfl rfl ?_
            refine RL.bin rfl rfl rfl (BinV.to (d := false) BinV.eql (decide_eq_false (by rw [hoff]; decide))) rfl ?_
            refine RL.move rfl rfl rfl ?_
            refine RL.skip rfl rfl rfl ?_
            refine RL.skip rfl rfl rfl ?_
            refine RL.skip rfl rfl rfl ?_
            refine RL.skip rfl rfl rfl ?_
            refine RL.skip rfl rfl rfl ?_
            refine RL.skip rfl rfl rfl ?_
            refine RL.skip rfl rfl rfl ?_
            refine RL.skip rfl rfl rfl ?_
            refine RL.skip rfl rfl rfl ?_
            refine RL.pickF rfl rfl rfl rfl ?_
            refine RL.move rfl rfl rfl ?_
            refine RL.move rfl rfl rfl ?_
            refine RL.bin rfl rfl rfl (BinV.to (d := true) BinV.eql (decide_eq_true (by rw [hoff]; rfl))) rfl ?_
            refine RL.move rfl rfl rfl ?_
            refine RL.nilCheck rfl rfl rfl ?_
            refine RL.fieldAddr rfl fc_tf50_3 rfl rfl ?_
            refine RL.loadS rfl rfl (rf_cell (j := 3) (v := .bool true) (i := 2) rfl fc_ts4 (by show some (Value.bool q4.1.1.a.off) = _; rw [hoff])) rfl ?_
            refine RL.bin rfl rfl rfl (BinV.to (d := false) (BinV.neqB fc_tb4) (decide_eq_false (by simp))) rfl ?_
            refine RL.pickF rfl rfl rfl rfl ?_
            refine RL.nil ?_
            refine NX.seq ?_
            refine TR.condF rfl ?_
            refine TR.skip ?_
            refine NX.off ?_
            refine NX.seq ?_
            refine TR.region ?_
            refine RL.move rfl rfl rfl ?_
            refine RL.bin rfl rfl rfl (BinV.add ((x.i + 1 : Nat) : Int) (by omega) (by omega) (by omega)) rfl ?_
            refine RL.assign rfl rfl rfl ?_
            refine RL.nil ?_
            refine NX.roundP ⟨x.i + 1, q3.1.1, q4.1.1, q3.1.2.1, q4.1.2.1, ⟨2, q3.1.2.2.ps.length, false⟩, (openA q2.1.a 2).1⟩ ⟨by show x.i + 1 ≤ 14; omega, (show RelP q3.1.1 q4.1.1.a by rw [q4.2.1.2]; exact q3.2.1), q4.2.1.1, hsm.2.2, rfl, by show q3.1.2.2.ps.length ≤ 16777216 + (x.i + 1); omega⟩ (by show 14 - (x.i + 1) < _; omega) ⟨rfl, rfl, rfl, rfl, rfl, rfl, rfl, rfl, trivial⟩ (fun w hw => (by
                      have h9 : St w (LgB 59 z0.1 q3.1.2.1 ⟨2, q3.1.2.2.ps.length, false⟩ :: LgB 44 z1.1 q4.1.2.1 ⟨2, q4.1.2.2.ps.length, false⟩ :: DkB 62 z0.1 (q3.1.1) :: RfB 50 39 3 z1.1 (q4.1.1) :: M) (AllF q3.1.1.fs :: AllB (rowsF q4.1.1.a.B q4.1.1.x) :: F) := (hw.to 6 [3, 1, 0, 2] 14 [7, 4] rfl)
                      rw [← hsm.2.1] at h9
                      exact h9))
          · skip
            refine RL.move rfl rfl rfl ?_
            refine RL.call rfl rfl Tryz.call19 rfl (Ctr.pick 6 [3, 0, 1, 2, 4, 5] rfl (p_read (n := 2) (show RelP q3.1.1 q4.1.1.a by rw [q4.2.1.2]; exact q3.2.1) (.tail _ (.tail _ (.tail _ (.tail _ (.tail _ (.head _)))))) (by decide))) (fun rd => ?_)
            refine RL.move rfl rfl rfl ?_
            refine RL.extract rfl rfl rfl rfl ?_
            refine RL.extract rfl rfl rfl rfl ?_
            refine RL.assign rfl rfl rfl ?_
            refine RL.assign rfl rfl rfl ?_
            refine RL.nil ?_
            refine NX.seq ?_
            refine TR.seq ?_
            refine TR.openP (rf_at (i := 2) rfl) (fun g hg => ?_)
            refine TR.weak (fun w hw => hw.allB_get (.tail _ (.tail _ (.tail _ (.head _)))) (rowsF_mem (n := 2) (by decide))) ?_
            refine TR.region ?_
            refine RL.move rfl rfl rfl ?_
            refine RL.bin rfl rfl rfl (BinV.to (d := true) BinV.eql (decide_eq_true (by rw [hoff]; rfl))) rfl ?_
            refine RL.move rfl rfl rfl ?_
            refine RL.move rfl rfl rfl ?_
            refine RL.move rfl rfl rfl ?_
            refine RL.nilCheck rfl rfl rfl ?_
            refine RL.fieldAddr rfl fc_tf50_1 rfl rfl ?_
            refine RL.loadS rfl rfl (rf_cell (j := 1) (v := .slice q4.1.1.ba 64 64) (i := 2) rfl fc_ts29 rfl) rfl ?_
            refine RL.indexAddr rfl fc_tl29 fc_tz39 (congrArg (fun a => some (Value.slice a _ _)) hg) rfl (by decide) (by decide) rfl ?_
            refine RL.loadS rfl rfl (rf_row (n := 2) (u := 2) (i := 2) rfl hg fc_ts39 rfl (by decide)) rfl ?_
            refine RL.call rfl rfl Tryz.call20 rfl (Ctr.boolT (decide_eq_true (show (if q4.1.1.a.off = true then [] else q4.1.1.a.B 2) = q4.1.1.a.B 2 by rw [hoff]; rfl)) (sameB_spec (xs := (if q4.1.1.a.off = true then [] else q4.1.1.a.B 2)) (ys := q4.1.1.a.B 2) (.tail _ (.head _)) (.head _) (by rw [hoff]; have h7 := used_one (B := q4.1.1.a.B) (n := 2) (by decide); have h8 := q4.2.1.1.us; have h9 := q4.2.1.1.rm; show (q4.1.1.a.B 2).length ≤ _; omega))) (fun _ => ?_)
            refine RL.not rfl rfl rfl ?_
            refine RL.pickT rfl rfl rfl rfl ?_
            refine RL.move rfl rfl rfl ?_
            refine RL.move rfl rfl rfl ?_
            refine RL.bin rfl rfl rfl (BinV.to (d := false) BinV.eql (decide_eq_false (by rw [hoff]; decide))) rfl ?_
            refine RL.move rfl rfl rfl ?_
            refine RL.nilCheck rfl rfl rfl ?_
            refine RL.fieldAddr rfl fc_tf50_3 rfl rfl ?_
            refine RL.loadS rfl rfl (rf_cell (j := 3) (v := .bool false) (i := 2) rfl fc_ts4 (by show some (Value.bool q4.1.1.a.off) = _; rw [hoff])) rfl ?_
            refine RL.bin rfl rfl rfl (BinV.to (d := false) (BinV.neqB fc_tb4) (decide_eq_false (by simp))) rfl ?_
            refine RL.pickF rfl rfl rfl rfl ?_
            refine RL.nil ?_
            refine NX.seq ?_
            refine TR.condF rfl ?_
            refine TR.skip ?_
            refine NX.off ?_
            refine NX.seq ?_
            refine TR.region ?_
            refine RL.move rfl rfl rfl ?_
            refine RL.bin rfl rfl rfl (BinV.add ((x.i + 1 : Nat) : Int) (by omega) (by omega) (by omega)) rfl ?_
            refine RL.assign rfl rfl rfl ?_
            refine RL.nil ?_
            refine NX.roundP ⟨x.i + 1, q3.1.1, q4.1.1, q3.1.2.1, q4.1.2.1, ⟨2, q3.1.2.2.ps.length, false⟩, (openA q2.1.a 2).1⟩ ⟨by show x.i + 1 ≤ 14; omega, (show RelP q3.1.1 q4.1.1.a by rw [q4.2.1.2]; exact q3.2.1), q4.2.1.1, hsm.2.2, rfl, by show q3.1.2.2.ps.length ≤ 16777216 + (x.i + 1); omega⟩ (by show 14 - (x.i + 1) < _; omega) ⟨rfl, rfl, rfl, rfl, rfl, rfl, rfl, rfl, trivial⟩ (fun w hw => (by
                      have h9 : St w (LgB 59 z0.1 q3.1.2.1 ⟨2, q3.1.2.2.ps.length, false⟩ :: LgB 44 z1.1 q4.1.2.1 ⟨2, q4.1.2.2.ps.length, false⟩ :: DkB 62 z0.1 (q3.1.1) :: RfB 50 39 3 z1.1 (q4.1.1) :: M) (AllF q3.1.1.fs :: AllB (rowsF q4.1.1.a.B q4.1.1.x) :: F) := (hw.to 6 [3, 1, 0, 2] 14 [7, 4] rfl)
                      rw [← hsm.2.1] at h9
                      exact h9))
        · skip
          refine RL.bin rfl rfl rfl (BinV.to (d := false) BinV.eql (decide_eq_false (by decide))) rfl ?_
          refine RL.assign rfl rfl rfl ?_
          refine RL.nil ?_
          refine NX.seq ?_
          refine TR.condF rfl ?_
          refine TR.seq ?_
          refine TR.seq ?_
          refine TR.region ?_
          refine RL.bin rfl rfl rfl (BinV.to (d := false) BinV.eql (decide_eq_false (by decide))) rfl ?_
          refine RL.assign rfl rfl rfl ?_
          refine RL.nil ?_
          refine NX.seq ?_
          refine TR.condF rfl ?_
          refine TR.region ?_
          refine RL.bin rfl rfl rfl (BinV.to (d := false) BinV.eql (decide_eq_false (by decide))) rfl ?_
          refine RL.assign rfl rfl rfl ?_
          refine RL.nil ?_
          refine NX.seq ?_
          refine TR.condF rfl ?_
          refine TR.seq ?_
          refine TR.region ?_
          refine RL.bin rfl rfl rfl (BinV.to (d := true) BinV.eql (decide_eq_true rfl)) rfl ?_
          refine RL.assign rfl rfl rfl ?_
          refine RL.nil ?_
          refine NX.seq ?_
          refine TR.condT rfl ?_
          refine TR.seq ?_
          refine TR.region ?_
          refine RL.assign rfl rfl rfl ?_
          refine RL.nil ?_
          refine NX.seq ?_
          refine TR.seq ?_
          refine TR.region ?_
          refine RL.assign rfl rfl rfl ?_
          refine RL.nil ?_
          refine NX.seq ?_
          refine TR.seq ?_
          refine TR.region ?_
          refine RL.move rfl rfl rfl ?_
          refine RL.call rfl rfl Tryz.call7 rfl (Ctr.pick 4 [2, 0, 1, 3] rfl (p_open (f := 2) hx.2.1 (.tail _ (.head _)) (by decide))) (fun q3 => ?_)
          refine RL.move rfl rfl rfl ?_
          refine RL.extract rfl rfl rfl rfl ?_
          refine RL.extract rfl rfl rfl rfl ?_
          refine RL.extract rfl rfl rfl rfl ?_
          refine RL.assign rfl rfl rfl ?_
          refine RL.assign rfl rfl rfl ?_
          refine RL.assign rfl rfl rfl ?_
          refine RL.nil ?_
          refine NX.seq ?_
          refine TR.seq ?_
          refine TR.region ?_
          refine RL.move rfl rfl rfl ?_
          refine RL.call rfl rfl Tryz.call8 rfl (Ctr.pick 5 [4, 0, 1, 2, 3] rfl (r_open (f := 2) hx.2.2.1 (.tail _ (.tail _ (.tail _ (.tail _ (.tail _ (.head _)))))) (by decide))) (fun q4 => ?_)
          refine RL.move rfl rfl rfl ?_
          refine RL.extract rfl rfl rfl rfl ?_
          refine RL.extract rfl rfl rfl rfl ?_
          refine RL.extract rfl rfl rfl rfl ?_
          refine RL.assign rfl rfl rfl ?_
          refine RL.assign rfl rfl rfl ?_
          refine RL.assign rfl rfl rfl ?_
          refine RL.nil ?_
          refine NX.seq ?_
          refine TR.seq ?_
          have hsm := q3.2.2.same q4.2.2
          have hsl := q3.2.2.len
          have hb2 := used_one (B := x.r.a.B) (n := 2) (by decide)
          have hus2 := hx.2.2.1.us
          have hrm2 := hx.2.2.1.rm
          have hpl : ∀ p, p ∈ q3.1.2.2.ps → p.1.length ≤ 4611686018427387904 := fun p hp => by
            have h7 := q3.2.2.each hp
            omega
          refine TR.region ?_
          refine RL.move rfl rfl rfl ?_
          refine RL.move rfl rfl rfl ?_
          refine RL.call rfl rfl Tryz.call13 rfl (Ctr.boolT (decide_eq_true hsm.1) (sameL_spec (ps := q3.1.2.2.ps) (qs := q4.1.2.2.ps) (.tail _ (.tail _ (.tail _ (.head _)))) (.head _) (.tail _ (.tail _ (.tail _ (.tail _ (.head _))))) (.tail _ (.head _)) hpl (by omega))) (fun _ => ?_)
          refine RL.not rfl rfl rfl ?_
          refine RL.nil ?_
          refine NX.seq ?_
          refine TR.condF rfl ?_
          refine TR.skip ?_
          refine NX.off ?_
          refine NX.seq ?_
          refine TR.seq ?_
          have hsm := q3.2.2.same q4.2.2
          have hsl := q3.2.2.len
          have hb2 := used_one (B := x.r.a.B) (n := 2) (by decide)
          have hus2 := hx.2.2.1.us
          have hrm2 := hx.2.2.1.rm
          refine TR.region ?_
          rcases Bool.eq_false_or_eq_true q4.1.1.a.off with hoff | hoff
          · skip
            refine RL.move rfl rfl rfl ?_
            refine RL.call rfl rfl Tryz.call19 rfl (Ctr.pick 6 [3, 0, 1, 2, 4, 5] rfl (p_read (n := 2) (show RelP q3.1.1 q4.1.1.a by rw [q4.2.1.2]; exact q3.2.1) (.tail _ (.tail _ (.tail _ (.tail _ (.tail _ (.head _)))))) (by decide))) (fun rd => ?_)
            refine RL.move rfl rfl rfl ?_
            refine RL.extract rfl rfl rfl rfl ?_
            refine RL.extract rfl rfl rfl rfl ?_
            refine RL.assign rfl rfl rfl ?_
            refine RL.assign rfl rfl rfl ?_
            refine RL.nil ?_
            refine NX.seq ?_
            refine TR.seq ?_
            refine TR.openP (rf_at (i := 2) rfl) (fun g hg => ?_)
            refine TR.weak (fun w hw => hw.allB_get (.tail _ (.tail _ (.tail _ (.head _)))) (rowsF_mem (n := 2) (by decide))) ?_
            refine TR.region ?_
            refine RL.move rfl rfl rfl ?_
            refine RL.bin rfl rfl rfl (BinV.to (d := false) BinV.eql (decide_eq_false (by rw [hoff]; decide))) rfl ?_
            refine RL.move rfl rfl rfl ?_
            refine RL.skip rfl rfl rfl ?_
            refine RL.skip rfl rfl rfl ?_
            refine RL.skip rfl rfl rfl ?_
            refine RL.skip rfl rfl rfl ?_
            refine RL.skip rfl rfl rfl ?_
            refine RL.skip rfl rfl rfl ?_
            refine RL.skip rfl rfl rfl ?_
            refine RL.skip rfl rfl rfl ?_
            refine RL.skip rfl rfl rfl ?_
            refine RL.pickF rfl rfl rfl rfl ?_
            refine RL.move rfl rfl rfl ?_
            refine RL.move rfl rfl rfl ?_
            refine RL.bin rfl rfl rfl (BinV.to (d := true) BinV.eql (decide_eq_true (by rw [hoff]; rfl))) rfl ?_
            refine RL.move rfl rfl rfl ?_
            refine RL.nilCheck rfl rfl rfl ?_
            refine RL.fieldAddr rfl fc_tf50_3 rfl rfl ?_
            refine RL.loadS rfl rfl (rf_cell (j := 3) (v := .bool true) (i := 2) rfl fc_ts4 (by show some (Value.bool q4.1.1.a.off) = _; rw [hoff])) rfl ?_
            refine RL.bin rfl rfl rfl (BinV.to (d := false) (BinV.neqB fc_tb4) (decide_eq_false (by simp))) rfl ?_
            refine RL.pickF rfl rfl rfl rfl ?_
            refine RL.nil ?_
            refine NX.seq ?_
            refine TR.condF rfl ?_
            refine TR.skip ?_
            refine NX.off ?_
            refine NX.seq ?_
            refine TR.region ?_
            refine RL.move rfl rfl rfl ?_
            refine RL.bin rfl rfl rfl (BinV.add ((x.i + 1 : Nat) : Int) (by omega) (by omega) (by omega)) rfl ?_
            refine RL.assign rfl rfl rfl ?_
            refine RL.nil ?_
            refine NX.roundP ⟨x.i + 1, q3.1.1, q4.1.1, q3.1.2.1, q4.1.2.1, ⟨2, q3.1.2.2.ps.length, false⟩, (openA x.r.a 2).1⟩ ⟨by show x.i + 1 ≤ 14; omega, (show RelP q3.1.1 q4.1.1.a by rw [q4.2.1.2]; exact q3.2.1), q4.2.1.1, hsm.2.2, rfl, by show q3.1.2.2.ps.length ≤ 16777216 + (x.i + 1); omega⟩ (by show 14 - (x.i + 1) < _; omega) ⟨rfl, rfl, rfl, rfl, rfl, rfl, rfl, rfl, trivial⟩ (fun w hw => (by
                      have h9 : St w (LgB 59 z0.1 q3.1.2.1 ⟨2, q3.1.2.2.ps.length, false⟩ :: LgB 44 z1.1 q4.1.2.1 ⟨2, q4.1.2.2.ps.length, false⟩ :: DkB 62 z0.1 (q3.1.1) :: RfB 50 39 3 z1.1 (q4.1.1) :: M) (AllF q3.1.1.fs :: AllB (rowsF q4.1.1.a.B q4.1.1.x) :: F) := (hw.to 6 [3, 1, 0, 2] 11 [7, 4] rfl)
                      rw [← hsm.2.1] at h9
                      exact h9))
          · skip
            refine RL.move rfl rfl rfl ?_
            refine RL.call rfl rfl Tryz.call19 rfl (Ctr.pick 6 [3, 0, 1, 2, 4, 5] rfl (p_read (n := 2) (show RelP q3.1.1 q4.1.1.a by rw [q4.2.1.2]; exact q3.2.1) (.tail _ (.tail _ (.tail _ (.tail _ (.tail _ (.head _)))))) (by decide))) (fun rd => ?_)
            refine RL.move rfl rfl rfl ?_
            refine RL.extract rfl rfl rfl rfl ?_
            refine RL.extract rfl rfl rfl rfl ?_
            refine RL.assign rfl rfl rfl ?_
            refine RL.assign rfl rfl rfl ?_
            refine RL.nil ?_
            refine NX.seq ?_
            refine TR.seq ?_
            refine TR.openP (rf_at (i := 2) rfl) (fun g hg => ?_)
            refine TR.weak (fun w hw => hw.allB_get (.tail _ (.tail _ (.tail _ (.head _)))) (rowsF_mem (n := 2) (by decide))) ?_
            refine TR.region ?_
            refine RL.move rfl rfl rfl ?_
            refine RL.bin rfl rfl rfl (BinV.to (d := true) BinV.eql (decide_eq_true (by rw [hoff]; rfl))) rfl ?_
            refine RL.move rfl rfl rfl ?_
            refine RL.move rfl rfl rfl ?_
            refine RL.move rfl rfl rfl ?_
            refine RL.nilCheck rfl rfl rfl ?_
            refine RL.fieldAddr rfl fc_tf50_1 rfl rfl ?_
            refine RL.loadS rfl rfl (rf_cell (j := 1) (v := .slice q4.1.1.ba 64 64) (i := 2) rfl fc_ts29 rfl) rfl ?_
            refine RL.indexAddr rfl fc_tl29 fc_tz39 (congrArg (fun a => some (Value.slice a _ _)) hg) rfl (by decide) (by decide) rfl ?_
            refine RL.loadS rfl rfl (rf_row (n := 2) (u := 2) (i := 2) rfl hg fc_ts39 rfl (by decide)) rfl ?_
            refine RL.call rfl rfl Tryz.call20 rfl (Ctr.boolT (decide_eq_true (show (if q4.1.1.a.off = true then [] else q4.1.1.a.B 2) = q4.1.1.a.B 2 by rw [hoff]; rfl)) (sameB_spec (xs := (if q4.1.1.a.off = true then [] else q4.1.1.a.B 2)) (ys := q4.1.1.a.B 2) (.tail _ (.head _)) (.head _) (by rw [hoff]; have h7 := used_one (B := q4.1.1.a.B) (n := 2) (by decide); have h8 := q4.2.1.1.us; have h9 := q4.2.1.1.rm; show (q4.1.1.a.B 2).length ≤ _; omega))) (fun _ => ?_)
            refine RL.not rfl rfl rfl ?_
            refine RL.pickT rfl rfl rfl rfl ?_
            refine RL.move rfl rfl rfl ?_
            refine RL.move rfl rfl rfl ?_
            refine RL.bin rfl rfl rfl (BinV.to (d := false) BinV.eql (decide_eq_false (by rw [hoff]; decide))) rfl ?_
            refine RL.move rfl rfl rfl ?_
            refine RL.nilCheck rfl rfl rfl ?_
            refine RL.fieldAddr rfl fc_tf50_3 rfl rfl ?_
            refine RL.loadS rfl rfl (rf_cell (j := 3) (v := .bool false) (i := 2) rfl fc_ts4 (by show some (Value.bool q4.1.1.a.off) = _; rw [hoff])) rfl ?_
            refine RL.bin rfl rfl rfl (BinV.to (d := false) (BinV.neqB fc_tb4) (decide_eq_false (by simp))) rfl ?_
            refine RL.pickF rfl rfl rfl rfl ?_
            refine RL.nil ?_
            refine NX.seq ?_
            refine TR.condF rfl ?_
            refine TR.skip ?_
            refine NX.off ?_
            refine NX.seq ?_
            refine TR.region ?_
            refine RL.move rfl rfl rfl ?_
            refine RL.bin rfl rfl rfl (BinV.add ((x.i + 1 : Nat) : Int) (by omega) (by omega) (by omega)) rfl ?_
            refine RL.assign rfl rfl rfl ?_
            refine RL.nil ?_
            refine NX.roundP ⟨x.i + 1, q3.1.1, q4.1.1, q3.1.2.1, q4.1.2.1, ⟨2, q3.1.2.2.ps.length, false⟩, (openA x.r.a 2).1⟩ ⟨by show x.i + 1 ≤ 14; omega, (show RelP q3.1.1 q4.1.1.a by rw [q4.2.1.2]; exact q3.2.1), q4.2.1.1, hsm.2.2, rfl, by show q3.1.2.2.ps.length ≤ 16777216 + (x.i + 1); omega⟩ (by show 14 - (x.i + 1) < _; omega) ⟨rfl, rfl, rfl, rfl, rfl, rfl, rfl, rfl, trivial⟩ (fun w hw => (by
                      have h9 : St w (LgB 59 z0.1 q3.1.2.1 ⟨2, q3.1.2.2.ps.length, false⟩ :: LgB 44 z1.1 q4.1.2.1 ⟨2, q4.1.2.2.ps.length, false⟩ :: DkB 62 z0.1 (q3.1.1) :: RfB 50 39 3 z1.1 (q4.1.1) :: M) (AllF q3.1.1.fs :: AllB (rowsF q4.1.1.a.B q4.1.1.x) :: F) := (hw.to 6 [3, 1, 0, 2] 11 [7, 4] rfl)
                      rw [← hsm.2.1] at h9
                      exact h9))
        · skip
          refine RL.bin rfl rfl rfl (BinV.to (d := false) BinV.eql (decide_eq_false (by omega))) rfl ?_
          refine RL.assign rfl rfl rfl ?_
          refine RL.nil ?_
          refine NX.seq ?_
          refine TR.condF rfl ?_
          refine TR.seq ?_
          refine TR.seq ?_
          refine TR.region ?_
          refine RL.bin rfl rfl rfl (BinV.to (d := false) BinV.eql (decide_eq_false (by omega))) rfl ?_
          refine RL.assign rfl rfl rfl ?_
          refine RL.nil ?_
          refine NX.seq ?_
          refine TR.condF rfl ?_
          refine TR.region ?_
          refine RL.bin rfl rfl rfl (BinV.to (d := false) BinV.eql (decide_eq_false (by omega))) rfl ?_
          refine RL.assign rfl rfl rfl ?_
          refine RL.nil ?_
          refine NX.seq ?_
          refine TR.condF rfl ?_
          refine TR.seq ?_
          refine TR.region ?_
          refine RL.bin rfl rfl rfl (BinV.to (d := false) BinV.eql (decide_eq_false (by omega))) rfl ?_
          refine RL.assign rfl rfl rfl ?_
          refine RL.nil ?_
          refine NX.seq ?_
          refine TR.condF rfl ?_
          refine TR.seq ?_
          refine TR.seq ?_
          refine TR.region ?_
          refine RL.move rfl rfl rfl ?_
          refine RL.bin rfl rfl rfl (BinV.eqlPtrNil fc_tp28) rfl ?_
          refine RL.move rfl rfl rfl ?_
          refine RL.move rfl rfl rfl ?_
          refine RL.bin rfl rfl rfl (BinV.eqlPtrNil fc_tp33) rfl ?_
          refine RL.pickF rfl rfl rfl rfl ?_
          refine RL.nil ?_
          refine NX.seq ?_
          refine TR.condF rfl ?_
          refine TR.skip ?_
          refine NX.seq ?_
          refine TR.seq ?_
          have hkx : IntsOk [((X : Nat) : Int)] := ⟨by show 1 ≤ _; decide, fun v hv => by rw [List.mem_singleton.1 hv]; omega⟩
          refine TR.region ?_
          refine RL.move rfl rfl rfl ?_
          refine RL.buildSlice rfl rfl (fc_bs22_1_0 _) rfl (fun b7 => ?_)
          refine RL.weak (fun w hw => St.boxArr (show St w (Box _ _ (ints [((X : Nat) : Int)]) :: _) _ from hw)) ?_
          refine RL.call rfl rfl Tryz.call14 rfl (records_one (xs := [((X : Nat) : Int)]) (.head _) hkx) (fun rc => ?_)
          have h0 := rc.2.1 (by simp)
          have hr1 := (rc.2.2 _ (List.getElem_mem h0)).1
          refine RL.openP (fun w hw => own_at (i := 0) rfl (listV_ne h0) hw) (fun g9 hg9 => ?_)
          have hget0 : (listV rc.1.ps)[0 + (0 : Int).toNat * 1]? = some (.slice rc.1.ps[0].2.oa rc.1.ps[0].1.length rc.1.ps[0].2.c) := listV_get h0
          refine RL.indexAddr rfl fc_tl29 fc_tz39 (congrArg (fun a => some (Value.slice a _ _)) hg9) rfl (by omega) (by omega) rfl ?_
          refine RL.loadS rfl rfl (own_one (i := 0) rfl hg9 fc_ts39 hget0) rfl ?_
          refine RL.assign rfl rfl rfl ?_
          refine RL.nil ?_
          refine NX.seq ?_
          refine TR.seq ?_
          refine TR.weak (fun w hw => hw.allB_get (.head _) (List.getElem_mem h0)) ?_
          refine TR.sub (E' := [(1, _), (6, _), (7, _), (8, _), (10, _), (11, _), (13, _), (14, _), (15, _), (19, _), (43, _), (44, _), (45, _), (46, _), (47, _), (48, _), (49, _), (50, _), (53, _), (54, _), (55, _), (56, _), (57, _), (58, _), (59, _), (60, _), (61, _), (62, _), (63, _), (64, _), (65, _), (66, _), (67, _), (68, _), (69, _), (70, _), (71, _), (72, _), (73, _), (74, _), (75, _), (76, _), (77, _), (78, _), (79, _), (80, _), (81, _), (82, _), (83, _), (84, _), (110, _), (111, _), (120, _), (121, _), (122, _), (152, _), (153, _)]) ⟨rfl, rfl, rfl, rfl, rfl, rfl, rfl, rfl, rfl, rfl, rfl, rfl, rfl, rfl, rfl, rfl, rfl, rfl, rfl, rfl, rfl, rfl, rfl, rfl, rfl, rfl, rfl, rfl, rfl, rfl, rfl, rfl, rfl, rfl, rfl, rfl, rfl, rfl, rfl, rfl, rfl, rfl, rfl, rfl, rfl, rfl, rfl, rfl, rfl, rfl, rfl, rfl, rfl, rfl, rfl, rfl, rfl, trivial⟩ ?_
          refine TR.draw mixed ?_
          apply AR.more [(0, _), (1, _), (3, _), (4, _)]
          refine AR.eff [0, 1, 3, 4] 2 [0, 1, 2, 3, 4, 5, 6, 7, 8, 9, 10, 11, 12, 13, 14, 15, 16, 17, 18, 19, 20, 21, 22, 23, 24] ⟨QOne.yes rfl rfl rfl (PV.move rfl), QOne.yes rfl rfl rfl (PV.move rfl), QOne.yes rfl rfl rfl (PV.move rfl), QOne.yes rfl rfl rfl (PV.move rfl), trivial⟩ rfl rfl rfl rfl rfl rfl rfl (EV.call rfl Tryz.call15 (Ctr.pick 5 [1, 3, 0, 2, 4] rfl (p_lapp (g := x.g) (x := rc.1.ps[0].1) hx.2.1 (.tail _ (.tail _ (.tail _ (.tail _ (.head _))))) (.head _) (by omega) (by rw [hx.2.2.2.2.1]; exact ⟨by decide, by decide⟩) (by omega)))) (fun q1 => ?_)
          refine AR.done [0, 1] rfl ?_
          refine AR.eff [3, 4] 5 [0, 1, 2, 3, 4, 5, 6, 7, 8, 9, 10, 11, 12, 13, 14, 15, 16, 17, 18, 19, 20, 21, 22, 23, 24] ⟨QOne.yes rfl rfl rfl (PV.move rfl), QOne.yes rfl rfl rfl (PV.move rfl), trivial⟩ rfl rfl rfl rfl rfl rfl rfl (EV.call rfl Tryz.call16 (Ctr.pick 5 [3, 4, 0, 1, 2] rfl (r_lapp (g := x.g) (x := rc.1.ps[0].1) hx.2.2.1 (.tail _ (.tail _ (.tail _ (.tail _ (.tail _ (.tail _ (.head _))))))) (.tail _ (.head _)) (by omega) (by omega)))) (fun q2 => ?_)
          refine AR.done [3, 4] rfl ?_
          apply AR.more [(6, .bool false), (7, .bool false), (8, _), (10, _), (11, _), (12, _), (13, _)]
          refine AR.eff [6, 7, 8, 10, 11, 12, 13] 9 [0, 1, 2, 3, 4, 5, 6, 7, 8, 9, 10, 11, 12, 13, 14, 15, 16, 17, 18, 19, 20, 21, 22, 23, 24] ⟨QOne.yes rfl rfl rfl (PV.bin rfl rfl (BinV.to (d := false) BinV.neq (decide_eq_false (fun e => e rfl)))), QOne.yes rfl rfl rfl (PV.move rfl), QOne.yes rfl rfl rfl (PV.move rfl), QOne.yes rfl rfl rfl (PV.move rfl), QOne.yes rfl rfl rfl (PV.nilCheck rfl), QOne.yes rfl rfl rfl (PV.fieldAddr fc_tf44_2 rfl), QOne.yes rfl rfl rfl (PV.load1 0 fc_ts3 rfl rfl rfl), trivial⟩ rfl rfl rfl rfl rfl rfl rfl (EV.call rfl Tryz.call17 (Ctr.pick 5 [2, 0, 1, 3, 4] rfl (llen_spec))) (fun _ => ?_)
          refine AR.done [8, 7, 6] rfl ?_
          apply AR.more [(14, .bool false), (15, .bool false), (16, .bool false), (17, _), (19, _), (20, _), (21, _), (22, _)]
          refine AR.eff [10, 11, 12, 13, 14, 15, 16, 17, 19, 20, 21, 22] 18 [0, 1, 2, 3, 4, 5, 6, 7, 8, 9, 10, 11, 12, 13, 14, 15, 16, 17, 18, 19, 20, 21, 22, 23, 24] ⟨QOne.yes rfl rfl rfl (PV.move rfl), QOne.yes rfl rfl rfl (PV.nilCheck rfl), QOne.yes rfl rfl rfl (PV.fieldAddr fc_tf44_2 rfl), QOne.yes rfl rfl rfl (PV.load1 1 fc_ts3 rfl rfl rfl), QOne.yes rfl rfl rfl (PV.bin rfl rfl (BinV.to (d := false) BinV.neq (decide_eq_false (fun e => e rfl)))), QOne.yes rfl rfl rfl (PV.pickF rfl rfl), QOne.yes rfl rfl rfl (PV.move rfl), QOne.yes rfl rfl rfl (PV.move rfl), QOne.yes rfl rfl rfl (PV.move rfl), QOne.yes rfl rfl rfl (PV.nilCheck rfl), QOne.yes rfl rfl rfl (PV.fieldAddr fc_tf44_3 rfl), QOne.yes rfl rfl rfl (PV.load1 1 fc_ts4 rfl rfl rfl), trivial⟩ rfl rfl rfl rfl rfl rfl rfl (EV.call rfl Tryz.call18 (lup_spec)) (fun _ => ?_)
          refine AR.done [17, 16, 15, 14, 13, 12, 11, 10] rfl ?_
          refine AR.more [(23, .bool false), (24, .bool false)] ?_
          refine AR.last [19, 20, 21, 22, 23, 24] [0, 1, 2, 3, 4, 5, 6, 7, 8, 9, 10, 11, 12, 13, 14, 15, 16, 17, 18, 19, 20, 21, 22, 23, 24] ⟨QOne.yes rfl rfl rfl (PV.move rfl), QOne.yes rfl rfl rfl (PV.nilCheck rfl), QOne.yes rfl rfl rfl (PV.fieldAddr fc_tf44_3 rfl), QOne.yes rfl rfl rfl (PV.load1 1 fc_ts4 rfl rfl rfl), QOne.yes rfl rfl rfl (PV.bin rfl rfl (BinV.to (d := false) (BinV.eqlB fc_tb4) (decide_eq_false (by simp)))), QOne.yes rfl rfl rfl (PV.pickF rfl rfl), trivial⟩ rfl rfl rfl ?_
          refine NX.sub (E' := [(1, _), (6, _), (7, _), (8, _), (10, _), (11, _), (13, _), (14, _), (15, _), (19, _), (43, _), (44, _), (45, _), (46, _), (47, _), (48, _), (49, _), (50, _), (53, _), (54, _), (55, _), (56, _), (57, _), (58, _), (59, _), (60, _), (61, _), (62, _), (63, _), (64, _), (65, _), (66, _), (67, _), (68, _), (69, _), (70, _), (71, _), (72, _), (73, _), (74, _), (75, _), (76, _), (77, _), (78, _), (79, _), (80, _), (81, _), (82, _), (83, _), (84, _), (85, _), (86, _), (87, _), (88, _), (89, _), (90, _), (91, _), (92, _), (93, _), (94, _), (95, _), (96, _), (97, _), (98, _), (99, _), (100, _), (101, _), (102, _), (103, _), (104, _), (105, _), (106, _), (107, _), (108, _), (109, _), (110, _), (111, _), (120, _), (121, _), (122, _), (152, _), (153, _)]) ⟨rfl, rfl, rfl, rfl, rfl, rfl, rfl, rfl, rfl, rfl, rfl, rfl, rfl, rfl, rfl, rfl, rfl, rfl, rfl, rfl, rfl, rfl, rfl, rfl, rfl, rfl, rfl, rfl, rfl, rfl, rfl, rfl, rfl, rfl, rfl, rfl, rfl, rfl, rfl, rfl, rfl, rfl, rfl, rfl, rfl, rfl, rfl, rfl, rfl, rfl, rfl, rfl, rfl, rfl, rfl, rfl, rfl, rfl, rfl, rfl, rfl, rfl, rfl, rfl, rfl, rfl, rfl, rfl, rfl, rfl, rfl, rfl, rfl, rfl, rfl, rfl, rfl, rfl, rfl, rfl, rfl, rfl, trivial⟩ ?_
          refine NX.seq ?_
          refine TR.condF rfl ?_
          refine TR.skip ?_
          refine NX.off ?_
          refine NX.seq ?_
          refine TR.seq ?_
          skip
          refine TR.region ?_
          rcases Bool.eq_false_or_eq_true q2.1.a.off with hoff | hoff
          · skip
            refine RL.move rfl rfl rfl ?_
            refine RL.call rfl rfl Tryz.call19 rfl (Ctr.pick 5 [3, 0, 1, 2, 4] rfl (p_read (n := 2) (show RelP q1.1 q2.1.a by rw [q2.2.2]; exact q1.2) (.tail _ (.head _)) (by decide))) (fun rd => ?_)
            refine RL.move rfl rfl rfl ?_
            refine RL.extract rfl rfl rfl rfl ?_
            refine RL.extract rfl rfl rfl rfl ?_
            refine RL.assign rfl rfl rfl ?_
            refine RL.assign rfl rfl rfl ?_
            refine RL.nil ?_
            refine NX.seq ?_
            refine TR.seq ?_
            refine TR.openP (rf_at (i := 3) rfl) (fun g hg => ?_)
            refine TR.weak (fun w hw => hw.allB_get (.tail _ (.head _)) (rowsF_mem (n := 2) (by decide))) ?_
            refine TR.region ?_
            refine RL.move rfl rfl rfl ?_
            refine RL.bin rfl rfl rfl (BinV.to (d := false) BinV.eql (decide_eq_false (by rw [hoff]; decide))) rfl ?_
            refine RL.move rfl rfl rfl ?_
            refine RL.skip rfl rfl rfl ?_
            refine RL.skip rfl rfl rfl ?_
            refine RL.skip rfl rfl rfl ?_
            refine RL.skip rfl rfl rfl ?_
            refine RL.skip rfl rfl rfl ?_
            refine RL.skip rfl rfl rfl ?_
            refine RL.skip rfl rfl rfl ?_
            refine RL.skip rfl rfl rfl ?_
            refine RL.skip rfl rfl rfl ?_
            refine RL.pickF rfl rfl rfl rfl ?_
            refine RL.move rfl rfl rfl ?_
            refine RL.move rfl rfl rfl ?_
            refine RL.bin rfl rfl rfl (BinV.to (d := true) BinV.eql (decide_eq_true (by rw [hoff]; rfl))) rfl ?_
            refine RL.move rfl rfl rfl ?_
            refine RL.nilCheck rfl rfl rfl ?_
            refine RL.fieldAddr rfl fc_tf50_3 rfl rfl ?_
            refine RL.loadS rfl rfl (rf_cell (j := 3) (v := .bool true) (i := 3) rfl fc_ts4 (by show some (Value.bool q2.1.a.off) = _; rw [hoff])) rfl ?_
            refine RL.bin rfl rfl rfl (BinV.to (d := false) (BinV.neqB fc_tb4) (decide_eq_false (by simp))) rfl ?_
            refine RL.pickF rfl rfl rfl rfl ?_
            refine RL.nil ?_
            refine NX.seq ?_
            refine TR.condF rfl ?_
            refine TR.skip ?_
            refine NX.off ?_
            refine NX.seq ?_
            refine TR.region ?_
            refine RL.move rfl rfl rfl ?_
            refine RL.bin rfl rfl rfl (BinV.add ((x.i + 1 : Nat) : Int) (by omega) (by omega) (by omega)) rfl ?_
            refine RL.assign rfl rfl rfl ?_
            refine RL.nil ?_
            refine NX.roundP ⟨x.i + 1, q1.1, q2.1, some l, some l', (lapG x.r.a x.g rc.1.ps[0].1), x.e⟩ ⟨by show x.i + 1 ≤ 14; omega, (show RelP q1.1 q2.1.a by rw [q2.2.2]; exact q1.2), q2.2.1, rfl, (lapG_f _ _ _).trans hx.2.2.2.2.1, by have := lapG_n x.r.a x.g rc.1.ps[0].1; show (lapG x.r.a x.g rc.1.ps[0].1).n ≤ 16777216 + (x.i + 1); omega⟩ (by show 14 - (x.i + 1) < _; omega) ⟨rfl, rfl, rfl, rfl, rfl, rfl, rfl, rfl, trivial⟩ (fun w hw => (hw.to 5 [1, 2, 0, 3] 10 [3, 2] rfl))
          · skip
            refine RL.move rfl rfl rfl ?_
            refine RL.call rfl rfl Tryz.call19 rfl (Ctr.pick 5 [3, 0, 1, 2, 4] rfl (p_read (n := 2) (show RelP q1.1 q2.1.a by rw [q2.2.2]; exact q1.2) (.tail _ (.head _)) (by decide))) (fun rd => ?_)
            refine RL.move rfl rfl rfl ?_
            refine RL.extract rfl rfl rfl rfl ?_
            refine RL.extract rfl rfl rfl rfl ?_
            refine RL.assign rfl rfl rfl ?_
            refine RL.assign rfl rfl rfl ?_
            refine RL.nil ?_
            refine NX.seq ?_
            refine TR.seq ?_
            refine TR.openP (rf_at (i := 3) rfl) (fun g hg => ?_)
            refine TR.weak (fun w hw => hw.allB_get (.tail _ (.head _)) (rowsF_mem (n := 2) (by decide))) ?_
            refine TR.region ?_
            refine RL.move rfl rfl rfl ?_
            refine RL.bin rfl rfl rfl (BinV.to (d := true) BinV.eql (decide_eq_true (by rw [hoff]; rfl))) rfl ?_
            refine RL.move rfl rfl rfl ?_
            refine RL.move rfl rfl rfl ?_
            refine RL.move rfl rfl rfl ?_
            refine RL.nilCheck rfl rfl rfl ?_
            refine RL.fieldAddr rfl fc_tf50_1 rfl rfl ?_
            refine RL.loadS rfl rfl (rf_cell (j := 1) (v := .slice q2.1.ba 64 64) (i := 3) rfl fc_ts29 rfl) rfl ?_
            refine RL.indexAddr rfl fc_tl29 fc_tz39 (congrArg (fun a => some (Value.slice a _ _)) hg) rfl (by decide) (by decide) rfl ?_
            refine RL.loadS rfl rfl (rf_row (n := 2) (u := 2) (i := 3) rfl hg fc_ts39 rfl (by decide)) rfl ?_
            refine RL.call rfl rfl Tryz.call20 rfl (Ctr.boolT (decide_eq_true (show (if q2.1.a.off = true then [] else q2.1.a.B 2) = q2.1.a.B 2 by rw [hoff]; rfl)) (sameB_spec (xs := (if q2.1.a.off = true then [] else q2.1.a.B 2)) (ys := q2.1.a.B 2) (.tail _ (.head _)) (.head _) (by rw [hoff]; have h7 := used_one (B := q2.1.a.B) (n := 2) (by decide); have h8 := q2.2.1.us; have h9 := q2.2.1.rm; show (q2.1.a.B 2).length ≤ _; omega))) (fun _ => ?_)
            refine RL.not rfl rfl rfl ?_
            refine RL.pickT rfl rfl rfl rfl ?_
            refine RL.move rfl rfl rfl ?_
            refine RL.move rfl rfl rfl ?_
            refine RL.bin rfl rfl rfl (BinV.to (d := false) BinV.eql (decide_eq_false (by rw [hoff]; decide))) rfl ?_
            refine RL.move rfl rfl rfl ?_
            refine RL.nilCheck rfl rfl rfl ?_
            refine RL.fieldAddr rfl fc_tf50_3 rfl rfl ?_
            refine RL.loadS rfl rfl (rf_cell (j := 3) (v := .bool false) (i := 3) rfl fc_ts4 (by show some (Value.bool q2.1.a.off) = _; rw [hoff])) rfl ?_
            refine RL.bin rfl rfl rfl (BinV.to (d := false) (BinV.neqB fc_tb4) (decide_eq_false (by simp))) rfl ?_
            refine RL.pickF rfl rfl rfl rfl ?_
            refine RL.nil ?_
            refine NX.seq ?_
            refine TR.condF rfl ?_
            refine TR.skip ?_
            refine NX.off ?_
            refine NX.seq ?_
            refine TR.region ?_
            refine RL.move rfl rfl rfl ?_
            refine RL.bin rfl rfl rfl (BinV.add ((x.i + 1 : Nat) : Int) (by omega) (by omega) (by omega)) rfl ?_
            refine RL.assign rfl rfl rfl ?_
            refine RL.nil ?_
            refine NX.roundP ⟨x.i + 1, q1.1, q2.1, some l, some l', (lapG x.r.a x.g rc.1.ps[0].1), x.e⟩ ⟨by show x.i + 1 ≤ 14; omega, (show RelP q1.1 q2.1.a by rw [q2.2.2]; exact q1.2), q2.2.1, rfl, (lapG_f _ _ _).trans hx.2.2.2.2.1, by have := lapG_n x.r.a x.g rc.1.ps[0].1; show (lapG x.r.a x.g rc.1.ps[0].1).n ≤ 16777216 + (x.i + 1); omega⟩ (by show 14 - (x.i + 1) < _; omega) ⟨rfl, rfl, rfl, rfl, rfl, rfl, rfl, rfl, trivial⟩ (fun w hw => (hw.to 5 [1, 2, 0, 3] 10 [3, 2] rfl))
    · skip
      refine TR.exit ?_
      refine NX.exitThen ?_
      refine NX.exitThen ?_
      refine NX.exitHere ?_
      refine NX.seq ?_
      refine TR.seq ?_
      refine TR.region ?_
      refine RL.move rfl rfl rfl ?_
      refine RL.move rfl rfl rfl ?_
      refine RL.bin rfl rfl rfl (BinV.to (d := true) BinV.eql (decide_eq_true rfl)) rfl ?_
      refine RL.move rfl rfl rfl ?_
      refine RL.call rfl rfl Tryz.call21 rfl (lives_spec) (fun _ => ?_)
      refine RL.pickT rfl rfl rfl rfl ?_
      refine RL.assign rfl rfl rfl ?_
      refine RL.nil ?_
      refine NX.seq ?_
      refine TR.ret ?_
      exact NX.ret1 () rfl rfl rfl (fun w hw => (hw.to 4 [] 2 [] rfl))
  · skip
    refine RL.skip rfl rfl rfl ?_
    refine RL.skip rfl rfl rfl ?_
    refine RL.pickF rfl rfl rfl rfl ?_
    refine RL.nil ?_
    refine NX.seq ?_
    refine TR.condF rfl ?_
    refine TR.exit ?_
    refine NX.exitThen ?_
    refine NX.exitThen ?_
    refine NX.exitHere ?_
    refine NX.seq ?_
    refine TR.seq ?_
    refine TR.region ?_
    refine RL.move rfl rfl rfl ?_
    refine RL.move rfl rfl rfl ?_
    refine RL.bin rfl rfl rfl (BinV.to (d := true) BinV.eql (decide_eq_true rfl)) rfl ?_
    refine RL.move rfl rfl rfl ?_
    refine RL.call rfl rfl Tryz.call21 rfl (lives_spec) (fun _ => ?_)
    refine RL.pickT rfl rfl rfl rfl ?_
    refine RL.assign rfl rfl rfl ?_
    refine RL.nil ?_
    refine NX.seq ?_
    refine TR.ret ?_
    exact NX.ret1 () rfl rfl rfl (fun w hw => (hw.to 4 [] 2 [] rfl))

end Go.Proofs.YtdlpaojkkekdlaaGreat

namespace Go.Proofs.YtdlpaojkkekdlaaGreat
open Go.ChangeShapes Go.WideShapes Go.ChangeAt Go.RowKit Go.GL Go.GL.Tree
theorem journalRuns_params : Tryz.f3.params = #[3, 22] := by kernel_rfl
set_option maxRecDepth 100000 in
theorem journalRuns_lifted (os : Os) (started : os.Started) (H : Type) (enc : TypeId × Value → H) :
    ReturnsInHanded {} Tryz.checked os 3 .any (Rows.journalRunsSpec.pre6 enc Tryz.prog Tryz.f3 Rows.journalRunsRow.domain false) (Rows.journalRunsSpec.post enc Tryz.prog Tryz.f3 false true false false) := by
  refine returnsInHanded_of_change (C := Tryz.checked) own_ started (by kernel_rfl) Tryz.func3
    (ChangeSpec.witness6 (enc := enc) (C := Tryz.checked) false ⟨#[], #[.int .i64 0, .slice none 0 0], []⟩ 8 (by kernel_rfl) (by kernel_rfl) (by kernel_rfl) (by kernel_rfl)) ?_
  intro W base args ds gs before hval0 hW _ _
  have hval : ∀ (j : Nat) t v, Tryz.f3.params[j]? = some t → args[j]? = some v → Value.okWide Tryz.prog W .any base t v := hval0
  have hW' := hW
  obtain ⟨p, q, hA0, hV, rfl, hfz, hnd⟩ := hW
  have hA : DataW.TrodAll enc Tryz.prog W 0 (fun _ => true) true Tryz.f3.params.toList args.toList ds p := hA0
  rw [journalRuns_params] at hA hval
  obtain ⟨v0, vs0, d0, ds0, p0, q0, hargs, rfl, rfl, h0, r0⟩ := trodAll_cons hA
  obtain ⟨v1, vs1, d1, ds1, p1, q1, rfl, rfl, rfl, h1, r1⟩ := trodAll_cons r0
  obtain ⟨rfl, rfl, rfl⟩ := trodAll_nil r1
  obtain rfl : args = #[v0, v1] := by cases args; simp_all
  obtain ⟨o0, rfl, _, _, ho0⟩ := open_int (isI64_is i64_3) (hval 0 3 v0 rfl rfl) h0
  have hoi0 : -9223372036854775808 ≤ o0 ∧ o0 ≤ 9223372036854775807 := by simpa [Lit.wf, IntKind.min, IntKind.max, IntKind.signed, IntKind.bits] using ho0
  obtain ⟨oa1, ca1, xs1, rfl, hxa1, hxl1, hxm1, hxr1⟩ := in_ints1 sl22 i64_3 one3 (hval 1 22 v1 rfl rfl) h1
  have hok1 : IntsOk xs1 := ⟨by simp [maxLen] at hxm1; omega, hxr1⟩
  have hwalk := law_run (W := W) (law_runs35 (n := o0) (xs := xs1) (oa := oa1) (ca := ca1) (M := []) (F := [OldF W, ArrF oa1 (ints xs1)]) hoi0 (.tail _ (.head _)) hok1) (fun φ hφ => by
      rcases List.mem_cons.1 hφ with e | hφ
      · subst e; exact hxa1
      cases hφ)
  exact hwalk.mono fun e W' ⟨he, hb⟩ => ⟨_, he, law_post (tb := 4) laidOut_ (by kernel_rfl) rfl (by kernel_rfl) (by kernel_rfl) rfl hW' hb⟩
theorem journalRuns_holds : Rows.JournalRunsSaid :=
  OpenClaim.holds_of_wide 3 Tryz.f3 rfl rfl rfl rfl rfl rfl rfl ⟨rfl, rfl, rfl, rfl, rfl⟩ rfl rfl rfl rfl rfl (by kernel_rfl) Tryz.func3 (by kernel_rfl)
    (of_decide_eq_true (by kernel_rfl)) (by unfold Func.isWrapper; first | (rw [if_pos (by decide +kernel)]; kernel_rfl) | (rw [if_neg (by decide +kernel)]; exact ⟨rfl, rfl⟩))
    (fun os started H enc _ => journalRuns_lifted os started H enc)
end Go.Proofs.YtdlpaojkkekdlaaGreat
