/- Lemmas and walks for the proof of RunsJ: texts one behind the other. No condition. -/
import Derived.Test.YtdlpaojkkekdlaaGreatPrsf
namespace Go.Proofs.YtdlpaojkkekdlaaGreat
open Go.GL
set_option linter.unusedVariables false
theorem ea_bs22_1_0 (x0 : Int) : BuildSV Tryz.prog 22 3 1 [(0, .int .i64 x0)] [.int .i64 x0] := fun w => by kernel_rfl
theorem ea_bv50_0_1_2_4 (x0 : Int) (x1 : Option Addr) (x1n x1c : Nat) (x2 : Option Addr) (x2n x2c : Nat) (x4 : Int) : BuildV Tryz.prog 50 [(0, .int .i64 x0), (1, .slice x1 x1n x1c), (2, .slice x2 x2n x2c), (4, .int .i64 x4)] (.agg #[.int .i64 x0, .slice x1 x1n x1c, .slice x2 x2n x2c, .bool false, .int .i64 x4]) := fun w => by kernel_rfl
theorem ea_mkI : tyMkZ Tryz.prog 22 3 = some (I 0) := by kernel_rfl
theorem ea_mkS : tyMkZ Tryz.prog 29 39 = some (.slice none 0 0) := by kernel_rfl
theorem ea_ni22 : noInt Tryz.prog 22 = true := by kernel_rfl
theorem ea_ni39 : noInt Tryz.prog 39 = true := by kernel_rfl
theorem ea_te3 : tyElem Tryz.prog 3 1 8 = true := by kernel_rfl
theorem ea_te5 : tyElem Tryz.prog 5 1 1 = true := by kernel_rfl
theorem ea_tf50_0 : fieldOff Tryz.prog 50 0 0 = true := by kernel_rfl
theorem ea_tf50_1 : fieldOff Tryz.prog 50 1 1 = true := by kernel_rfl
theorem ea_tf50_2 : fieldOff Tryz.prog 50 2 2 = true := by kernel_rfl
theorem ea_tf50_3 : fieldOff Tryz.prog 50 3 3 = true := by kernel_rfl
theorem ea_tf50_4 : fieldOff Tryz.prog 50 4 4 = true := by kernel_rfl
theorem ea_tl22 : tySlice Tryz.prog 22 3 = true := by kernel_rfl
theorem ea_tl29 : tySlice Tryz.prog 29 39 = true := by kernel_rfl
theorem ea_tl39 : tySlice Tryz.prog 39 5 = true := by kernel_rfl
theorem ea_ts22 : tyScalar Tryz.prog 22 = true := by kernel_rfl
theorem ea_ts29 : tyScalar Tryz.prog 29 = true := by kernel_rfl
theorem ea_ts3 : tyScalar Tryz.prog 3 = true := by kernel_rfl
theorem ea_ts39 : tyScalar Tryz.prog 39 = true := by kernel_rfl
theorem ea_ts4 : tyScalar Tryz.prog 4 = true := by kernel_rfl
theorem ea_tz3 : tySize Tryz.prog 3 1 = true := by kernel_rfl
theorem ea_tz39 : tySize Tryz.prog 39 1 = true := by kernel_rfl
theorem ea_tz5 : tySize Tryz.prog 5 1 = true := by kernel_rfl
theorem rused_spec {b : Nat} {s : Rf} {M : List HP} {F : List Fact} (hu : usedA s.a.B ≤ 4611686018427387904) : Ctr Tryz.prog 52 [.pointer (some ⟨b, 0, none⟩)] (Box b 50 (rfC (s)) :: OwnSl 39 1 (s).ba 64 64 (listV (rowsF (s).a.B (s).x)) :: OwnSl 3 1 (s).fa 64 64 (ints (firmF (s).a.D)) :: M) F Unit (fun _ => I (usedA s.a.B : Nat)) (fun _ => Box b 50 (rfC (s)) :: OwnSl 39 1 (s).ba 64 64 (listV (rowsF (s).a.B (s).x)) :: OwnSl 3 1 (s).fa 64 64 (ints (firmF (s).a.D)) :: M) (fun _ => F) := by
  refine Ctr.body Tryz.func52 rfl rfl ?_
  refine TR.seq ?_
  refine TR.openP (fun w hw => own_at (i := 1) (M := _ :: _ :: _ :: M) rfl (rowsF_ne _ _) hw) (fun gb hb => ?_)
  refine TR.openP (fun w hw => own_at (i := 2) (M := _ :: _ :: _ :: M) rfl (firmF_ne _) hw) (fun gf hf => ?_)
  refine TR.region ?_
  refine RL.assign rfl rfl rfl ?_
  refine RL.nil ?_
  refine NX.seq ?_
  refine TR.seq ?_
  refine TR.region ?_
  refine RL.assign rfl rfl rfl ?_
  refine RL.nil ?_
  refine NX.seq ?_
  refine TR.seq ?_
  refine TR.seq ?_
  refine TR.region ?_
  refine RL.assign rfl rfl rfl ?_
  refine RL.nil ?_
  refine NX.seq ?_
  refine TR.block ?_
  refine TR.loopP (ι := Nat) (fun x => x ≤ 64 ∧ True) (fun x => [(0, .pointer (some ⟨b, 0, none⟩)), (3, I (usedT s.a.B x : Nat)), (4, I (x : Nat))]) (fun x => Box b 50 (rfC s) :: OwnSl 39 1 s.ba 64 64 (listV (rowsF s.a.B s.x)) :: OwnSl 3 1 s.fa 64 64 (ints (firmF s.a.D)) :: M) (fun x => F) (fun x => 64 - x) 0 ⟨Nat.zero_le _, trivial⟩ ⟨rfl, rfl, rfl, trivial⟩ (fun w hw => (hw.to 3 [0, 1, 2] 0 [] rfl)) (fun x hx => ?_)
  refine TR.seq ?_
  refine TR.seq ?_
  refine TR.region ?_
  refine RL.move rfl rfl rfl ?_
  refine RL.bin rfl rfl rfl BinV.lss rfl ?_
  refine RL.nil ?_
  refine NX.seq ?_
  refine TR.cond rfl (fun h1 => ?_) (fun h1 => ?_)
  · skip
    have hlt : x < 64 := by have := of_decide_eq_true h1; omega
    have hmo := usedT_mono s.a.B (show x + 1 ≤ 64 by omega)
    rw [usedT_all] at hmo
    refine TR.skip ?_
    refine NX.seq ?_
    refine TR.seq ?_
    refine TR.block ?_
    refine TR.region ?_
    refine RL.move rfl rfl rfl ?_
    refine RL.move rfl rfl rfl ?_
    refine RL.nilCheck rfl rfl rfl ?_
    refine RL.fieldAddr rfl ea_tf50_1 rfl rfl ?_
    refine RL.load1 0 rfl ea_ts29 rfl rfl rfl rfl ?_
    refine RL.move rfl rfl rfl ?_
    refine RL.indexAddr rfl ea_tl29 ea_tz39 (congrArg (fun a => some (Value.slice a _ _)) hb) rfl (by omega) (by omega) rfl ?_
    refine RL.loadS rfl rfl (own_one (i := 1) rfl hb ea_ts39 (rowsF_get (n := x) (by omega) (by omega))) rfl ?_
    refine RL.lenSlice rfl ea_tl39 rfl rfl ?_
    refine RL.bin rfl rfl rfl (BinV.add ((usedT s.a.B (x + 1) : Nat) : Int) (by rw [usedT_succ]; omega) (by omega) (by omega)) rfl ?_
    refine RL.assign rfl rfl rfl ?_
    refine RL.nil ?_
    refine NX.off ?_
    refine NX.seq ?_
    refine TR.region ?_
    refine RL.move rfl rfl rfl ?_
    refine RL.bin rfl rfl rfl (BinV.add ((x + 1 : Nat) : Int) (by omega) (by omega) (by omega)) rfl ?_
    refine RL.assign rfl rfl rfl ?_
    refine RL.nil ?_
    refine NX.roundP (x + 1) ⟨by omega, trivial⟩ (by omega) ⟨rfl, rfl, rfl, trivial⟩ (fun w hw => (hw.to 3 [0, 1, 2] 0 [] rfl))
  · skip
    have hge := of_decide_eq_false h1
    refine TR.exit ?_
    refine NX.exitThen ?_
    refine NX.exitThen ?_
    refine NX.exitHere ?_
    refine NX.seq ?_
    refine TR.seq ?_
    refine TR.region ?_
    refine RL.move rfl rfl rfl ?_
    refine RL.assign rfl rfl rfl ?_
    refine RL.nil ?_
    refine NX.seq ?_
    refine TR.ret ?_
    have hx64 : x = 64 := by have := hx.1; omega
    exact NX.ret1 () rfl rfl (by rw [hx64]; rfl) (fun w hw => hw)

structure FlX where
  i : Nat
  oa : Option Addr
  c : Nat

theorem rfiles_spec {b : Nat} {s : Rf} {M : List HP} {F : List Fact}  : Ctr Tryz.prog 33 [.pointer (some ⟨b, 0, none⟩)] (Box b 50 (rfC (s)) :: OwnSl 39 1 (s).ba 64 64 (listV (rowsF (s).a.B (s).x)) :: OwnSl 3 1 (s).fa 64 64 (ints (firmF (s).a.D)) :: M) F (Option Addr × Nat) (fun z => .slice z.1 (filesB s.a.B).length z.2) (fun z => OwnSl 3 1 z.1 (filesB s.a.B).length z.2 (ints (natI (filesB s.a.B))) :: Box b 50 (rfC (s)) :: OwnSl 39 1 (s).ba 64 64 (listV (rowsF (s).a.B (s).x)) :: OwnSl 3 1 (s).fa 64 64 (ints (firmF (s).a.D)) :: M) (fun _ => F) := by
  refine Ctr.body Tryz.func33 rfl rfl ?_
  refine TR.seq ?_
  refine TR.openP (fun w hw => own_at (i := 1) (M := _ :: _ :: _ :: M) rfl (rowsF_ne _ _) hw) (fun gb hb => ?_)
  refine TR.openP (fun w hw => own_at (i := 2) (M := _ :: _ :: _ :: M) rfl (firmF_ne _) hw) (fun gf hf => ?_)
  refine TR.region ?_
  refine RL.assign rfl rfl rfl ?_
  refine RL.nil ?_
  refine NX.seq ?_
  refine TR.seq ?_
  refine TR.region ?_
  refine RL.assign rfl rfl rfl ?_
  refine RL.nil ?_
  refine NX.seq ?_
  refine TR.seq ?_
  refine TR.seq ?_
  refine TR.region ?_
  refine RL.assign rfl rfl rfl ?_
  refine RL.nil ?_
  refine NX.seq ?_
  refine TR.block ?_
  refine TR.loopP (ι := FlX) (fun x => x.i ≤ 64 ∧ True) (fun x => [(0, .pointer (some ⟨b, 0, none⟩)), (3, .slice x.oa (filesT s.a.B x.i).length x.c), (4, I (x.i : Nat))]) (fun x => OwnSl 3 1 x.oa (filesT s.a.B x.i).length x.c (ints (natI (filesT s.a.B x.i))) :: Box b 50 (rfC s) :: OwnSl 39 1 s.ba 64 64 (listV (rowsF s.a.B s.x)) :: OwnSl 3 1 s.fa 64 64 (ints (firmF s.a.D)) :: M) (fun x => F) (fun x => 64 - x.i) ⟨0, none, 0⟩ ⟨Nat.zero_le _, trivial⟩ ⟨rfl, rfl, rfl, trivial⟩ (fun w hw => OwnSl.nil_new 3 1 hw) (fun x hx => ?_)
  refine TR.seq ?_
  refine TR.seq ?_
  refine TR.region ?_
  refine RL.move rfl rfl rfl ?_
  refine RL.bin rfl rfl rfl BinV.lss rfl ?_
  refine RL.nil ?_
  refine NX.seq ?_
  refine TR.cond rfl (fun h1 => ?_) (fun h1 => ?_)
  · skip
    have hlt : x.i < 64 := by have := of_decide_eq_true h1; omega
    have hfl := filesT_len s.a.B x.i
    refine TR.skip ?_
    refine NX.seq ?_
    refine TR.seq ?_
    refine TR.block ?_
    refine TR.seq ?_
    refine TR.region ?_
    refine RL.move rfl rfl rfl ?_
    refine RL.nilCheck rfl rfl rfl ?_
    refine RL.fieldAddr rfl ea_tf50_1 rfl rfl ?_
    refine RL.load1 1 rfl ea_ts29 rfl rfl rfl rfl ?_
    refine RL.move rfl rfl rfl ?_
    refine RL.indexAddr rfl ea_tl29 ea_tz39 (congrArg (fun a => some (Value.slice a _ _)) hb) rfl (by omega) (by omega) rfl ?_
    refine RL.loadS rfl rfl (own_one (i := 2) rfl hb ea_ts39 (rowsF_get (n := x.i) (by omega) (by omega))) rfl ?_
    refine RL.lenSlice rfl ea_tl39 rfl rfl ?_
    refine RL.bin rfl rfl rfl BinV.gtr rfl ?_
    refine RL.nil ?_
    refine NX.seq ?_
    refine TR.cond rfl (fun h2 => ?_) (fun h2 => ?_)
    · skip
      refine TR.region ?_
      refine RL.move rfl rfl rfl ?_
      refine RL.move rfl rfl rfl ?_
      refine RL.buildSlice rfl rfl (ea_bs22_1_0 _) rfl (fun b3 => ?_)
      refine RL.ofGV rfl rfl (GV.append (j := 1) ea_tl22 ea_ni22 ea_te3 rfl rfl rfl (src_box (i := 0) rfl rfl rfl) (by omega) (by omega)) (fun z => ?_)
      refine RL.assign rfl rfl rfl ?_
      refine RL.nil ?_
      refine NX.off ?_
      refine NX.seq ?_
      refine TR.region ?_
      refine RL.move rfl rfl rfl ?_
      refine RL.bin rfl rfl rfl (BinV.add ((x.i + 1 : Nat) : Int) (by omega) (by omega) (by omega)) rfl ?_
      refine RL.assign rfl rfl rfl ?_
      refine RL.nil ?_
      have h9 : filesT s.a.B (x.i + 1) = _ := filesT_yes (by have := of_decide_eq_true h2; omega)
      refine NX.weak (M' := OwnSl 3 1 z.1 (filesT s.a.B (x.i + 1)).length z.2 (ints (natI (filesT s.a.B (x.i + 1)))) :: Box b 50 (rfC s) :: OwnSl 39 1 s.ba 64 64 (listV (rowsF s.a.B s.x)) :: OwnSl 3 1 s.fa 64 64 (ints (firmF s.a.D)) :: M) (F' := _) (fun w hw => by
        rw [h9]; simp only [natI, List.map_append, List.map_cons, List.map_nil, ints, List.length_append, List.length_cons, List.length_nil]
        exact (hw.to 5 [1, 2, 3, 4] 0 [] rfl)) ?_
      refine NX.roundP ⟨x.i + 1, z.1, z.2⟩ ⟨by show x.i + 1 ≤ 64; omega, trivial⟩ (by show 64 - (x.i + 1) < _; omega) ⟨rfl, by show some (Value.slice z.1 ((filesT s.a.B x.i).length + 1) z.2) = some (.slice z.1 (filesT s.a.B (x.i + 1)).length z.2); rw [h9, List.length_append]; rfl, rfl, trivial⟩ (fun w hw => hw)
    · skip
      refine TR.skip ?_
      refine NX.off ?_
      refine NX.seq ?_
      refine TR.region ?_
      refine RL.move rfl rfl rfl ?_
      refine RL.bin rfl rfl rfl (BinV.add ((x.i + 1 : Nat) : Int) (by omega) (by omega) (by omega)) rfl ?_
      refine RL.assign rfl rfl rfl ?_
      refine RL.nil ?_
      have h9 : filesT s.a.B (x.i + 1) = _ := filesT_no (by have := of_decide_eq_false h2; omega)
      refine NX.roundP ⟨x.i + 1, x.oa, x.c⟩ ⟨by show x.i + 1 ≤ 64; omega, trivial⟩ (by show 64 - (x.i + 1) < _; omega) ⟨rfl, by simp only [h9]; rfl, rfl, trivial⟩ (fun w hw => (by simp only [h9]; exact (hw.to 4 [0, 1, 2, 3] 0 [] rfl)))
  · skip
    have hge := of_decide_eq_false h1
    refine TR.exit ?_
    refine NX.exitThen ?_
    refine NX.exitThen ?_
    refine NX.exitHere ?_
    refine NX.seq ?_
    refine TR.seq ?_
    refine TR.region ?_
    refine RL.move rfl rfl rfl ?_
    refine RL.assign rfl rfl rfl ?_
    refine RL.nil ?_
    refine NX.seq ?_
    refine TR.ret ?_
    have hx64 : x.i = 64 := by have := hx.1; omega
    have e64 : filesT s.a.B x.i = filesB s.a.B := by rw [hx64]; rfl
    refine NX.ret1 (x.oa, x.c) rfl rfl (by rw [← e64]) (fun w hw => ?_)
    rw [← e64]
    exact hw

theorem rfails_spec {b : Nat} {s : Rf} {M : List HP} {F : List Fact} (h0 : 0 ≤ s.pl) (h1 : s.pl ≤ 4611686018427387904) (ho : s.a.off = false) : Ctr Tryz.prog 65 [.pointer (some ⟨b, 0, none⟩)] (Box b 50 (rfC (s)) :: M) F Unit (fun _ => .bool (decide (s.pl = 0))) (fun _ => Box b 50 [I s.a.room, .slice s.ba 64 64, .slice s.fa 64 64, .bool (decide (s.pl = 0)), I (s.pl - 1)] :: M) (fun _ => F) := by
  refine Ctr.body Tryz.func65 rfl rfl ?_
  refine TR.seq ?_
  have hmx : max (s.pl - 1) (-2) = s.pl - 1 := by omega
  refine TR.region ?_
  refine RL.assign rfl rfl rfl ?_
  refine RL.nil ?_
  refine NX.seq ?_
  refine TR.seq ?_
  refine TR.region ?_
  refine RL.move rfl rfl rfl ?_
  refine RL.move rfl rfl rfl ?_
  refine RL.nilCheck rfl rfl rfl ?_
  refine RL.fieldAddr rfl ea_tf50_4 rfl rfl ?_
  refine RL.load1 0 rfl ea_ts3 rfl rfl rfl rfl ?_
  refine RL.bin rfl rfl rfl (BinV.sub _ rfl (by omega) (by omega)) rfl ?_
  refine RL.max rfl rfl rfl rfl ?_
  refine RL.nilCheck rfl rfl rfl ?_
  refine RL.fieldAddr rfl ea_tf50_4 rfl rfl ?_
  refine RL.store1 0 rfl ea_ts3 rfl rfl rfl rfl rfl ?_
  refine RL.nil ?_
  refine NX.seq ?_
  refine TR.seq ?_
  refine TR.seq ?_
  refine TR.region ?_
  refine RL.move rfl rfl rfl ?_
  refine RL.nilCheck rfl rfl rfl ?_
  refine RL.fieldAddr rfl ea_tf50_4 rfl rfl ?_
  refine RL.load1 0 rfl ea_ts3 rfl rfl rfl rfl ?_
  refine RL.bin rfl rfl rfl BinV.eql rfl ?_
  refine RL.nil ?_
  refine NX.seq ?_
  refine TR.cond rfl (fun h1 => ?_) (fun h1 => ?_)
  · skip
    refine TR.region ?_
    refine RL.move rfl rfl rfl ?_
    refine RL.nilCheck rfl rfl rfl ?_
    refine RL.fieldAddr rfl ea_tf50_3 rfl rfl ?_
    refine RL.store1 0 rfl ea_ts4 rfl rfl rfl rfl rfl ?_
    refine RL.nil ?_
    refine NX.seq ?_
    refine TR.seq ?_
    refine TR.region ?_
    refine RL.move rfl rfl rfl ?_
    refine RL.nilCheck rfl rfl rfl ?_
    refine RL.fieldAddr rfl ea_tf50_3 rfl rfl ?_
    refine RL.load1 0 rfl ea_ts4 rfl rfl rfl rfl ?_
    refine RL.assign rfl rfl rfl ?_
    refine RL.nil ?_
    refine NX.seq ?_
    refine TR.ret ?_
    have hz : s.pl = 0 := by have := of_decide_eq_true h1; omega
    refine NX.ret1 () rfl rfl (by rw [decide_eq_true hz]) (fun w hw => ?_)
    have h9 : St w (Box b 50 [I s.a.room, .slice s.ba 64 64, .slice s.fa 64 64, .bool (decide (s.pl = 0)), I (s.pl - 1)] :: M) F := by
      rw [decide_eq_true hz, ← hmx]; exact hw
    exact h9
  · skip
    refine TR.skip ?_
    refine NX.seq ?_
    refine TR.seq ?_
    refine TR.region ?_
    refine RL.move rfl rfl rfl ?_
    refine RL.nilCheck rfl rfl rfl ?_
    refine RL.fieldAddr rfl ea_tf50_3 rfl rfl ?_
    refine RL.load1 0 rfl ea_ts4 rfl rfl rfl rfl ?_
    refine RL.assign rfl rfl rfl ?_
    refine RL.nil ?_
    refine NX.seq ?_
    refine TR.ret ?_
    have hz : ¬ s.pl = 0 := fun e => (of_decide_eq_false h1) (by rw [e]; rfl)
    refine NX.ret1 () rfl rfl (by rw [decide_eq_false hz, ho]) (fun w hw => ?_)
    have h9 : St w (Box b 50 [I s.a.room, .slice s.ba 64 64, .slice s.fa 64 64, .bool (decide (s.pl = 0)), I (s.pl - 1)] :: M) F := by
      rw [decide_eq_false hz, ← ho, ← hmx]; exact hw
    exact h9

theorem rstep_spec {b : Nat} {s : Rf} {M : List HP} {F : List Fact} (h : RfOk s) (ho : s.a.off = false) : Ctr Tryz.prog 47 [.pointer (some ⟨b, 0, none⟩)] (Box b 50 (rfC (s)) :: M) F Unit (fun _ => .bool (!(stepA s.a).1)) (fun _ => Box b 50 (rfC (stepF s)) :: M) (fun _ => F) := by
  refine Ctr.body Tryz.func47 rfl rfl ?_
  refine TR.seq ?_
  refine TR.region ?_
  refine RL.assign rfl rfl rfl ?_
  refine RL.nil ?_
  refine NX.seq ?_
  refine TR.seq ?_
  refine TR.seq ?_
  refine TR.region ?_
  refine RL.move rfl rfl rfl ?_
  refine RL.nilCheck rfl rfl rfl ?_
  refine RL.fieldAddr rfl ea_tf50_4 rfl rfl ?_
  refine RL.load1 0 rfl ea_ts3 rfl rfl rfl rfl ?_
  refine RL.bin rfl rfl rfl BinV.lss rfl ?_
  refine RL.nil ?_
  refine NX.seq ?_
  refine TR.cond rfl (fun h1 => ?_) (fun h1 => ?_)
  · skip
    refine TR.seq ?_
    refine TR.region ?_
    refine RL.assign rfl rfl rfl ?_
    refine RL.nil ?_
    refine NX.seq ?_
    refine TR.ret ?_
    refine NX.retThen ?_
    have hn := of_decide_eq_true h1
    refine NX.ret1 () rfl rfl (by rw [(stepF_neg h hn).1]; rfl) (fun w hw => ?_)
    rw [(stepF_neg h hn).2]; exact hw
  · skip
    have hn := of_decide_eq_false h1
    refine TR.skip ?_
    refine NX.seq ?_
    refine TR.seq ?_
    refine TR.region ?_
    refine RL.move rfl rfl rfl ?_
    refine RL.call rfl rfl Tryz.call65 rfl (rfails_spec (by omega) h.hi ho) (fun _ => ?_)
    refine RL.assign rfl rfl rfl ?_
    refine RL.nil ?_
    refine NX.seq ?_
    refine TR.ret ?_
    by_cases hz : s.pl = 0
    · refine NX.ret1 () rfl rfl (by rw [(stepF_zero h hz).1, decide_eq_true hz]; rfl) (fun w hw => ?_)
      rw [(stepF_zero h hz).2]
      have h9 := hw
      rw [decide_eq_true hz, hz] at h9
      exact h9
    · refine NX.ret1 () rfl rfl (by rw [(stepF_pos h (by omega)).1, decide_eq_false hz]; rfl) (fun w hw => ?_)
      rw [(stepF_pos h (by omega)).2]
      have h9 := hw
      rw [decide_eq_false hz, ← ho] at h9
      exact h9

theorem rappend_spec {n : Int} {x : List UInt8} {ob : Option Addr} {cb : Nat} {b : Nat} {s : Rf} {M : List HP} {F : List Fact} (h : RfOk s) (hA : AllB (rowsF s.a.B s.x) ∈ F) (hx : ArrF ob (bytesV x) ∈ F) (hxl : x.length ≤ 4398046511104) : Ctr Tryz.prog 37 [.pointer (some ⟨b, 0, none⟩), I n, .slice ob x.length cb] (Box b 50 (rfC (s)) :: OwnSl 39 1 (s).ba 64 64 (listV (rowsF (s).a.B (s).x)) :: OwnSl 3 1 (s).fa 64 64 (ints (firmF (s).a.D)) :: M) F {q : Rf // RfOk q ∧ q.a = (appA s.a n x).2} (fun _ => I (appA s.a n x).1) (fun q => Box b 50 (rfC (q.1)) :: OwnSl 39 1 (q.1).ba 64 64 (listV (rowsF (q.1).a.B (q.1).x)) :: OwnSl 3 1 (q.1).fa 64 64 (ints (firmF (q.1).a.D)) :: M) (fun q => AllB (rowsF q.1.a.B q.1.x) :: F) := by
  refine Ctr.body Tryz.func37 rfl rfl ?_
  refine TR.seq ?_
  refine TR.openP (fun w hw => own_at (i := 1) (M := _ :: _ :: _ :: M) rfl (rowsF_ne _ _) hw) (fun gb hb => ?_)
  refine TR.openP (fun w hw => own_at (i := 2) (M := _ :: _ :: _ :: M) rfl (firmF_ne _) hw) (fun gf hf => ?_)
  refine TR.region ?_
  refine RL.assign rfl rfl rfl ?_
  refine RL.nil ?_
  refine NX.seq ?_
  refine TR.seq ?_
  refine TR.seq ?_
  refine TR.region ?_
  refine RL.move rfl rfl rfl ?_
  refine RL.bin rfl rfl rfl BinV.lss rfl ?_
  refine RL.move rfl rfl rfl ?_
  refine RL.part (fun h1 => ?_) (fun h1 => ?_)
  · skip
    have hq1 := of_decide_eq_true h1
    have hnt : ¬ there n := fun ht => by have := ht.1; omega
    refine RL.skip rfl rfl rfl ?_
    refine RL.skip rfl rfl rfl ?_
    refine RL.pickT rfl rfl rfl rfl ?_
    refine RL.nil ?_
    refine NX.seq ?_
    refine TR.condT rfl ?_
    refine TR.seq ?_
    refine TR.region ?_
    refine RL.assign rfl rfl rfl ?_
    refine RL.nil ?_
    refine NX.seq ?_
    refine TR.ret ?_
    refine NX.retThen ?_
    refine NX.ret1 ⟨s, h, by rw [appA_arg hnt]⟩ rfl rfl (by rw [appA_arg hnt]) (fun w hw => ?_)
    exact ((hw.to 3 [0, 1, 2] 0 [] rfl) : St w (Box b 50 (rfC (s)) :: OwnSl 39 1 (s).ba 64 64 (listV (rowsF (s).a.B (s).x)) :: OwnSl 3 1 (s).fa 64 64 (ints (firmF (s).a.D)) :: M) _).derive (ψ := AllB (rowsF s.a.B s.x)) (fun K hf => hf _ hA)
  · skip
    have hq1 := of_decide_eq_false h1
    refine RL.move rfl rfl rfl ?_
    refine RL.bin rfl rfl rfl BinV.gtr rfl ?_
    refine RL.pickF rfl rfl rfl rfl ?_
    refine RL.nil ?_
    refine NX.seq ?_
    refine TR.cond rfl (fun h2 => ?_) (fun h2 => ?_)
    · skip
      have hnt : ¬ there n := fun ht => by have := of_decide_eq_true h2; have := ht.2; omega
      refine TR.seq ?_
      refine TR.region ?_
      refine RL.assign rfl rfl rfl ?_
      refine RL.nil ?_
      refine NX.seq ?_
      refine TR.ret ?_
      refine NX.retThen ?_
      refine NX.ret1 ⟨s, h, by rw [appA_arg hnt]⟩ rfl rfl (by rw [appA_arg hnt]) (fun w hw => ?_)
      exact ((hw.to 3 [0, 1, 2] 0 [] rfl) : St w (Box b 50 (rfC (s)) :: OwnSl 39 1 (s).ba 64 64 (listV (rowsF (s).a.B (s).x)) :: OwnSl 3 1 (s).fa 64 64 (ints (firmF (s).a.D)) :: M) _).derive (ψ := AllB (rowsF s.a.B s.x)) (fun K hf => hf _ hA)
    · skip
      have hth : there n := ⟨by omega, by have := of_decide_eq_false h2; omega⟩
      refine TR.skip ?_
      refine NX.seq ?_
      refine TR.seq ?_
      refine TR.seq ?_
      refine TR.region ?_
      refine RL.move rfl rfl rfl ?_
      refine RL.nilCheck rfl rfl rfl ?_
      refine RL.fieldAddr rfl ea_tf50_3 rfl rfl ?_
      refine RL.load1 0 rfl ea_ts4 rfl rfl rfl rfl ?_
      refine RL.nil ?_
      refine NX.seq ?_
      refine TR.cond rfl (fun h3 => ?_) (fun h3 => ?_)
      · skip
        have h1_ : s.a.off = true := h3
        refine TR.seq ?_
        refine TR.region ?_
        refine RL.assign rfl rfl rfl ?_
        refine RL.nil ?_
        refine NX.seq ?_
        refine TR.ret ?_
        refine NX.retThen ?_
        refine NX.ret1 ⟨s, h, by rw [appA_off hth h1_]⟩ rfl rfl (by rw [appA_off hth h1_]) (fun w hw => ?_)
        exact ((hw.to 3 [0, 1, 2] 0 [] rfl) : St w (Box b 50 (rfC (s)) :: OwnSl 39 1 (s).ba 64 64 (listV (rowsF (s).a.B (s).x)) :: OwnSl 3 1 (s).fa 64 64 (ints (firmF (s).a.D)) :: M) _).derive (ψ := AllB (rowsF s.a.B s.x)) (fun K hf => hf _ hA)
      · skip
        have ho : s.a.off = false := h3
        obtain ⟨k, rfl⟩ : ∃ k : Nat, n = k := ⟨n.toNat, by have := hth.1; omega⟩
        have hk : k < 64 := by have := hth.2; omega
        have hu1 := used_one (B := s.a.B) hk
        have hus := h.us
        have hrm := h.rm
        refine TR.skip ?_
        refine NX.seq ?_
        refine TR.seq ?_
        refine TR.seq ?_
        refine TR.sub (E' := [(0, _), (1, _), (2, _), (6, _)]) ⟨rfl, rfl, rfl, rfl, trivial⟩ ?_
        refine TR.draw mixed ?_
        apply AR.more [(0, _), (2, _), (3, _), (5, _), (6, _), (7, _), (8, _)]
        refine AR.eff [0, 2, 3, 5, 6, 7, 8] 1 [0, 1, 2, 3, 4, 5, 6, 7, 8, 9] ⟨QOne.yes rfl rfl rfl (PV.move rfl), QOne.yes rfl rfl rfl (PV.move rfl), QOne.yes rfl rfl rfl (PV.lenSlice ea_tl39 rfl), QOne.yes rfl rfl rfl (PV.move rfl), QOne.yes rfl rfl rfl (PV.nilCheck rfl), QOne.yes rfl rfl rfl (PV.fieldAddr ea_tf50_0 rfl), QOne.yes rfl rfl rfl (PV.load1 0 ea_ts3 rfl rfl rfl), trivial⟩ rfl rfl rfl rfl rfl rfl rfl (EV.call rfl Tryz.call52 (rused_spec (by have := h.us; have := h.rm; omega))) (fun _ => ?_)
        refine AR.done [0] rfl ?_
        apply AR.more [(4, _), (9, _)]
        refine AR.last [2, 3, 4, 5, 6, 7, 8, 9] [0, 1, 2, 3, 4, 5, 6, 7, 8, 9] ⟨QOne.yes rfl rfl rfl (PV.move rfl), QOne.yes rfl rfl rfl (PV.lenSlice ea_tl39 rfl), QOne.yes rfl rfl rfl (PV.bin rfl rfl (BinV.add _ rfl (by omega) (by omega))), QOne.yes rfl rfl rfl (PV.move rfl), QOne.yes rfl rfl rfl (PV.nilCheck rfl), QOne.yes rfl rfl rfl (PV.fieldAddr ea_tf50_0 rfl), QOne.yes rfl rfl rfl (PV.load1 0 ea_ts3 rfl rfl rfl), QOne.yes rfl rfl rfl (PV.bin rfl rfl BinV.gtr), trivial⟩ rfl rfl rfl ?_
        refine NX.sub (E' := [(0, _), (1, _), (2, _), (6, _), (28, _)]) ⟨rfl, rfl, rfl, rfl, rfl, trivial⟩ ?_
        refine NX.seq ?_
        refine TR.cond rfl (fun h4 => ?_) (fun h4 => ?_)
        · skip
          have hfull : s.a.room < usedA s.a.B + x.length := by have := of_decide_eq_true h4; omega
          refine TR.seq ?_
          refine TR.region ?_
          refine RL.assign rfl rfl rfl ?_
          refine RL.nil ?_
          refine NX.seq ?_
          refine TR.ret ?_
          refine NX.retThen ?_
          refine NX.ret1 ⟨s, h, by rw [appA_full hth ho hfull]⟩ rfl rfl (by rw [appA_full hth ho hfull]) (fun w hw => ?_)
          exact ((hw.to 3 [0, 1, 2] 0 [] rfl) : St w (Box b 50 (rfC (s)) :: OwnSl 39 1 (s).ba 64 64 (listV (rowsF (s).a.B (s).x)) :: OwnSl 3 1 (s).fa 64 64 (ints (firmF (s).a.D)) :: M) _).derive (ψ := AllB (rowsF s.a.B s.x)) (fun K hf => hf _ hA)
        · skip
          have hfit : ¬ s.a.room < usedA s.a.B + x.length := by have := of_decide_eq_false h4; omega
          refine TR.skip ?_
          refine NX.seq ?_
          refine TR.seq ?_
          refine TR.region ?_
          refine RL.assign rfl rfl rfl ?_
          refine RL.nil ?_
          refine NX.seq ?_
          refine TR.seq ?_
          refine TR.weak (fun w hw => OwnSl.nil_new 5 1 hw) ?_
          refine TR.weak (fun w hw => hw.allB_get hA (rowsF_mem hk)) ?_
          refine TR.region ?_
          refine RL.move rfl rfl rfl ?_
          refine RL.move rfl rfl rfl ?_
          refine RL.nilCheck rfl rfl rfl ?_
          refine RL.fieldAddr rfl ea_tf50_1 rfl rfl ?_
          refine RL.load1 1 rfl ea_ts29 rfl rfl rfl rfl ?_
          refine RL.move rfl rfl rfl ?_
          refine RL.indexAddr rfl ea_tl29 ea_tz39 (congrArg (fun a => some (Value.slice a _ _)) hb) rfl (by omega) (by omega) rfl ?_
          refine RL.loadS rfl rfl (own_one (i := 2) rfl hb ea_ts39 (rowsF_get (n := k) (by omega) (by omega))) rfl ?_
          refine RL.ofGV rfl rfl (GV.append (j := 0) ea_tl39 ea_ni39 ea_te5 rfl rfl rfl (src_fact (xs := bytesV (s.a.B k)) (.head _) (by rw [bytesV_length, Nat.mul_one]) (bytesV_one _)) (by omega) (by omega)) (fun z1 => ?_)
          refine RL.assign rfl rfl rfl ?_
          refine RL.nil ?_
          refine NX.seq ?_
          refine TR.seq ?_
          refine TR.sub (E' := [(0, _), (1, _), (2, _), (6, _), (7, _)]) ⟨rfl, rfl, rfl, rfl, rfl, trivial⟩ ?_
          refine TR.draw mixed ?_
          apply AR.more [(0, _), (1, _), (2, _), (3, _), (4, _), (5, _), (6, _)]
          refine AR.eff [0, 1, 2, 3, 4, 5, 6] 7 [0, 1, 2, 3, 4, 5, 6, 7, 8, 9] ⟨QOne.yes rfl rfl rfl (PV.move rfl), QOne.yes rfl rfl rfl (PV.nilCheck rfl), QOne.yes rfl rfl rfl (PV.fieldAddr ea_tf50_1 rfl), QOne.yes rfl rfl rfl (PV.load1 1 ea_ts29 rfl rfl rfl), QOne.yes rfl rfl rfl (PV.move rfl), QOne.yes rfl rfl rfl (PV.move rfl), QOne.yes rfl rfl rfl (PV.move rfl), trivial⟩ rfl rfl rfl rfl rfl rfl rfl (EV.ofGV (GV.append (j := 0) ea_tl39 ea_ni39 ea_te5 rfl rfl rfl (src_fact (xs := bytesV x) (.tail _ hx) (by rw [bytesV_length, Nat.mul_one]) (bytesV_one _)) (by omega) (by omega))) (fun z2 => ?_)
          refine AR.done [5, 6] rfl ?_
          apply AR.more [(8, _)]
          refine AR.eff [0, 1, 2, 3, 4, 8] 9 [0, 1, 2, 3, 4, 5, 6, 7, 8, 9] ⟨QOne.yes rfl rfl rfl (PV.move rfl), QOne.yes rfl rfl rfl (PV.nilCheck rfl), QOne.yes rfl rfl rfl (PV.fieldAddr ea_tf50_1 rfl), QOne.yes rfl rfl rfl (PV.load1 1 ea_ts29 rfl rfl rfl), QOne.yes rfl rfl rfl (PV.move rfl), QOne.yes rfl rfl rfl (PV.indexAddr ea_tl29 ea_tz39 (congrArg (fun a => some (Value.slice a _ _)) hb) rfl (by omega) (by omega)), trivial⟩ rfl rfl rfl rfl rfl rfl rfl (EV.storeRow (n := k) (z := ⟨z2.1, z2.2⟩) (l := (s.a.B k ++ x)) 2 rfl (by show some (Value.slice z2.1 _ z2.2) = some (Value.slice z2.1 _ z2.2); rw [List.length_append, Nat.zero_add]) rfl hb ea_tz39 (by omega) (by omega)) (fun _ => ?_)
          refine AR.done [8, 0, 1, 2, 3, 4] rfl ?_
          refine AR.last [] [0, 1, 2, 3, 4, 5, 6, 7, 8, 9] trivial rfl rfl rfl ?_
          refine NX.sub (E' := [(0, _), (6, _)]) ⟨rfl, rfl, trivial⟩ ?_
          refine NX.seq ?_
          refine TR.seq ?_
          refine TR.pick 4 [0, 1, 2, 3] rfl ?_
          have hz2 : True := trivial
          refine TR.weak (M' := OwnSl 5 1 z2.1 (s.a.B k ++ x).length z2.2 (bytesV (s.a.B k ++ x)) :: _) (F' := _) (fun w hw => by rw [bytesV_append, List.length_append, ← Nat.zero_add (s.a.B k).length]; exact hw) ?_
          refine TR.open1 (fun w hw => ⟨hw.ownLen.2, hw⟩) (fun hzc => ?_)
          refine TR.weak (fun w hw => hw.keepSl) ?_
          refine TR.weak (fun w hw => hw.allB_upd (n := k) (z := ⟨z2.1, z2.2⟩) (.tail _ (.tail _ hA)) (.head _)) ?_
          have hs1 := h.put (z := ⟨z2.1, z2.2⟩) hk hzc hfit
          refine TR.region ?_
          refine RL.move rfl rfl rfl ?_
          refine RL.call rfl rfl Tryz.call47 rfl (rstep_spec (s := (putF s k (s.a.B k ++ x) ⟨z2.1, z2.2⟩)) hs1 ho) (fun _ => ?_)
          refine RL.assign rfl rfl rfl ?_
          refine RL.nil ?_
          refine NX.seq ?_
          refine TR.seq ?_
          refine TR.seq ?_
          refine TR.region ?_
          refine RL.move rfl rfl rfl ?_
          refine RL.nil ?_
          refine NX.seq ?_
          refine TR.cond rfl (fun h7 => ?_) (fun h7 => ?_)
          · skip
            have hlast := h7
            refine TR.seq ?_
            refine TR.region ?_
            refine RL.assign rfl rfl rfl ?_
            refine RL.nil ?_
            refine NX.seq ?_
            refine TR.ret ?_
            refine NX.retThen ?_
            have hst : (stepA (putF s k (s.a.B k ++ x) ⟨z2.1, z2.2⟩).a).1 = false := by have := hlast; simpa using this
            refine NX.ret1 ⟨stepF (putF s k (s.a.B k ++ x) ⟨z2.1, z2.2⟩), hs1.step, by rw [appA_go hk ho hfit]; rfl⟩ rfl rfl (by rw [appA_go hk ho hfit]; show _ = I (if (stepA (putF s k (s.a.B k ++ x) ⟨z2.1, z2.2⟩).a).1 = true then 0 else 22); rw [hst]; rfl) (fun w hw => ?_)
            have e9 := stepA_BD (putF s k (s.a.B k ++ x) ⟨z2.1, z2.2⟩).a
            have h9 : St w (Box b 50 (rfC (stepF (putF s k (s.a.B k ++ x) ⟨z2.1, z2.2⟩))) :: OwnSl 39 1 s.ba 64 64 (listV (rowsF (upd s.a.B k (s.a.B k ++ x)) (upd s.x k ⟨z2.1, z2.2⟩))) :: OwnSl 3 1 s.fa 64 64 (ints (firmF s.a.D)) :: M) (AllB (rowsF (upd s.a.B k (s.a.B k ++ x)) (upd s.x k ⟨z2.1, z2.2⟩)) :: F) := (hw.to 3 [0, 1, 2] 3 [0] rfl)
            have e10 : (stepF (putF s k (s.a.B k ++ x) ⟨z2.1, z2.2⟩)).a.B = upd s.a.B k (s.a.B k ++ x) := e9.1
            have e11 : (stepF (putF s k (s.a.B k ++ x) ⟨z2.1, z2.2⟩)).a.D = s.a.D := e9.2.1
            show St w (Box b 50 (rfC (stepF (putF s k (s.a.B k ++ x) ⟨z2.1, z2.2⟩))) :: OwnSl 39 1 s.ba 64 64 (listV (rowsF (stepF (putF s k (s.a.B k ++ x) ⟨z2.1, z2.2⟩)).a.B (upd s.x k ⟨z2.1, z2.2⟩))) :: OwnSl 3 1 s.fa 64 64 (ints (firmF (stepF (putF s k (s.a.B k ++ x) ⟨z2.1, z2.2⟩)).a.D)) :: M) (AllB (rowsF (stepF (putF s k (s.a.B k ++ x) ⟨z2.1, z2.2⟩)).a.B (upd s.x k ⟨z2.1, z2.2⟩)) :: F)
            rw [e10, e11]
            exact h9
          · skip
            have hlast := h7
            refine TR.skip ?_
            refine NX.seq ?_
            refine TR.seq ?_
            refine TR.region ?_
            refine RL.assign rfl rfl rfl ?_
            refine RL.nil ?_
            refine NX.seq ?_
            refine TR.ret ?_
            have hst : (stepA (putF s k (s.a.B k ++ x) ⟨z2.1, z2.2⟩).a).1 = true := by have := hlast; simpa using this
            refine NX.ret1 ⟨stepF (putF s k (s.a.B k ++ x) ⟨z2.1, z2.2⟩), hs1.step, by rw [appA_go hk ho hfit]; rfl⟩ rfl rfl (by rw [appA_go hk ho hfit]; show _ = I (if (stepA (putF s k (s.a.B k ++ x) ⟨z2.1, z2.2⟩).a).1 = true then 0 else 22); rw [hst]; rfl) (fun w hw => ?_)
            have e9 := stepA_BD (putF s k (s.a.B k ++ x) ⟨z2.1, z2.2⟩).a
            have h9 : St w (Box b 50 (rfC (stepF (putF s k (s.a.B k ++ x) ⟨z2.1, z2.2⟩))) :: OwnSl 39 1 s.ba 64 64 (listV (rowsF (upd s.a.B k (s.a.B k ++ x)) (upd s.x k ⟨z2.1, z2.2⟩))) :: OwnSl 3 1 s.fa 64 64 (ints (firmF s.a.D)) :: M) (AllB (rowsF (upd s.a.B k (s.a.B k ++ x)) (upd s.x k ⟨z2.1, z2.2⟩)) :: F) := (hw.to 3 [0, 1, 2] 3 [0] rfl)
            have e10 : (stepF (putF s k (s.a.B k ++ x) ⟨z2.1, z2.2⟩)).a.B = upd s.a.B k (s.a.B k ++ x) := e9.1
            have e11 : (stepF (putF s k (s.a.B k ++ x) ⟨z2.1, z2.2⟩)).a.D = s.a.D := e9.2.1
            show St w (Box b 50 (rfC (stepF (putF s k (s.a.B k ++ x) ⟨z2.1, z2.2⟩))) :: OwnSl 39 1 s.ba 64 64 (listV (rowsF (stepF (putF s k (s.a.B k ++ x) ⟨z2.1, z2.2⟩)).a.B (upd s.x k ⟨z2.1, z2.2⟩))) :: OwnSl 3 1 s.fa 64 64 (ints (firmF (stepF (putF s k (s.a.B k ++ x) ⟨z2.1, z2.2⟩)).a.D)) :: M) (AllB (rowsF (stepF (putF s k (s.a.B k ++ x) ⟨z2.1, z2.2⟩)).a.B (upd s.x k ⟨z2.1, z2.2⟩)) :: F)
            rw [e10, e11]
            exact h9

theorem rsync_spec {b : Nat} {s : Rf} {M : List HP} {F : List Fact} (h : RfOk s) (hA : AllB (rowsF s.a.B s.x) ∈ F) : Ctr Tryz.prog 28 [.pointer (some ⟨b, 0, none⟩)] (Box b 50 (rfC (s)) :: OwnSl 39 1 (s).ba 64 64 (listV (rowsF (s).a.B (s).x)) :: OwnSl 3 1 (s).fa 64 64 (ints (firmF (s).a.D)) :: M) F {q : Rf // RfOk q ∧ q.a = (syncA s.a).2} (fun _ => I (syncA s.a).1) (fun q => Box b 50 (rfC (q.1)) :: OwnSl 39 1 (q.1).ba 64 64 (listV (rowsF (q.1).a.B (q.1).x)) :: OwnSl 3 1 (q.1).fa 64 64 (ints (firmF (q.1).a.D)) :: M) (fun q => AllB (rowsF q.1.a.B q.1.x) :: F) := by
  refine Ctr.body Tryz.func28 rfl rfl ?_
  refine TR.seq ?_
  refine TR.openP (fun w hw => own_at (i := 1) (M := _ :: _ :: _ :: M) rfl (rowsF_ne _ _) hw) (fun gb hb => ?_)
  refine TR.openP (fun w hw => own_at (i := 2) (M := _ :: _ :: _ :: M) rfl (firmF_ne _) hw) (fun gf hf => ?_)
  refine TR.region ?_
  refine RL.assign rfl rfl rfl ?_
  refine RL.nil ?_
  refine NX.seq ?_
  refine TR.seq ?_
  refine TR.seq ?_
  refine TR.region ?_
  refine RL.move rfl rfl rfl ?_
  refine RL.nilCheck rfl rfl rfl ?_
  refine RL.fieldAddr rfl ea_tf50_3 rfl rfl ?_
  refine RL.load1 0 rfl ea_ts4 rfl rfl rfl rfl ?_
  refine RL.nil ?_
  refine NX.seq ?_
  refine TR.cond rfl (fun h1 => ?_) (fun h1 => ?_)
  · skip
    have h1_ : s.a.off = true := h1
    refine TR.seq ?_
    refine TR.region ?_
    refine RL.assign rfl rfl rfl ?_
    refine RL.nil ?_
    refine NX.seq ?_
    refine TR.ret ?_
    refine NX.retThen ?_
    have e1 : syncA s.a = (22, s.a) := by unfold syncA; rw [if_pos h1_]
    refine NX.ret1 ⟨s, h, by rw [e1]⟩ rfl rfl (by rw [e1]) (fun w hw => ?_)
    exact ((hw.to 3 [0, 1, 2] 0 [] rfl) : St w (Box b 50 (rfC (s)) :: OwnSl 39 1 (s).ba 64 64 (listV (rowsF (s).a.B (s).x)) :: OwnSl 3 1 (s).fa 64 64 (ints (firmF (s).a.D)) :: M) _).derive (ψ := AllB (rowsF s.a.B s.x)) (fun K hf => hf _ hA)
  · skip
    have ho : s.a.off = false := h1
    refine TR.skip ?_
    refine NX.seq ?_
    refine TR.seq ?_
    refine TR.region ?_
    refine RL.move rfl rfl rfl ?_
    refine RL.call rfl rfl Tryz.call47 rfl (rstep_spec h ho) (fun _ => ?_)
    refine RL.assign rfl rfl rfl ?_
    refine RL.nil ?_
    refine NX.seq ?_
    refine TR.seq ?_
    refine TR.seq ?_
    refine TR.region ?_
    refine RL.move rfl rfl rfl ?_
    refine RL.nil ?_
    refine NX.seq ?_
    refine TR.cond rfl (fun h2 => ?_) (fun h2 => ?_)
    · skip
      have hlast := h2
      refine TR.seq ?_
      refine TR.region ?_
      refine RL.assign rfl rfl rfl ?_
      refine RL.nil ?_
      refine NX.seq ?_
      refine TR.ret ?_
      refine NX.retThen ?_
      have hst : (stepA s.a).1 = false := by have := hlast; simpa using this
      have e1 : syncA s.a = (22, (stepA s.a).2) := by unfold syncA; rw [if_neg (by rw [ho]; simp)]; simp only; rw [if_neg (by rw [hst]; simp)]
      refine NX.ret1 ⟨stepF s, h.step, by rw [e1]; rfl⟩ rfl rfl (by rw [e1]) (fun w hw => ?_)
      have e9 := stepA_BD s.a
      show St w (Box b 50 (rfC (stepF s)) :: OwnSl 39 1 s.ba 64 64 (listV (rowsF (stepA s.a).2.B s.x)) :: OwnSl 3 1 s.fa 64 64 (ints (firmF (stepA s.a).2.D)) :: M) (AllB (rowsF (stepA s.a).2.B s.x) :: F)
      rw [e9.1, e9.2.1]
      exact ((hw.to 3 [0, 1, 2] 0 [] rfl) : St w (Box b 50 (rfC (stepF s)) :: OwnSl 39 1 s.ba 64 64 (listV (rowsF s.a.B s.x)) :: OwnSl 3 1 s.fa 64 64 (ints (firmF s.a.D)) :: M) _).derive (ψ := AllB (rowsF s.a.B s.x)) (fun K hf => hf _ hA)
    · skip
      have hlast := h2
      have e0 : syncD s.a 0 = s.a.D := funext fun k => if_neg (Nat.not_lt_zero k)
      refine TR.skip ?_
      refine NX.seq ?_
      refine TR.seq ?_
      refine TR.seq ?_
      refine TR.region ?_
      refine RL.assign rfl rfl rfl ?_
      refine RL.nil ?_
      refine NX.seq ?_
      refine TR.block ?_
      refine TR.loopP (ι := Nat) (fun x => x ≤ 64 ∧ True) (fun x => [(0, .pointer (some ⟨b, 0, none⟩)), (4, I (x : Nat))]) (fun x => Box b 50 (rfC (stepF s)) :: OwnSl 39 1 s.ba 64 64 (listV (rowsF s.a.B s.x)) :: OwnSl 3 1 s.fa 64 64 (ints (firmF (syncD s.a x))) :: M) (fun x => F) (fun x => 64 - x) 0 ⟨Nat.zero_le _, trivial⟩ ⟨rfl, rfl, trivial⟩ (fun w hw => (by rw [e0]; exact hw)) (fun x hx => ?_)
      refine TR.seq ?_
      refine TR.seq ?_
      refine TR.region ?_
      refine RL.move rfl rfl rfl ?_
      refine RL.bin rfl rfl rfl BinV.lss rfl ?_
      refine RL.nil ?_
      refine NX.seq ?_
      refine TR.cond rfl (fun h3 => ?_) (fun h3 => ?_)
      · skip
        have hlt : x < 64 := by have := of_decide_eq_true h3; omega
        have hrl : (s.a.B x).length ≤ 16777216 := by have := used_one (B := s.a.B) hlt; have := h.us; have := h.rm; omega
        refine TR.skip ?_
        refine NX.seq ?_
        refine TR.seq ?_
        refine TR.block ?_
        refine TR.sub (E' := [(0, _), (4, _), (12, _), (13, _)]) ⟨rfl, rfl, rfl, rfl, trivial⟩ ?_
        refine TR.draw mixed ?_
        apply AR.more [(0, _), (1, _), (2, _), (3, _), (4, _), (5, _), (6, _), (7, _), (8, _), (9, _), (10, _), (11, _), (12, _), (13, _)]
        refine AR.eff [0, 1, 2, 3, 4, 5, 6, 7, 8, 9, 10, 11, 12, 13] 14 [0, 1, 2, 3, 4, 5, 6, 7, 8, 9, 10, 11, 12, 13, 14] ⟨QOne.yes rfl rfl rfl (PV.move rfl), QOne.yes rfl rfl rfl (PV.nilCheck rfl), QOne.yes rfl rfl rfl (PV.fieldAddr ea_tf50_2 rfl), QOne.yes rfl rfl rfl (PV.load1 0 ea_ts22 rfl rfl rfl), QOne.yes rfl rfl rfl (PV.move rfl), QOne.yes rfl rfl rfl (PV.move rfl), QOne.yes rfl rfl rfl (PV.nilCheck rfl), QOne.yes rfl rfl rfl (PV.fieldAddr ea_tf50_1 rfl), QOne.yes rfl rfl rfl (PV.load1 0 ea_ts29 rfl rfl rfl), QOne.yes rfl rfl rfl (PV.move rfl), QOne.yes rfl rfl rfl (PV.indexAddr ea_tl29 ea_tz39 (congrArg (fun a => some (Value.slice a _ _)) hb) rfl (by omega) (by omega)), QOne.yes rfl rfl rfl (PV.loadS rfl (own_one (i := 1) rfl hb ea_ts39 (rowsF_get (n := x) (by omega) (by omega)))), QOne.yes rfl rfl rfl (PV.lenSlice ea_tl39 rfl), QOne.yes rfl rfl rfl (PV.indexAddr ea_tl22 ea_tz3 (congrArg (fun a => some (Value.slice a _ _)) hf) rfl (by omega) (by omega)), trivial⟩ rfl rfl rfl rfl rfl rfl rfl (EV.storeFirm (n := x) (m := (s.a.B x).length) 2 rfl rfl rfl hf ea_tz3 (by omega) rfl (by omega)) (fun _ => ?_)
        refine AR.done [13, 12, 0, 1, 2, 3, 4, 5, 6, 7, 8, 9, 10, 11] rfl ?_
        refine AR.last [] [0, 1, 2, 3, 4, 5, 6, 7, 8, 9, 10, 11, 12, 13, 14] trivial rfl rfl rfl ?_
        refine NX.sub (E' := [(0, _), (4, _), (12, _), (13, _), (16, _), (17, _), (18, _), (19, _), (20, _), (21, _), (22, _), (23, _), (24, _), (25, _), (26, _), (27, _), (28, _), (29, _)]) ⟨rfl, rfl, rfl, rfl, rfl, rfl, rfl, rfl, rfl, rfl, rfl, rfl, rfl, rfl, rfl, rfl, rfl, rfl, trivial⟩ ?_
        refine NX.off ?_
        refine NX.seq ?_
        refine TR.region ?_
        refine RL.move rfl rfl rfl ?_
        refine RL.bin rfl rfl rfl (BinV.add ((x + 1 : Nat) : Int) (by omega) (by omega) (by omega)) rfl ?_
        refine RL.assign rfl rfl rfl ?_
        refine RL.nil ?_
        refine NX.roundP (x + 1) ⟨by omega, trivial⟩ (by omega) ⟨rfl, rfl, trivial⟩ (fun w hw => (by rw [syncD_succ]; exact hw))
      · skip
        have hge := of_decide_eq_false h3
        refine TR.exit ?_
        refine NX.exitThen ?_
        refine NX.exitThen ?_
        refine NX.exitHere ?_
        refine NX.seq ?_
        refine TR.seq ?_
        refine TR.region ?_
        refine RL.assign rfl rfl rfl ?_
        refine RL.nil ?_
        refine NX.seq ?_
        refine TR.ret ?_
        have hst : (stepA s.a).1 = true := by have := hlast; simpa using this
        have e9 := stepA_BD s.a
        have hx64 : x = 64 := by have := hx.1; omega
        subst hx64
        have e1 : syncA s.a = (0, { (stepA s.a).2 with D := fun k => ((stepA s.a).2.B k).length }) := by unfold syncA; rw [if_neg (by rw [ho]; simp)]; simp only; rw [if_pos hst]
        refine NX.ret1 ⟨{ stepF s with a := { (stepA s.a).2 with D := fun k => ((stepA s.a).2.B k).length } }, ⟨h.step.plan, h.step.lo, h.step.hi, fun _ _ => Nat.le_refl _, h.step.cp, h.step.us, h.step.rm⟩, by rw [e1]⟩ rfl rfl (by rw [e1]) (fun w hw => ?_)
        have e12 : firmF (fun k => ((stepA s.a).2.B k).length) = firmF (syncD s.a 64) := firmF_cg fun n hn => by rw [e9.1]; exact (if_pos hn).symm
        show St w (Box b 50 (rfC (stepF s)) :: OwnSl 39 1 s.ba 64 64 (listV (rowsF (stepA s.a).2.B s.x)) :: OwnSl 3 1 s.fa 64 64 (ints (firmF (fun k => ((stepA s.a).2.B k).length))) :: M) (AllB (rowsF (stepA s.a).2.B s.x) :: F)
        rw [e12, e9.1]
        exact ((hw.to 3 [0, 1, 2] 0 [] rfl) : St w (Box b 50 (rfC (stepF s)) :: OwnSl 39 1 s.ba 64 64 (listV (rowsF s.a.B s.x)) :: OwnSl 3 1 s.fa 64 64 (ints (firmF (syncD s.a 64))) :: M) _).derive (ψ := AllB (rowsF s.a.B s.x)) (fun K hf => hf _ hA)

theorem rarm_spec {n : Int} {b : Nat} {s : Rf} {M : List HP} {F : List Fact} (h : RfOk s) (hA : AllB (rowsF s.a.B s.x) ∈ F) (hn0 : -1 ≤ n) (hn1 : n ≤ 4611686018427387904) : Ctr Tryz.prog 10 [.pointer (some ⟨b, 0, none⟩), I n] (Box b 50 (rfC (s)) :: OwnSl 39 1 (s).ba 64 64 (listV (rowsF (s).a.B (s).x)) :: OwnSl 3 1 (s).fa 64 64 (ints (firmF (s).a.D)) :: M) F {q : Rf // RfOk q ∧ q.a = armA s.a n} (fun _ => .tuple #[]) (fun q => Box b 50 (rfC (q.1)) :: OwnSl 39 1 (q.1).ba 64 64 (listV (rowsF (q.1).a.B (q.1).x)) :: OwnSl 3 1 (q.1).fa 64 64 (ints (firmF (q.1).a.D)) :: M) (fun q => AllB (rowsF q.1.a.B q.1.x) :: F) := by
  refine Ctr.body Tryz.func10 rfl rfl ?_
  refine TR.seq ?_
  refine TR.region ?_
  refine RL.move rfl rfl rfl ?_
  refine RL.nilCheck rfl rfl rfl ?_
  refine RL.fieldAddr rfl ea_tf50_3 rfl rfl ?_
  refine RL.load1 0 rfl ea_ts4 rfl rfl rfl rfl ?_
  refine RL.not rfl rfl rfl ?_
  refine RL.nil ?_
  refine NX.seq ?_
  refine TR.cond rfl (fun h1 => ?_) (fun h1 => ?_)
  · skip
    have ho : s.a.off = false := by simpa using h1
    refine TR.region ?_
    refine RL.move rfl rfl rfl ?_
    refine RL.move rfl rfl rfl ?_
    refine RL.max rfl rfl rfl rfl ?_
    refine RL.nilCheck rfl rfl rfl ?_
    refine RL.fieldAddr rfl ea_tf50_4 rfl rfl ?_
    refine RL.store1 0 rfl ea_ts3 rfl rfl rfl rfl rfl ?_
    refine RL.nil ?_
    have hp : max n (-1) = max n (-1) := rfl
    refine NX.end0 ⟨{ s with a := armA s.a n, pl := max n (-1) }, h.arm hn0 hn1 ho⟩ rfl rfl (fun w hw => ?_)
    have e1 : armA s.a n = { s.a with plan := if 0 ≤ n then some n.toNat else none } := by unfold armA; rw [if_neg (by rw [ho]; simp)]
    show St w (Box b 50 (rfC { s with a := armA s.a n, pl := max n (-1) }) :: OwnSl 39 1 s.ba 64 64 (listV (rowsF (armA s.a n).B s.x)) :: OwnSl 3 1 s.fa 64 64 (ints (firmF (armA s.a n).D)) :: M) (AllB (rowsF (armA s.a n).B s.x) :: F)
    rw [e1]
    exact (hw : St w (Box b 50 (rfC ({ s with pl := max n (-1) })) :: OwnSl 39 1 ({ s with pl := max n (-1) }).ba 64 64 (listV (rowsF ({ s with pl := max n (-1) }).a.B ({ s with pl := max n (-1) }).x)) :: OwnSl 3 1 ({ s with pl := max n (-1) }).fa 64 64 (ints (firmF ({ s with pl := max n (-1) }).a.D)) :: M) _).derive (ψ := AllB (rowsF s.a.B s.x)) (fun K hf => hf _ hA)
  · skip
    have ho : s.a.off = true := by simpa using h1
    refine TR.skip ?_
    have e1 : armA s.a n = s.a := by unfold armA; rw [if_pos ho]
    refine NX.end0 ⟨s, h, by rw [e1]⟩ rfl rfl (fun w hw => ?_)
    exact (hw : St w (Box b 50 (rfC (s)) :: OwnSl 39 1 (s).ba 64 64 (listV (rowsF (s).a.B (s).x)) :: OwnSl 3 1 (s).fa 64 64 (ints (firmF (s).a.D)) :: M) _).derive (ψ := AllB (rowsF s.a.B s.x)) (fun K hf => hf _ hA)

theorem rtrunc_spec {n k : Int} {b : Nat} {s : Rf} {M : List HP} {F : List Fact} (h : RfOk s) (hA : AllB (rowsF s.a.B s.x) ∈ F) : Ctr Tryz.prog 27 [.pointer (some ⟨b, 0, none⟩), I n, I k] (Box b 50 (rfC (s)) :: OwnSl 39 1 (s).ba 64 64 (listV (rowsF (s).a.B (s).x)) :: OwnSl 3 1 (s).fa 64 64 (ints (firmF (s).a.D)) :: M) F {q : Rf // RfOk q ∧ q.a = (truncA s.a n k).2} (fun _ => I (truncA s.a n k).1) (fun q => Box b 50 (rfC (q.1)) :: OwnSl 39 1 (q.1).ba 64 64 (listV (rowsF (q.1).a.B (q.1).x)) :: OwnSl 3 1 (q.1).fa 64 64 (ints (firmF (q.1).a.D)) :: M) (fun q => AllB (rowsF q.1.a.B q.1.x) :: F) := by
  refine Ctr.body Tryz.func27 rfl rfl ?_
  refine TR.seq ?_
  refine TR.openP (fun w hw => own_at (i := 1) (M := _ :: _ :: _ :: M) rfl (rowsF_ne _ _) hw) (fun gb hb => ?_)
  refine TR.openP (fun w hw => own_at (i := 2) (M := _ :: _ :: _ :: M) rfl (firmF_ne _) hw) (fun gf hf => ?_)
  refine TR.region ?_
  refine RL.assign rfl rfl rfl ?_
  refine RL.nil ?_
  refine NX.seq ?_
  refine TR.seq ?_
  refine TR.seq ?_
  refine TR.region ?_
  refine RL.move rfl rfl rfl ?_
  refine RL.bin rfl rfl rfl BinV.lss rfl ?_
  refine RL.move rfl rfl rfl ?_
  refine RL.part (fun h1 => ?_) (fun h1 => ?_)
  · skip
    have hbad : ¬ there n ∨ k < 0 ∨ ((s.a.B n.toNat).length : Int) < k := .inl (fun ht => by have := of_decide_eq_true h1; have := ht.1; omega)
    refine RL.skip rfl rfl rfl ?_
    refine RL.skip rfl rfl rfl ?_
    refine RL.pickT rfl rfl rfl rfl ?_
    refine RL.move rfl rfl rfl ?_
    refine RL.skip rfl rfl rfl ?_
    refine RL.skip rfl rfl rfl ?_
    refine RL.pickT rfl rfl rfl rfl ?_
    refine RL.move rfl rfl rfl ?_
    skip
    refine RL.skip rfl rfl rfl ?_
    refine RL.skip rfl rfl rfl ?_
    refine RL.skip rfl rfl rfl ?_
    refine RL.skip rfl rfl rfl ?_
    refine RL.skip rfl rfl rfl ?_
    skip
    refine RL.skip rfl rfl rfl ?_
    refine RL.skip rfl rfl rfl ?_
    refine RL.skip rfl rfl rfl ?_
    refine RL.skip rfl rfl rfl ?_
    refine RL.skip rfl rfl rfl ?_
    refine RL.pickT rfl rfl rfl rfl ?_
    refine RL.nil ?_
    refine NX.seq ?_
    refine TR.condT rfl ?_
    refine TR.seq ?_
    refine TR.region ?_
    refine RL.assign rfl rfl rfl ?_
    refine RL.nil ?_
    refine NX.seq ?_
    refine TR.ret ?_
    refine NX.retThen ?_
    refine NX.ret1 ⟨s, h, by rw [truncA_bad hbad]⟩ rfl rfl (by rw [truncA_bad hbad]) (fun w hw => ?_)
    exact ((hw.to 3 [0, 1, 2] 0 [] rfl) : St w (Box b 50 (rfC (s)) :: OwnSl 39 1 (s).ba 64 64 (listV (rowsF (s).a.B (s).x)) :: OwnSl 3 1 (s).fa 64 64 (ints (firmF (s).a.D)) :: M) _).derive (ψ := AllB (rowsF s.a.B s.x)) (fun K hf => hf _ hA)
  · skip
    have hq1 := of_decide_eq_false h1
    refine RL.move rfl rfl rfl ?_
    refine RL.bin rfl rfl rfl BinV.gtr rfl ?_
    refine RL.pickF rfl rfl rfl rfl ?_
    refine RL.move rfl rfl rfl ?_
    refine RL.part (fun h2 => ?_) (fun h2 => ?_)
    · skip
      have hbad : ¬ there n ∨ k < 0 ∨ ((s.a.B n.toNat).length : Int) < k := .inl (fun ht => by have := of_decide_eq_true h2; have := ht.2; omega)
      refine RL.skip rfl rfl rfl ?_
      refine RL.skip rfl rfl rfl ?_
      refine RL.pickT rfl rfl rfl rfl ?_
      refine RL.move rfl rfl rfl ?_
      skip
      refine RL.skip rfl rfl rfl ?_
      refine RL.skip rfl rfl rfl ?_
      refine RL.skip rfl rfl rfl ?_
      refine RL.skip rfl rfl rfl ?_
      refine RL.skip rfl rfl rfl ?_
      skip
      refine RL.skip rfl rfl rfl ?_
      refine RL.skip rfl rfl rfl ?_
      refine RL.skip rfl rfl rfl ?_
      refine RL.skip rfl rfl rfl ?_
      refine RL.skip rfl rfl rfl ?_
      refine RL.pickT rfl rfl rfl rfl ?_
      refine RL.nil ?_
      refine NX.seq ?_
      refine TR.condT rfl ?_
      refine TR.seq ?_
      refine TR.region ?_
      refine RL.assign rfl rfl rfl ?_
      refine RL.nil ?_
      refine NX.seq ?_
      refine TR.ret ?_
      refine NX.retThen ?_
      refine NX.ret1 ⟨s, h, by rw [truncA_bad hbad]⟩ rfl rfl (by rw [truncA_bad hbad]) (fun w hw => ?_)
      exact ((hw.to 3 [0, 1, 2] 0 [] rfl) : St w (Box b 50 (rfC (s)) :: OwnSl 39 1 (s).ba 64 64 (listV (rowsF (s).a.B (s).x)) :: OwnSl 3 1 (s).fa 64 64 (ints (firmF (s).a.D)) :: M) _).derive (ψ := AllB (rowsF s.a.B s.x)) (fun K hf => hf _ hA)
    · skip
      have hq2 := of_decide_eq_false h2
      refine RL.move rfl rfl rfl ?_
      refine RL.bin rfl rfl rfl BinV.lss rfl ?_
      refine RL.pickF rfl rfl rfl rfl ?_
      refine RL.move rfl rfl rfl ?_
      refine RL.part (fun h3 => ?_) (fun h3 => ?_)
      · skip
        have hbad : ¬ there n ∨ k < 0 ∨ ((s.a.B n.toNat).length : Int) < k := .inr (.inl (of_decide_eq_true h3))
        skip
        refine RL.skip rfl rfl rfl ?_
        refine RL.skip rfl rfl rfl ?_
        refine RL.skip rfl rfl rfl ?_
        refine RL.skip rfl rfl rfl ?_
        refine RL.skip rfl rfl rfl ?_
        skip
        refine RL.skip rfl rfl rfl ?_
        refine RL.skip rfl rfl rfl ?_
        refine RL.skip rfl rfl rfl ?_
        refine RL.skip rfl rfl rfl ?_
        refine RL.skip rfl rfl rfl ?_
        refine RL.pickT rfl rfl rfl rfl ?_
        refine RL.nil ?_
        refine NX.seq ?_
        refine TR.condT rfl ?_
        refine TR.seq ?_
        refine TR.region ?_
        refine RL.assign rfl rfl rfl ?_
        refine RL.nil ?_
        refine NX.seq ?_
        refine TR.ret ?_
        refine NX.retThen ?_
        refine NX.ret1 ⟨s, h, by rw [truncA_bad hbad]⟩ rfl rfl (by rw [truncA_bad hbad]) (fun w hw => ?_)
        exact ((hw.to 3 [0, 1, 2] 0 [] rfl) : St w (Box b 50 (rfC (s)) :: OwnSl 39 1 (s).ba 64 64 (listV (rowsF (s).a.B (s).x)) :: OwnSl 3 1 (s).fa 64 64 (ints (firmF (s).a.D)) :: M) _).derive (ψ := AllB (rowsF s.a.B s.x)) (fun K hf => hf _ hA)
      · skip
        have hq3 := of_decide_eq_false h3
        obtain ⟨m, rfl⟩ : ∃ m : Nat, n = m := ⟨n.toNat, by omega⟩
        obtain ⟨q, rfl⟩ : ∃ q : Nat, k = q := ⟨k.toNat, by omega⟩
        have hm : m < 64 := by omega
        have hu1 := used_one (B := s.a.B) hm
        have hus := h.us
        have hrm := h.rm
        have hcp := h.cp m hm
        refine RL.move rfl rfl rfl ?_
        refine RL.move rfl rfl rfl ?_
        refine RL.nilCheck rfl rfl rfl ?_
        refine RL.fieldAddr rfl ea_tf50_1 rfl rfl ?_
        refine RL.load1 0 rfl ea_ts29 rfl rfl rfl rfl ?_
        skip
        refine RL.move rfl rfl rfl ?_
        refine RL.indexAddr rfl ea_tl29 ea_tz39 (congrArg (fun a => some (Value.slice a _ _)) hb) rfl (by omega) (by omega) rfl ?_
        refine RL.loadS rfl rfl (own_one (i := 1) rfl hb ea_ts39 (rowsF_get (n := m) (by omega) (by omega))) rfl ?_
        refine RL.lenSlice rfl ea_tl39 rfl rfl ?_
        refine RL.bin rfl rfl rfl BinV.gtr rfl ?_
        refine RL.pickF rfl rfl rfl rfl ?_
        refine RL.nil ?_
        refine NX.seq ?_
        refine TR.cond rfl (fun h4 => ?_) (fun h4 => ?_)
        · skip
          have hbad : ¬ there (m : Int) ∨ (q : Int) < 0 ∨ ((s.a.B (m : Int).toNat).length : Int) < q := .inr (.inr (of_decide_eq_true h4))
          refine TR.seq ?_
          refine TR.region ?_
          refine RL.assign rfl rfl rfl ?_
          refine RL.nil ?_
          refine NX.seq ?_
          refine TR.ret ?_
          refine NX.retThen ?_
          refine NX.ret1 ⟨s, h, by rw [truncA_bad hbad]⟩ rfl rfl (by rw [truncA_bad hbad]) (fun w hw => ?_)
          exact ((hw.to 3 [0, 1, 2] 0 [] rfl) : St w (Box b 50 (rfC (s)) :: OwnSl 39 1 (s).ba 64 64 (listV (rowsF (s).a.B (s).x)) :: OwnSl 3 1 (s).fa 64 64 (ints (firmF (s).a.D)) :: M) _).derive (ψ := AllB (rowsF s.a.B s.x)) (fun K hf => hf _ hA)
        · skip
          have hql := of_decide_eq_false h4
          have hgood : ¬ (¬ there (m : Int) ∨ (q : Int) < 0 ∨ ((s.a.B (m : Int).toNat).length : Int) < q) := fun e => e.elim (fun e => e ⟨by omega, by omega⟩) (fun e => e.elim (fun e => by omega) hql)
          refine TR.skip ?_
          refine NX.seq ?_
          refine TR.seq ?_
          refine TR.seq ?_
          refine TR.region ?_
          refine RL.move rfl rfl rfl ?_
          refine RL.nilCheck rfl rfl rfl ?_
          refine RL.fieldAddr rfl ea_tf50_3 rfl rfl ?_
          refine RL.load1 0 rfl ea_ts4 rfl rfl rfl rfl ?_
          refine RL.nil ?_
          refine NX.seq ?_
          refine TR.cond rfl (fun h5 => ?_) (fun h5 => ?_)
          · skip
            have h1_ : s.a.off = true := h5
            refine TR.seq ?_
            refine TR.region ?_
            refine RL.assign rfl rfl rfl ?_
            refine RL.nil ?_
            refine NX.seq ?_
            refine TR.ret ?_
            refine NX.retThen ?_
            refine NX.ret1 ⟨s, h, by rw [truncA_off hgood h1_]⟩ rfl rfl (by rw [truncA_off hgood h1_]) (fun w hw => ?_)
            exact ((hw.to 3 [0, 1, 2] 0 [] rfl) : St w (Box b 50 (rfC (s)) :: OwnSl 39 1 (s).ba 64 64 (listV (rowsF (s).a.B (s).x)) :: OwnSl 3 1 (s).fa 64 64 (ints (firmF (s).a.D)) :: M) _).derive (ψ := AllB (rowsF s.a.B s.x)) (fun K hf => hf _ hA)
          · skip
            have ho : s.a.off = false := h5
            refine TR.skip ?_
            refine NX.seq ?_
            refine TR.seq ?_
            refine TR.region ?_
            refine RL.move rfl rfl rfl ?_
            refine RL.call rfl rfl Tryz.call47 rfl (rstep_spec h ho) (fun _ => ?_)
            refine RL.assign rfl rfl rfl ?_
            refine RL.nil ?_
            refine NX.seq ?_
            refine TR.seq ?_
            refine TR.seq ?_
            refine TR.region ?_
            refine RL.move rfl rfl rfl ?_
            refine RL.nil ?_
            refine NX.seq ?_
            refine TR.cond rfl (fun h6 => ?_) (fun h6 => ?_)
            · skip
              have hlast := h6
              refine TR.seq ?_
              refine TR.region ?_
              refine RL.assign rfl rfl rfl ?_
              refine RL.nil ?_
              refine NX.seq ?_
              refine TR.ret ?_
              refine NX.retThen ?_
              have hst : (stepA s.a).1 = false := by have := hlast; simpa using this
              have e9 := stepA_BD s.a
              refine NX.ret1 ⟨stepF s, h.step, by rw [truncA_fail hgood ho hst]; rfl⟩ rfl rfl (by rw [truncA_fail hgood ho hst]) (fun w hw => ?_)
              show St w (Box b 50 (rfC (stepF s)) :: OwnSl 39 1 s.ba 64 64 (listV (rowsF (stepA s.a).2.B s.x)) :: OwnSl 3 1 s.fa 64 64 (ints (firmF (stepA s.a).2.D)) :: M) (AllB (rowsF (stepA s.a).2.B s.x) :: F)
              rw [e9.1, e9.2.1]
              exact ((hw.to 3 [0, 1, 2] 0 [] rfl) : St w (Box b 50 (rfC (stepF s)) :: OwnSl 39 1 s.ba 64 64 (listV (rowsF s.a.B s.x)) :: OwnSl 3 1 s.fa 64 64 (ints (firmF s.a.D)) :: M) _).derive (ψ := AllB (rowsF s.a.B s.x)) (fun K hf => hf _ hA)
            · skip
              have hst : (stepA s.a).1 = true := by have := h6; simpa using this
              refine TR.skip ?_
              refine NX.seq ?_
              refine TR.seq ?_
              refine TR.weak (fun w hw => hw.allB_get hA (rowsF_mem hm)) ?_
              refine TR.weak (fun w hw => hw.cutT q hcp (.head _)) ?_
              refine TR.weak (fun w hw => hw.allB_upd (n := m) (z := ⟨cutA (s.x m).oa 0 (s.x m).c 1, (s.x m).c⟩) (.tail _ (.tail _ hA)) (.head _)) ?_
              refine TR.sub (E' := [(0, _), (1, _), (2, _), (6, _)]) ⟨rfl, rfl, rfl, rfl, trivial⟩ ?_
              refine TR.draw mixed ?_
              apply AR.more [(0, _), (1, _), (2, _), (3, _), (4, _), (5, _), (6, _), (7, _), (8, _), (9, _), (10, _), (11, _), (12, _), (13, _), (14, _)]
              refine AR.eff [0, 1, 2, 3, 4, 5, 6, 7, 8, 9, 10, 11, 12, 13, 14] 15 [0, 1, 2, 3, 4, 5, 6, 7, 8, 9, 10, 11, 12, 13, 14, 15] ⟨QOne.yes rfl rfl rfl (PV.move rfl), QOne.yes rfl rfl rfl (PV.nilCheck rfl), QOne.yes rfl rfl rfl (PV.fieldAddr ea_tf50_1 rfl), QOne.yes rfl rfl rfl (PV.load1 0 ea_ts29 rfl rfl rfl), QOne.yes rfl rfl rfl (PV.move rfl), QOne.yes rfl rfl rfl (PV.move rfl), QOne.yes rfl rfl rfl (PV.nilCheck rfl), QOne.yes rfl rfl rfl (PV.fieldAddr ea_tf50_1 rfl), QOne.yes rfl rfl rfl (PV.load1 0 ea_ts29 rfl rfl rfl), QOne.yes rfl rfl rfl (PV.move rfl), QOne.yes rfl rfl rfl (PV.indexAddr ea_tl29 ea_tz39 (congrArg (fun a => some (Value.slice a _ _)) hb) rfl (by omega) (by omega)), QOne.yes rfl rfl rfl (PV.loadS rfl (own_one (i := 1) rfl hb ea_ts39 (rowsF_get (n := m) (by omega) (by omega)))), QOne.yes rfl rfl rfl (PV.move rfl), QOne.yes rfl rfl rfl (PV.cast (v' := .slice (cutA (s.x m).oa 0 (s.x m).c 1) ((s.a.B m).take q).length (s.x m).c) (by rw [List.length_take, Nat.min_eq_left (by omega)]; rfl) (PV.sliceLH (l := 0) (h := q) ea_tl39 ea_tz5 rfl (.inl ⟨rfl, rfl⟩) (.inr ⟨_, rfl, rfl⟩) (Nat.zero_le _) (by omega))), QOne.yes rfl rfl rfl (PV.indexAddr ea_tl29 ea_tz39 (congrArg (fun a => some (Value.slice a _ _)) hb) rfl (by omega) (by omega)), trivial⟩ rfl rfl rfl rfl rfl rfl rfl (EV.storeRow (n := m) (z := ⟨cutA (s.x m).oa 0 (s.x m).c 1, (s.x m).c⟩) (l := ((s.a.B m).take q)) 1 rfl rfl rfl hb ea_tz39 (by omega) (by omega)) (fun _ => ?_)
              refine AR.done [14, 13, 0, 1, 2, 3, 4, 5, 6, 7, 8, 9, 10, 11, 12] rfl ?_
              refine AR.last [] [0, 1, 2, 3, 4, 5, 6, 7, 8, 9, 10, 11, 12, 13, 14, 15] trivial rfl rfl rfl ?_
              refine NX.sub (E' := [(0, _), (1, _), (2, _), (6, _)]) ⟨rfl, rfl, rfl, rfl, trivial⟩ ?_
              refine NX.seq ?_
              refine TR.seq ?_
              refine TR.sub (E' := [(0, _), (1, _), (2, _), (6, _)]) ⟨rfl, rfl, rfl, rfl, trivial⟩ ?_
              refine TR.draw mixed ?_
              apply AR.more [(0, _), (1, _), (2, _), (3, _), (4, _), (5, _), (6, _), (7, _), (8, _), (9, _), (10, _), (11, _), (12, _), (13, _), (14, _)]
              refine AR.eff [0, 1, 2, 3, 4, 5, 6, 7, 8, 9, 10, 11, 12, 13, 14] 15 [0, 1, 2, 3, 4, 5, 6, 7, 8, 9, 10, 11, 12, 13, 14, 15] ⟨QOne.yes rfl rfl rfl (PV.move rfl), QOne.yes rfl rfl rfl (PV.nilCheck rfl), QOne.yes rfl rfl rfl (PV.fieldAddr ea_tf50_2 rfl), QOne.yes rfl rfl rfl (PV.load1 0 ea_ts22 rfl rfl rfl), QOne.yes rfl rfl rfl (PV.move rfl), QOne.yes rfl rfl rfl (PV.move rfl), QOne.yes rfl rfl rfl (PV.nilCheck rfl), QOne.yes rfl rfl rfl (PV.fieldAddr ea_tf50_2 rfl), QOne.yes rfl rfl rfl (PV.load1 0 ea_ts22 rfl rfl rfl), QOne.yes rfl rfl rfl (PV.move rfl), QOne.yes rfl rfl rfl (PV.indexAddr ea_tl22 ea_tz3 (congrArg (fun a => some (Value.slice a _ _)) hf) rfl (by omega) (by omega)), QOne.yes rfl rfl rfl (PV.loadS rfl (own_one (i := 2) rfl hf ea_ts3 (firmF_get (n := m) (by omega) (by omega)))), QOne.yes rfl rfl rfl (PV.move rfl), QOne.yes rfl rfl rfl (PV.min rfl rfl), QOne.yes rfl rfl rfl (PV.indexAddr ea_tl22 ea_tz3 (congrArg (fun a => some (Value.slice a _ _)) hf) rfl (by omega) (by omega)), trivial⟩ rfl rfl rfl rfl rfl rfl rfl (EV.storeFirm (n := m) (m := (min (s.a.D m) q)) 2 rfl rfl rfl hf ea_tz3 (by omega) (by omega) (by omega)) (fun _ => ?_)
              refine AR.done [14, 13, 0, 1, 2, 3, 4, 5, 6, 7, 8, 9, 10, 11, 12] rfl ?_
              refine AR.last [] [0, 1, 2, 3, 4, 5, 6, 7, 8, 9, 10, 11, 12, 13, 14, 15] trivial rfl rfl rfl ?_
              refine NX.sub (E' := [(6, _)]) ⟨rfl, trivial⟩ ?_
              refine NX.seq ?_
              refine TR.seq ?_
              refine TR.region ?_
              refine RL.assign rfl rfl rfl ?_
              refine RL.nil ?_
              refine NX.seq ?_
              refine TR.ret ?_
              have e9 := stepA_BD s.a
              have hcut := (h.step).cut (n := m) (k := q) (z := ⟨cutA (s.x m).oa 0 (s.x m).c 1, (s.x m).c⟩) hm rfl
              refine NX.ret1 ⟨{ stepF s with a := { (stepA s.a).2 with B := upd (stepA s.a).2.B m (((stepA s.a).2.B m).take q), D := upd (stepA s.a).2.D m (min ((stepA s.a).2.D m) q) }, x := upd s.x m ⟨cutA (s.x m).oa 0 (s.x m).c 1, (s.x m).c⟩ }, hcut, by rw [truncA_go hgood ho hst]⟩ rfl rfl (by rw [truncA_go hgood ho hst]) (fun w hw => ?_)
              show St w (Box b 50 (rfC (stepF s)) :: OwnSl 39 1 s.ba 64 64 (listV (rowsF (upd (stepA s.a).2.B m (((stepA s.a).2.B m).take q)) (upd s.x m ⟨cutA (s.x m).oa 0 (s.x m).c 1, (s.x m).c⟩))) :: OwnSl 3 1 s.fa 64 64 (ints (firmF (upd (stepA s.a).2.D m (min ((stepA s.a).2.D m) q)))) :: M) (AllB (rowsF (upd (stepA s.a).2.B m (((stepA s.a).2.B m).take q)) (upd s.x m ⟨cutA (s.x m).oa 0 (s.x m).c 1, (s.x m).c⟩)) :: F)
              rw [e9.1, e9.2.1]
              exact (hw.to 3 [0, 1, 2] 3 [0] rfl)

theorem rnew_spec {k : Nat} {M : List HP} {F : List Fact} : Ctr Tryz.prog 6 [I k] M F (Nat × Option Addr × Option Addr) (fun z => .pointer (some ⟨z.1, 0, none⟩)) (fun z => Box z.1 50 (rfC (rf0 k z.2.1 z.2.2)) :: OwnSl 39 1 z.2.1 64 64 (listV (rowsF (fun _ => []) (fun _ => ⟨none, 0⟩))) :: OwnSl 3 1 z.2.2 64 64 (ints (firmF (fun _ => 0))) :: M) (fun _ => AllB (rowsF (fun _ => []) (fun _ => ⟨none, 0⟩)) :: F) := by
  refine Ctr.body Tryz.func6 rfl rfl ?_
  refine TR.seq ?_
  refine TR.region ?_
  refine RL.assign rfl rfl rfl ?_
  refine RL.nil ?_
  refine NX.seq ?_
  refine TR.seq ?_
  refine TR.sub (E' := [(0, _)]) ⟨rfl, trivial⟩ ?_
  refine TR.draw mixed ?_
  apply AR.more [(0, _)]
  refine AR.effs [0] [1, 2] [0, 1, 2, 3, 4, 5] ⟨QOne.yes rfl rfl rfl (PV.move rfl), trivial⟩ rfl rfl rfl rfl ⟨EOne.of rfl rfl rfl (EV.ofGV (GV.makeZ (n := 64) (z := .slice none 0 0) ea_mkS rfl rfl rfl (by decide))) (fun g1 => ?_), EOne.of rfl rfl rfl (EV.ofGV (GV.makeZ (n := 64) (z := I 0) ea_mkI rfl rfl rfl (by decide))) (fun g2 => ?_), trivial⟩
  · skip
    refine AR.eff [0] 2 [0, 1, 2, 3, 4, 5] ⟨QOne.yes rfl rfl rfl (PV.move rfl), trivial⟩ rfl rfl rfl rfl rfl rfl rfl (EV.ofGV (GV.makeZ (n := 64) (z := I 0) ea_mkI rfl rfl rfl (by decide))) (fun g2 => ?_)
    apply AR.more [(3, _)]
    refine AR.eff [0, 3] 4 [0, 1, 2, 3, 4, 5] ⟨QOne.yes rfl rfl rfl (PV.move rfl), QOne.yes rfl rfl rfl (PV.build rfl (ea_bv50_0_1_2_4 _ _ _ _ _ _ _ _)), trivial⟩ rfl rfl rfl rfl rfl rfl rfl (EV.ofGV (GV.boxA rfl)) (fun b1 => ?_)
    refine AR.done [3, 0] rfl ?_
    apply AR.more [(5, _)]
    refine AR.last [5] [0, 1, 2, 3, 4, 5] ⟨QOne.yes rfl rfl rfl (PV.assign rfl), trivial⟩ rfl rfl rfl ?_
    refine NX.sub (E' := [(2, _)]) ⟨rfl, trivial⟩ ?_
    refine NX.seq ?_
    refine TR.ret ?_
    refine NX.ret1 (b1, some ⟨g1, 0, none⟩, some ⟨g2, 0, none⟩) rfl rfl rfl (fun w hw => ?_)
    exact ((hw.to 3 [0, 2, 1] 0 [] rfl) : St w ([] ++ (Box b1 50 (rfC (rf0 k (some ⟨g1, 0, none⟩) (some ⟨g2, 0, none⟩))) :: OwnSl 39 1 (some ⟨g1, 0, none⟩) 64 64 (List.replicate 64 (.slice none 0 0)) :: OwnSl 3 1 (some ⟨g2, 0, none⟩) 64 64 (List.replicate 64 (I 0)) :: M)) F).allB_zero
  · skip
    refine AR.eff [0] 1 [0, 1, 2, 3, 4, 5] ⟨QOne.yes rfl rfl rfl (PV.move rfl), trivial⟩ rfl rfl rfl rfl rfl rfl rfl (EV.ofGV (GV.makeZ (n := 64) (z := .slice none 0 0) ea_mkS rfl rfl rfl (by decide))) (fun g1 => ?_)
    apply AR.more [(3, _)]
    refine AR.eff [0, 3] 4 [0, 1, 2, 3, 4, 5] ⟨QOne.yes rfl rfl rfl (PV.move rfl), QOne.yes rfl rfl rfl (PV.build rfl (ea_bv50_0_1_2_4 _ _ _ _ _ _ _ _)), trivial⟩ rfl rfl rfl rfl rfl rfl rfl (EV.ofGV (GV.boxA rfl)) (fun b2 => ?_)
    refine AR.done [3, 0] rfl ?_
    apply AR.more [(5, _)]
    refine AR.last [5] [0, 1, 2, 3, 4, 5] ⟨QOne.yes rfl rfl rfl (PV.assign rfl), trivial⟩ rfl rfl rfl ?_
    refine NX.sub (E' := [(2, _)]) ⟨rfl, trivial⟩ ?_
    refine NX.seq ?_
    refine TR.ret ?_
    refine NX.ret1 (b2, some ⟨g1, 0, none⟩, some ⟨g2, 0, none⟩) rfl rfl rfl (fun w hw => ?_)
    exact ((hw.to 3 [0, 1, 2] 0 [] rfl) : St w ([] ++ (Box b2 50 (rfC (rf0 k (some ⟨g1, 0, none⟩) (some ⟨g2, 0, none⟩))) :: OwnSl 39 1 (some ⟨g1, 0, none⟩) 64 64 (List.replicate 64 (.slice none 0 0)) :: OwnSl 3 1 (some ⟨g2, 0, none⟩) 64 64 (List.replicate 64 (I 0)) :: M)) F).allB_zero

end Go.Proofs.YtdlpaojkkekdlaaGreat

namespace Go.GL
set_option linter.unusedVariables false
section
variable (B : Nat → List UInt8) (D : Nat → Nat) (ks : List Int) (fl : Int)
def mixB (i n : Nat) : List UInt8 := if n ∈ (filesB B).take i then cutB B D ks n else B n
def looseT (i : Nat) : List (Nat × Nat) := ((filesB B).take i).flatMap fun n => (List.range' (D n) ((cutB B D ks n).length - D n)).map fun j => (n, j)
def atF : Int := if 0 ≤ fl ∧ 0 < (looseB B D ks).length then ((fl.toNat % (8 * (looseB B D ks).length) : Nat) : Int) else -1
def midB (j n : Nat) : List UInt8 := if 0 ≤ atF B D ks fl ∧ (atF B D ks fl).toNat / 8 < j then crashB B D ks fl n else cutB B D ks n
end
section
variable {B : Nat → List UInt8} {D : Nat → Nat} {ks : List Int} {fl : Int}
theorem mixB_zero : mixB B D ks 0 = B := funext fun n => if_neg (by simp)
theorem fresh_file {i : Nat} (hi : i < (filesB B).length) : (filesB B)[i] ∉ (filesB B).take i := by
  intro hm
  obtain ⟨j, hj, e⟩ := List.getElem_of_mem hm
  rw [List.length_take] at hj
  rw [List.getElem_take] at e
  have h1 := nodup_inj (filesB_nodup B) _ _ e
  omega
theorem mixB_at {i : Nat} (hi : i < (filesB B).length) : mixB B D ks i (filesB B)[i] = B (filesB B)[i] := if_neg (fresh_file hi)
theorem mixB_succ {i : Nat} (hi : i < (filesB B).length) : mixB B D ks (i + 1) = upd (mixB B D ks i) (filesB B)[i] (cutB B D ks (filesB B)[i]) := funext fun n => by
  show (if n ∈ (filesB B).take (i + 1) then cutB B D ks n else B n) = if n = (filesB B)[i] then cutB B D ks (filesB B)[i] else if n ∈ (filesB B).take i then cutB B D ks n else B n
  rw [List.take_succ_eq_append_getElem hi]
  by_cases e : n = (filesB B)[i]
  · rw [if_pos e, if_pos (by rw [e]; exact List.mem_append.2 (.inr (List.mem_singleton.2 rfl))), e]
  · rw [if_neg e]
    by_cases h : n ∈ (filesB B).take i
    · rw [if_pos h, if_pos (List.mem_append.2 (.inl h))]
    · rw [if_neg h, if_neg (fun h2 => (List.mem_append.1 h2).elim h (fun h3 => e (List.mem_singleton.1 h3)))]
theorem nil_of_not {n : Nat} (hn : n < 64) (h : n ∉ filesB B) : B n = [] := by
  by_cases e : B n = []
  · exact e
  · exact absurd (filesB_mem.2 ⟨hn, e⟩) h
theorem mixB_all {n : Nat} (hn : n < 64) : mixB B D ks (filesB B).length n = cutB B D ks n := by
  unfold mixB
  rw [List.take_length]
  by_cases h : n ∈ filesB B
  · rw [if_pos h]
  · rw [if_neg h]
    have := nil_of_not hn h
    unfold cutB; rw [this]; simp
theorem looseT_all : looseT B D ks (filesB B).length = looseB B D ks := by unfold looseT looseB; rw [List.take_length]
theorem looseT_succ {i : Nat} (hi : i < (filesB B).length) : looseT B D ks (i + 1) = looseT B D ks i ++ (List.range' (D (filesB B)[i]) ((cutB B D ks (filesB B)[i]).length - D (filesB B)[i])).map fun j => ((filesB B)[i], j) := by
  unfold looseT
  rw [List.take_succ_eq_append_getElem hi, List.flatMap_append]
  simp
theorem looseT_len {i : Nat} (hi : i < (filesB B).length) : (looseT B D ks (i + 1)).length = (looseT B D ks i).length + ((cutB B D ks (filesB B)[i]).length - D (filesB B)[i]) := by
  rw [looseT_succ hi, List.length_append, List.length_map, List.length_range']
theorem looseT_mono {i j : Nat} (h : i ≤ j) : (looseT B D ks i).length ≤ (looseT B D ks j).length := by
  unfold looseT
  have e : (filesB B).take i = ((filesB B).take j).take i := by rw [List.take_take, Nat.min_eq_left h]
  conv => rhs; rw [← List.take_append_drop i ((filesB B).take j)]
  rw [List.flatMap_append, List.length_append, e]
  simp
theorem loose_at {i k : Nat} (hi : i < (filesB B).length) (h1 : D (filesB B)[i] ≤ k) (h2 : k < (cutB B D ks (filesB B)[i]).length) : (looseB B D ks)[(looseT B D ks i).length + (k - D (filesB B)[i])]? = some ((filesB B)[i], k) := by
  have e : looseB B D ks = looseT B D ks (i + 1) ++ ((filesB B).drop (i + 1)).flatMap fun n => (List.range' (D n) ((cutB B D ks n).length - D n)).map fun j => (n, j) := by
    unfold looseB looseT
    rw [← List.flatMap_append, List.take_append_drop]
  rw [e, List.getElem?_append_left (by rw [looseT_len hi]; omega), looseT_succ hi, List.getElem?_append_right (by omega)]
  rw [show (looseT B D ks i).length + (k - D (filesB B)[i]) - (looseT B D ks i).length = k - D (filesB B)[i] by omega, List.getElem?_map, List.getElem?_range' (by omega)]
  simp; omega
theorem atF_lt (h : 0 ≤ atF B D ks fl) : (atF B D ks fl).toNat / 8 < (looseB B D ks).length := by
  unfold atF at *
  split at h
  · rename_i hc
    rw [if_pos hc, Int.toNat_natCast]
    have := Nat.mod_lt fl.toNat (show 8 * (looseB B D ks).length > 0 by omega)
    omega
  · omega
theorem atF_ge : -1 ≤ atF B D ks fl := by unfold atF; split <;> omega
theorem atF_eq (h : 0 ≤ atF B D ks fl) : 0 ≤ fl ∧ (atF B D ks fl).toNat = fl.toNat % (8 * (looseB B D ks).length) := by
  unfold atF at *
  split at h
  · rename_i hc
    rw [if_pos hc]; exact ⟨hc.1, Int.toNat_natCast _⟩
  · omega
theorem midB_zero {n : Nat} : midB B D ks fl 0 n = cutB B D ks n := if_neg (by omega)
theorem midB_end {n : Nat} : midB B D ks fl (looseB B D ks).length n = crashB B D ks fl n := by
  unfold midB
  by_cases h : 0 ≤ atF B D ks fl
  · rw [if_pos ⟨h, atF_lt h⟩]
  · rw [if_neg (fun e => h e.1)]
    by_cases h0 : fl < 0
    · rw [crashB_calm _ _ _ _ _ h0]
    · have hl : ¬ 0 < (looseB B D ks).length := fun hl => h (by unfold atF; rw [if_pos ⟨by omega, hl⟩]; omega)
      have he : looseB B D ks = [] := List.eq_nil_of_length_eq_zero (by omega)
      unfold crashB
      rw [if_neg h0, he]; rfl
theorem midB_len {j n : Nat} : (midB B D ks fl j n).length = (cutB B D ks n).length := by
  unfold midB; split
  · exact crashB_len _ _ _ _ _
  · rfl
theorem midB_skip {j : Nat} {a : Int} (ha : a = atF B D ks fl - 8 * j) (h : ¬ (0 ≤ a ∧ a < 8)) : midB B D ks fl (j + 1) = midB B D ks fl j := funext fun n => by
  unfold midB
  by_cases h0 : 0 ≤ atF B D ks fl
  · by_cases h1 : (atF B D ks fl).toNat / 8 < j
    · rw [if_pos ⟨h0, by omega⟩, if_pos ⟨h0, h1⟩]
    · rw [if_neg (fun e => by have := e.2; omega), if_neg (fun e => h1 e.2)]
  · rw [if_neg (fun e => h0 e.1), if_neg (fun e => h0 e.1)]
theorem midB_flip {i k : Nat} {a : Int} (hi : i < (filesB B).length) (h1 : D (filesB B)[i] ≤ k) (h2 : k < (cutB B D ks (filesB B)[i]).length) (ha : a = atF B D ks fl - 8 * ((looseT B D ks i).length + (k - D (filesB B)[i]) : Nat)) (h0 : 0 ≤ a) (h8 : a < 8) :
    midB B D ks fl ((looseT B D ks i).length + (k - D (filesB B)[i])) = cutB B D ks ∧ midB B D ks fl ((looseT B D ks i).length + (k - D (filesB B)[i]) + 1) = upd (cutB B D ks) (filesB B)[i] (turnB (cutB B D ks (filesB B)[i]) k a.toNat) := by
  have hat : 0 ≤ atF B D ks fl := by omega
  obtain ⟨hf, he⟩ := atF_eq hat
  have hd : (atF B D ks fl).toNat / 8 = (looseT B D ks i).length + (k - D (filesB B)[i]) := by omega
  refine ⟨funext fun n => if_neg (fun e => by have := e.2; omega), funext fun n => ?_⟩
  unfold midB
  rw [if_pos ⟨hat, by omega⟩]
  unfold crashB
  rw [if_neg (by omega), ← he, hd, loose_at hi h1 h2]
  show (if n = (filesB B)[i] then turnB (cutB B D ks n) k _ else _) = upd _ _ _ n
  unfold upd
  by_cases e : n = (filesB B)[i]
  · rw [if_pos e, if_pos e, e, show (atF B D ks fl).toNat % 8 = a.toNat by omega]
  · rw [if_neg e, if_neg e]
theorem cut_fi {i : Nat} (hi : i < (filesB B).length) : cutB B D ks (filesB B)[i] = (B (filesB B)[i]).take (D (filesB B)[i] + keepK ks i ((B (filesB B)[i]).length - D (filesB B)[i])) := by
  unfold cutB; rw [idx_files hi]
end
def rowsL (fs : List Nat) (B : Nat → List UInt8) (x : Nat → RdX) : List Rc := fs.map fun n => (B n, x n)
theorem rowsL_len (fs : List Nat) (B : Nat → List UInt8) (x : Nat → RdX) : (rowsL fs B x).length = fs.length := by simp [rowsL]
theorem rowsL_cg {fs : List Nat} {B B' : Nat → List UInt8} {x x' : Nat → RdX} (h : ∀ n, n ∈ fs → B n = B' n ∧ x n = x' n) : rowsL fs B x = rowsL fs B' x' := List.map_congr_left fun n hn => by rw [(h n hn).1, (h n hn).2]
theorem rowsL_snoc (fs : List Nat) (n : Nat) (B : Nat → List UInt8) (x : Nat → RdX) : rowsL (fs ++ [n]) B x = rowsL fs B x ++ [(B n, x n)] := by simp [rowsL]
theorem listV_cg {B B' : Nat → List UInt8} {x : Nat → RdX} (h : ∀ n, n < 64 → (B n).length = (B' n).length) : listV (rowsF B x) = listV (rowsF B' x) := by
  unfold listV rowsF
  rw [List.map_map, List.map_map]
  refine List.map_congr_left fun n hn => ?_
  show Value.slice _ (B n).length _ = Value.slice _ (B' n).length _
  rw [h n (List.mem_range.1 hn)]
theorem natI_get {l : List Nat} {i : Nat} (h : i < l.length) : (ints (natI l))[((i : Nat) : Int).toNat * 1]? = some (I (l[i] : Nat)) := by
  have h1 : i < (natI l).length := by rw [natI_len]; exact h
  rw [Nat.mul_one, Int.toNat_natCast, ints_get h1]
  simp [natI]
theorem natI_ne {l : List Nat} {i : Nat} (h : i < l.length) : ints (natI l) ≠ [] := ints_ne (by rw [natI_len]; omega)
theorem St.allB_files {w : World} {M : List HP} {F : List Fact} {B B' : Nat → List UInt8} {x : Nat → RdX} (hA : AllB (rowsL (filesB B) B' x) ∈ F) (h0 : ∀ n, n < 64 → B n = [] → B' n = []) (h : St w M F) : St w M (AllB (rowsF B' x) :: F) := h.derive fun K hf p hp => by
  obtain ⟨n, hn, rfl⟩ := List.mem_map.1 hp
  have hn2 := List.mem_range.1 hn
  by_cases e : n ∈ filesB B
  · exact hf _ hA (B' n, x n) (List.mem_map.2 ⟨n, e, rfl⟩)
  · have := h0 n hn2 (nil_of_not hn2 e)
    rw [this]; exact .inl rfl
theorem RfOk.crash {s : Rf} {ks : List Int} {fl : Int} {X : Nat → RdX} (h : RfOk s) (hc : ∀ n, n < 64 → (crashB s.a.B s.a.D ks fl n).length ≤ (X n).c) : RfOk { s with a := crashA s.a ks fl, x := X, pl := -1 } :=
  ⟨rfl, (by decide : (-2 : Int) ≤ -1), (by decide : (-1 : Int) ≤ 4611686018427387904), fun _ _ => Nat.le_refl _, hc, Nat.le_trans (usedT_le (i := 64) (fun n _ => by show (crashB _ _ _ _ n).length ≤ _; rw [crashB_len]; exact cutB_len _ _ _ _) (Nat.le_refl _)) h.us, h.rm⟩
theorem turn_store {b : List UInt8} {u q : Nat} (hu : u < b.length) : (bytesV b).take (0 + ((u : Nat) : Int).toNat * 1) ++ [B8 (b[u].toNat ^^^ (1 * 2 ^ (7 - q) % 256))] ++ (bytesV b).drop (0 + ((u : Nat) : Int).toNat * 1 + 1) = bytesV (turnB b u q) := by
  rw [Nat.zero_add, Nat.mul_one, Int.toNat_natCast, splice_set _ _ _ (by rw [bytesV_length]; exact hu)]
  unfold turnB flipB bytesV
  rw [List.map_set]
  congr 1
  have h1 : 2 ^ (7 - q) < 256 := Nat.lt_of_le_of_lt (Nat.pow_le_pow_right (by decide) (show 7 - q ≤ 7 by omega)) (by decide)
  have h2 : b[u].toNat ^^^ 2 ^ (7 - q) < 2 ^ 8 := Nat.xor_lt_two_pow (UInt8.toNat_lt _) h1
  rw [Nat.one_mul, Nat.mod_eq_of_lt h1, List.getD_eq_getElem?_getD, List.getElem?_eq_getElem hu, Option.getD_some]
  show Value.int .u8 _ = Value.int .u8 _
  rw [UInt8.toNat_ofNat', Nat.mod_eq_of_lt h2]
theorem rowsL_put {fs : List Nat} {B : Nat → List UInt8} {x : Nat → RdX} {e i : Nat} (hi : i < fs.length) (hn : fs.Nodup) (v : List UInt8) :
    ((rowsL fs B x).map (ownR e)).take i ++ OwnSl e 1 (x fs[i]).oa v.length (x fs[i]).c (bytesV v) :: ((rowsL fs B x).map (ownR e)).drop (i + 1) = (rowsL fs (upd B fs[i] v) x).map (ownR e) := by
  have hl : i < ((rowsL fs B x).map (ownR e)).length := by rw [List.length_map, rowsL_len]; exact hi
  have h1 : ((rowsL fs B x).map (ownR e)).take i ++ OwnSl e 1 (x fs[i]).oa v.length (x fs[i]).c (bytesV v) :: ((rowsL fs B x).map (ownR e)).drop (i + 1) = ((rowsL fs B x).map (ownR e)).set i (ownR e (v, x fs[i])) := by
    rw [List.set_eq_take_append_cons_drop, if_pos hl]; rfl
  rw [h1]
  refine List.ext_getElem (by simp [rowsL]) fun j h2 h3 => ?_
  have hj : j < fs.length := by simpa [rowsL] using h3
  rw [List.getElem_set]
  simp only [rowsL, List.getElem_map]
  unfold upd
  by_cases e2 : i = j
  · subst e2; simp
  · rw [if_neg e2, if_neg (fun e3 => e2 (nodup_inj hn _ _ e3.symm))]
theorem rowsL_at {fs : List Nat} {B : Nat → List UInt8} {x : Nat → RdX} {e i : Nat} (hi : i < ((rowsL fs B x).map (ownR e)).length) (h2 : i < fs.length) : ((rowsL fs B x).map (ownR e))[i] = OwnSl e 1 (x fs[i]).oa (B fs[i]).length (x fs[i]).c (bytesV (B fs[i])) := by
  rw [List.getElem_map]
  simp [rowsL, ownR]
end Go.GL

namespace Go.Proofs.YtdlpaojkkekdlaaGreat
open Go.GL
set_option linter.unusedVariables false
theorem eb_ni39 : noInt Tryz.prog 39 = true := by kernel_rfl
theorem eb_te5 : tyElem Tryz.prog 5 1 1 = true := by kernel_rfl
theorem eb_tf50_1 : fieldOff Tryz.prog 50 1 1 = true := by kernel_rfl
theorem eb_tf50_2 : fieldOff Tryz.prog 50 2 2 = true := by kernel_rfl
theorem eb_tf50_3 : fieldOff Tryz.prog 50 3 3 = true := by kernel_rfl
theorem eb_tf50_4 : fieldOff Tryz.prog 50 4 4 = true := by kernel_rfl
theorem eb_ti3 : tyInt Tryz.prog 3 .i64 = true := by kernel_rfl
theorem eb_ti70 : tyInt Tryz.prog 70 .u64 = true := by kernel_rfl
theorem eb_tl22 : tySlice Tryz.prog 22 3 = true := by kernel_rfl
theorem eb_tl29 : tySlice Tryz.prog 29 39 = true := by kernel_rfl
theorem eb_tl39 : tySlice Tryz.prog 39 5 = true := by kernel_rfl
theorem eb_ts22 : tyScalar Tryz.prog 22 = true := by kernel_rfl
theorem eb_ts29 : tyScalar Tryz.prog 29 = true := by kernel_rfl
theorem eb_ts3 : tyScalar Tryz.prog 3 = true := by kernel_rfl
theorem eb_ts39 : tyScalar Tryz.prog 39 = true := by kernel_rfl
theorem eb_ts4 : tyScalar Tryz.prog 4 = true := by kernel_rfl
theorem eb_ts5 : tyScalar Tryz.prog 5 = true := by kernel_rfl
theorem eb_tz3 : tySize Tryz.prog 3 1 = true := by kernel_rfl
theorem eb_tz39 : tySize Tryz.prog 39 1 = true := by kernel_rfl
theorem eb_tz5 : tySize Tryz.prog 5 1 = true := by kernel_rfl
structure CsX where
  i : Nat
  X : Nat → RdX

set_option maxHeartbeats 4000000 in
theorem rcrash_spec {ks : List Int} {fl : Int} {ok : Option Addr} {ck : Nat} {b : Nat} {s : Rf} {M : List HP} {F : List Fact} (h : RfOk s) (hA : AllB (rowsF s.a.B s.x) ∈ F) (hK : ArrF ok (ints ks) ∈ F) (hks : IntsOk ks) (hfl : I64 fl) : Ctr Tryz.prog 12 [.pointer (some ⟨b, 0, none⟩), .slice ok ks.length ck, I fl] (Box b 50 (rfC (s)) :: OwnSl 39 1 (s).ba 64 64 (listV (rowsF (s).a.B (s).x)) :: OwnSl 3 1 (s).fa 64 64 (ints (firmF (s).a.D)) :: M) F {q : Rf // RfOk q ∧ q.a = crashA s.a ks fl} (fun _ => .tuple #[]) (fun q => Box b 50 (rfC (q.1)) :: OwnSl 39 1 (q.1).ba 64 64 (listV (rowsF (q.1).a.B (q.1).x)) :: OwnSl 3 1 (q.1).fa 64 64 (ints (firmF (q.1).a.D)) :: M) (fun q => AllB (rowsF q.1.a.B q.1.x) :: F) := by
  refine Ctr.body Tryz.func12 rfl rfl ?_
  refine TR.seq ?_
  refine TR.openP (fun w hw => own_at (i := 1) (M := _ :: _ :: _ :: M) rfl (rowsF_ne _ _) hw) (fun gb hb => ?_)
  refine TR.openP (fun w hw => own_at (i := 2) (M := _ :: _ :: _ :: M) rfl (firmF_ne _) hw) (fun gf hf => ?_)
  refine TR.region ?_
  refine RL.move rfl rfl rfl ?_
  refine RL.call rfl rfl Tryz.call33 rfl (rfiles_spec) (fun z0 => ?_)
  refine RL.weak (fun w hw => hw.keepSl) ?_
  refine RL.assign rfl rfl rfl ?_
  refine RL.nil ?_
  refine NX.seq ?_
  refine TR.seq ?_
  refine TR.region ?_
  refine RL.assign rfl rfl rfl ?_
  refine RL.nil ?_
  refine NX.seq ?_
  refine TR.seq ?_
  refine TR.seq ?_
  refine TR.region ?_
  refine RL.assign rfl rfl rfl ?_
  refine RL.nil ?_
  refine NX.seq ?_
  refine TR.block ?_
  refine TR.loopP (ι := CsX) (fun x => x.i ≤ (filesB s.a.B).length ∧ (∀ n, n ∉ (filesB s.a.B).take x.i → x.X n = s.x n) ∧ (looseT s.a.B s.a.D ks x.i).length ≤ x.i * 16777216) (fun x => [(0, .pointer (some ⟨b, 0, none⟩)), (1, .slice ok ks.length ck), (2, I fl), (6, .slice z0.1 (filesB s.a.B).length z0.2), (7, I ((looseT s.a.B s.a.D ks x.i).length : Nat)), (8, I (x.i : Nat))]) (fun x => Al ((rowsL ((filesB s.a.B).take x.i) (cutB s.a.B s.a.D ks) x.X).map (ownR 5)) :: Box b 50 (rfC s) :: OwnSl 39 1 s.ba 64 64 (listV (rowsF (mixB s.a.B s.a.D ks x.i) x.X)) :: OwnSl 3 1 s.fa 64 64 (ints (firmF s.a.D)) :: M) (fun x => ArrF z0.1 (ints (natI (filesB s.a.B))) :: F) (fun x => (filesB s.a.B).length - x.i) ⟨0, s.x⟩ ⟨Nat.zero_le _, fun _ _ => rfl, Nat.zero_le _⟩ ⟨rfl, rfl, rfl, rfl, rfl, rfl, trivial⟩ (fun w hw => (by simp only [mixB_zero]; exact St.alNil hw)) (fun x hx => ?_)
  refine TR.seq ?_
  refine TR.seq ?_
  refine TR.region ?_
  refine RL.move rfl rfl rfl ?_
  refine RL.move rfl rfl rfl ?_
  refine RL.lenSlice rfl eb_tl22 rfl rfl ?_
  refine RL.bin rfl rfl rfl BinV.lss rfl ?_
  refine RL.nil ?_
  refine NX.seq ?_
  refine TR.cond rfl (fun h1 => ?_) (fun h1 => ?_)
  · skip
    have hi : x.i < (filesB s.a.B).length := by have := of_decide_eq_true h1; omega
    have hfl64 := filesB_len s.a.B
    obtain ⟨f, hff⟩ : ∃ f, f = (filesB s.a.B)[x.i]'hi := ⟨_, rfl⟩
    have hf64 : f < 64 := by rw [hff]; exact (filesB_mem.1 (List.getElem_mem hi)).1
    have hrl := used_one (B := s.a.B) hf64
    have hus := h.us
    have hrm := h.rm
    have hde := h.le f hf64
    have hcp := h.cp f hf64
    have hcl := cutB_len s.a.B s.a.D ks f
    have hcut : (cutB s.a.B s.a.D ks) f = (s.a.B f).take (s.a.D f + keepK ks x.i ((s.a.B f).length - s.a.D f)) := by rw [hff]; exact cut_fi hi
    have hkl := keepK_le ks x.i ((s.a.B f).length - s.a.D f)
    have hcle : ((cutB s.a.B s.a.D ks) f).length = s.a.D f + keepK ks x.i ((s.a.B f).length - s.a.D f) := by rw [hcut, List.length_take, Nat.min_eq_left (by omega)]
    have hll : (looseT s.a.B s.a.D ks (x.i + 1)).length = (looseT s.a.B s.a.D ks x.i).length + keepK ks x.i ((s.a.B f).length - s.a.D f) := by rw [looseT_len hi, ← hff]; omega
    have hlo := hx.2.2
    have hXf : x.X f = s.x f := hx.2.1 f (by rw [hff]; exact fresh_file hi)
    have hmf : (mixB s.a.B s.a.D ks x.i) f = s.a.B f := by rw [hff]; exact mixB_at hi
    have hget : (listV (rowsF (mixB s.a.B s.a.D ks x.i) x.X))[0 + ((f : Nat) : Int).toNat * 1]? = some (.slice (s.x f).oa (s.a.B f).length (s.x f).c) := by rw [rowsF_get rfl hf64, hXf, hmf]
    refine TR.openP (open_arr (oa := z0.1) (xs := ints (natI (filesB s.a.B))) (.head _) (natI_ne hi)) (fun pq hpa => ?_)
    refine TR.skip ?_
    refine NX.seq ?_
    refine TR.seq ?_
    refine TR.block ?_
    refine TR.seq ?_
    refine TR.region ?_
    refine RL.move rfl rfl rfl ?_
    refine RL.move rfl rfl rfl ?_
    refine RL.indexAddr rfl eb_tl22 eb_tz3 (congrArg (fun a => some (Value.slice a _ _)) hpa) rfl (by omega) (by omega) rfl ?_
    refine RL.loadF rfl rfl (fun w K hF => run_loadCell1 (j := ((x.i : Nat) : Int).toNat * 1) (v := I (f : Nat)) (hF (CellsF pq.1 pq.2 (ints (natI (filesB s.a.B)))) (.head _)) eb_ts3 (by rw [hff]; exact natI_get hi)) rfl ?_
    refine RL.assign rfl rfl rfl ?_
    refine RL.nil ?_
    refine NX.seq ?_
    refine TR.seq ?_
    refine TR.region ?_
    refine RL.assign rfl rfl rfl ?_
    refine RL.nil ?_
    refine NX.seq ?_
    refine TR.seq ?_
    refine TR.seq ?_
    refine TR.region ?_
    refine RL.move rfl rfl rfl ?_
    refine RL.move rfl rfl rfl ?_
    refine RL.lenSlice rfl eb_tl22 rfl rfl ?_
    refine RL.bin rfl rfl rfl BinV.lss rfl ?_
    refine RL.nil ?_
    refine NX.seq ?_
    refine TR.cond rfl (fun h2 => ?_) (fun h2 => ?_)
    · skip
      have hik : x.i < ks.length := by have := of_decide_eq_true h2; omega
      have hkk := (keepK_some (room := (s.a.B f).length - s.a.D f) (List.getElem?_eq_getElem hik)).symm
      refine TR.openP (open_arr (oa := ok) (xs := ints ks) (.tail _ (.tail _ hK)) (ints_ne (by omega))) (fun pk hpk => ?_)
      refine TR.sub (E' := [(0, _), (1, _), (2, _), (6, _), (7, _), (8, _), (9, _), (19, _), (20, _), (21, _), (22, _), (25, _), (26, _), (27, _), (28, _), (29, _), (30, _), (31, _), (32, _)]) ⟨rfl, rfl, rfl, rfl, rfl, rfl, rfl, rfl, rfl, rfl, rfl, rfl, rfl, rfl, rfl, rfl, rfl, rfl, rfl, trivial⟩ ?_
      refine TR.draw mixed ?_
      apply AR.more [(0, _), (1, _), (2, _), (3, _), (4, _), (5, _), (6, _), (7, _), (8, _), (9, _), (10, _), (11, _), (12, _), (13, _), (14, _), (15, _), (16, _), (17, _), (18, _), (19, _), (20, _), (21, _), (22, _)]
      refine AR.last [0, 1, 2, 3, 4, 5, 6, 7, 8, 9, 10, 11, 12, 13, 14, 15, 16, 17, 18, 19, 20, 21, 22] [0, 1, 2, 3, 4, 5, 6, 7, 8, 9, 10, 11, 12, 13, 14, 15, 16, 17, 18, 19, 20, 21, 22] ⟨QOne.yes rfl rfl rfl (PV.move rfl), QOne.yes rfl rfl rfl (PV.move rfl), QOne.yes rfl rfl rfl (PV.indexAddr eb_tl22 eb_tz3 (congrArg (fun a => some (Value.slice a _ _)) hpk) rfl (by omega) (by omega)), QOne.yes rfl rfl rfl (PV.loadF rfl (fun w K hF => run_loadCell1 (j := (((x.i : Nat) : Int)).toNat * 1) (v := I ks[x.i]) (hF (CellsF pk.1 pk.2 (ints ks)) (.head _)) eb_ts3 (by rw [Nat.mul_one, Int.toNat_natCast]; exact ints_get hik))), QOne.yes rfl rfl rfl (PV.move rfl), QOne.yes rfl rfl rfl (PV.nilCheck rfl), QOne.yes rfl rfl rfl (PV.fieldAddr eb_tf50_1 rfl), QOne.yes rfl rfl rfl (PV.load1 1 eb_ts29 rfl rfl rfl), QOne.yes rfl rfl rfl (PV.move rfl), QOne.yes rfl rfl rfl (PV.indexAddr eb_tl29 eb_tz39 (congrArg (fun a => some (Value.slice a _ _)) hb) rfl (by omega) (by omega)), QOne.yes rfl rfl rfl (PV.loadS rfl (own_one (i := 2) rfl hb eb_ts39 hget)), QOne.yes rfl rfl rfl (PV.lenSlice eb_tl39 rfl), QOne.yes rfl rfl rfl (PV.move rfl), QOne.yes rfl rfl rfl (PV.nilCheck rfl), QOne.yes rfl rfl rfl (PV.fieldAddr eb_tf50_2 rfl), QOne.yes rfl rfl rfl (PV.load1 1 eb_ts22 rfl rfl rfl), QOne.yes rfl rfl rfl (PV.move rfl), QOne.yes rfl rfl rfl (PV.indexAddr eb_tl22 eb_tz3 (congrArg (fun a => some (Value.slice a _ _)) hf) rfl (by omega) (by omega)), QOne.yes rfl rfl rfl (PV.loadS rfl (own_one (i := 3) rfl hf eb_ts3 (firmF_get (n := f) (by omega) (by omega)))), QOne.yes rfl rfl rfl (PV.bin rfl rfl (BinV.sub (((s.a.B f).length - s.a.D f : Nat) : Int) (by omega) (by omega) (by omega))), QOne.yes rfl rfl rfl (PV.min rfl rfl), QOne.yes rfl rfl rfl (PV.max rfl rfl), QOne.yes rfl rfl rfl (PV.assign rfl), trivial⟩ rfl rfl rfl ?_
      refine NX.sub (E' := [(0, _), (1, _), (2, _), (6, _), (7, _), (8, _), (9, _), (10, _), (19, _), (20, _), (21, _), (22, _), (25, _), (26, _), (27, _), (28, _), (29, _), (30, _), (31, _), (32, _), (33, _), (34, _), (35, _), (36, _), (37, _), (38, _), (39, _), (40, _), (41, _), (42, _), (43, _), (44, _), (45, _), (46, _), (47, _), (48, _), (49, _), (50, _), (51, _), (52, _), (53, _), (54, _)]) ⟨rfl, rfl, rfl, rfl, rfl, rfl, rfl, rfl, rfl, rfl, rfl, rfl, rfl, rfl, rfl, rfl, rfl, rfl, rfl, rfl, rfl, rfl, rfl, rfl, rfl, rfl, rfl, rfl, rfl, rfl, rfl, rfl, rfl, rfl, rfl, rfl, rfl, rfl, rfl, rfl, rfl, rfl, trivial⟩ ?_
      refine NX.seq ?_
      refine TR.seq ?_
      refine TR.region ?_
      refine RL.assign rfl rfl rfl ?_
      refine RL.nil ?_
      refine NX.seq ?_
      refine TR.seq ?_
      refine TR.weak (fun w hw => OwnSl.nil_new 5 1 hw) ?_
      refine TR.weak (fun w hw => hw.allB_get (.tail _ (.tail _ (.tail _ hA))) (rowsF_mem hf64)) ?_
      refine TR.weak (fun w hw => hw.cutT (s.a.D f + keepK ks x.i ((s.a.B f).length - s.a.D f)) hcp (.head _)) ?_
      refine TR.sub (E' := [(0, _), (1, _), (2, _), (6, _), (7, _), (8, _), (9, _), (10, _), (11, _), (19, _), (20, _), (21, _), (22, _), (25, _), (26, _), (27, _), (28, _), (29, _), (30, _), (31, _), (32, _), (33, _), (34, _), (35, _), (36, _), (37, _), (38, _), (39, _), (40, _), (41, _), (42, _), (43, _), (44, _), (45, _), (46, _), (47, _), (48, _), (49, _), (50, _), (51, _), (52, _), (53, _), (54, _)]) ⟨rfl, rfl, rfl, rfl, rfl, rfl, rfl, rfl, rfl, rfl, rfl, rfl, rfl, rfl, rfl, rfl, rfl, rfl, rfl, rfl, rfl, rfl, rfl, rfl, rfl, rfl, rfl, rfl, rfl, rfl, rfl, rfl, rfl, rfl, rfl, rfl, rfl, rfl, rfl, rfl, rfl, rfl, rfl, trivial⟩ ?_
      refine TR.draw mixed ?_
      apply AR.more [(0, _), (1, _), (2, _), (3, _), (4, _), (5, _), (6, _), (7, _), (8, _), (9, _), (10, _), (11, _), (12, _), (13, _), (14, _), (15, _), (16, _), (17, _), (18, _), (19, _), (20, _), (21, _), (22, _)]
      refine AR.eff [0, 1, 2, 3, 4, 5, 6, 7, 8, 9, 10, 11, 12, 13, 14, 15, 16, 17, 18, 19, 20, 21, 22] 23 [0, 1, 2, 3, 4, 5, 6, 7, 8, 9, 10, 11, 12, 13, 14, 15, 16, 17, 18, 19, 20, 21, 22, 23, 24, 25] ⟨QOne.yes rfl rfl rfl (PV.move rfl), QOne.yes rfl rfl rfl (PV.nilCheck rfl), QOne.yes rfl rfl rfl (PV.fieldAddr eb_tf50_1 rfl), QOne.yes rfl rfl rfl (PV.load1 2 eb_ts29 rfl rfl rfl), QOne.yes rfl rfl rfl (PV.move rfl), QOne.yes rfl rfl rfl (PV.move rfl), QOne.yes rfl rfl rfl (PV.move rfl), QOne.yes rfl rfl rfl (PV.nilCheck rfl), QOne.yes rfl rfl rfl (PV.fieldAddr eb_tf50_1 rfl), QOne.yes rfl rfl rfl (PV.load1 2 eb_ts29 rfl rfl rfl), QOne.yes rfl rfl rfl (PV.move rfl), QOne.yes rfl rfl rfl (PV.indexAddr eb_tl29 eb_tz39 (congrArg (fun a => some (Value.slice a _ _)) hb) rfl (by omega) (by omega)), QOne.yes rfl rfl rfl (PV.loadS rfl (own_one (i := 3) rfl hb eb_ts39 hget)), QOne.yes rfl rfl rfl (PV.move rfl), QOne.yes rfl rfl rfl (PV.nilCheck rfl), QOne.yes rfl rfl rfl (PV.fieldAddr eb_tf50_2 rfl), QOne.yes rfl rfl rfl (PV.load1 2 eb_ts22 rfl rfl rfl), QOne.yes rfl rfl rfl (PV.move rfl), QOne.yes rfl rfl rfl (PV.indexAddr eb_tl22 eb_tz3 (congrArg (fun a => some (Value.slice a _ _)) hf) rfl (by omega) (by omega)), QOne.yes rfl rfl rfl (PV.loadS rfl (own_one (i := 4) rfl hf eb_ts3 (firmF_get (n := f) (by omega) (by omega)))), QOne.yes rfl rfl rfl (PV.move rfl), QOne.yes rfl rfl rfl (PV.bin rfl rfl (BinV.add ((s.a.D f + keepK ks x.i ((s.a.B f).length - s.a.D f)) : Nat) (by omega) (by omega) (by omega))), QOne.yes rfl rfl rfl (PV.cast (v' := .slice (cutA (s.x f).oa 0 (s.x f).c 1) ((cutB s.a.B s.a.D ks) f).length (s.x f).c) (by rw [hcle]; rfl) (PV.sliceLH (l := 0) (h := (s.a.D f + keepK ks x.i ((s.a.B f).length - s.a.D f))) eb_tl39 eb_tz5 rfl (.inl ⟨rfl, rfl⟩) (.inr ⟨_, rfl, rfl⟩) (Nat.zero_le _) (by omega))), trivial⟩ rfl rfl rfl rfl rfl rfl rfl (EV.ofGV (GV.append (j := 0) eb_tl39 eb_ni39 eb_te5 rfl rfl rfl (src_fact (xs := bytesV ((s.a.B f).take (s.a.D f + keepK ks x.i ((s.a.B f).length - s.a.D f)))) (.head _) (by rw [bytesV_length, Nat.mul_one, hcut]) (bytesV_one _)) (by omega) (by omega))) (fun z2 => ?_)
      refine AR.done [5, 22, 12, 21, 19, 20, 11, 9, 10, 18, 16, 17, 8, 7, 15, 14, 6, 13] rfl ?_
      apply AR.more [(24, _)]
      refine AR.eff [0, 1, 2, 3, 4, 24] 25 [0, 1, 2, 3, 4, 5, 6, 7, 8, 9, 10, 11, 12, 13, 14, 15, 16, 17, 18, 19, 20, 21, 22, 23, 24, 25] ⟨QOne.yes rfl rfl rfl (PV.move rfl), QOne.yes rfl rfl rfl (PV.nilCheck rfl), QOne.yes rfl rfl rfl (PV.fieldAddr eb_tf50_1 rfl), QOne.yes rfl rfl rfl (PV.load1 2 eb_ts29 rfl rfl rfl), QOne.yes rfl rfl rfl (PV.move rfl), QOne.yes rfl rfl rfl (PV.indexAddr eb_tl29 eb_tz39 (congrArg (fun a => some (Value.slice a _ _)) hb) rfl (by omega) (by omega)), trivial⟩ rfl rfl rfl rfl rfl rfl rfl (EV.storeRow (n := f) (z := ⟨z2.1, z2.2⟩) (l := ((cutB s.a.B s.a.D ks) f)) 3 rfl (by show some (Value.slice z2.1 (0 + _) z2.2) = some (Value.slice z2.1 _ z2.2); rw [Nat.zero_add]) rfl hb eb_tz39 (by omega) (by omega)) (fun _ => ?_)
      refine AR.done [24, 0, 1, 2, 3, 4] rfl ?_
      refine AR.last [] [0, 1, 2, 3, 4, 5, 6, 7, 8, 9, 10, 11, 12, 13, 14, 15, 16, 17, 18, 19, 20, 21, 22, 23, 24, 25] trivial rfl rfl rfl ?_
      refine NX.sub (E' := [(0, _), (1, _), (2, _), (6, _), (7, _), (8, _), (9, _), (10, _), (11, _), (19, _), (20, _), (21, _), (22, _), (25, _), (26, _), (27, _), (28, _), (29, _), (30, _), (31, _), (32, _), (33, _), (34, _), (35, _), (36, _), (37, _), (38, _), (39, _), (40, _), (41, _), (42, _), (43, _), (44, _), (45, _), (46, _), (47, _), (48, _), (49, _), (50, _), (51, _), (52, _), (53, _), (54, _), (55, _), (56, _), (57, _), (58, _), (59, _), (60, _), (61, _), (62, _), (63, _), (64, _), (65, _), (66, _), (67, _), (68, _), (69, _), (70, _), (71, _), (72, _), (73, _), (74, _), (75, _), (76, _), (77, _), (78, _), (79, _)]) ⟨rfl, rfl, rfl, rfl, rfl, rfl, rfl, rfl, rfl, rfl, rfl, rfl, rfl, rfl, rfl, rfl, rfl, rfl, rfl, rfl, rfl, rfl, rfl, rfl, rfl, rfl, rfl, rfl, rfl, rfl, rfl, rfl, rfl, rfl, rfl, rfl, rfl, rfl, rfl, rfl, rfl, rfl, rfl, rfl, rfl, rfl, rfl, rfl, rfl, rfl, rfl, rfl, rfl, rfl, rfl, rfl, rfl, rfl, rfl, rfl, rfl, rfl, rfl, rfl, rfl, rfl, rfl, rfl, trivial⟩ ?_
      refine NX.seq ?_
      refine TR.pick 5 [0, 1, 2, 3, 4] rfl ?_
      refine TR.weak (M' := OwnSl 5 1 z2.1 ((cutB s.a.B s.a.D ks) f).length z2.2 (bytesV ((cutB s.a.B s.a.D ks) f)) :: _) (F' := _) (fun w hw => by rw [← Nat.zero_add ((cutB s.a.B s.a.D ks) f).length]; have e9 : bytesV ((cutB s.a.B s.a.D ks) f) = [] ++ bytesV ((s.a.B f).take (s.a.D f + keepK ks x.i ((s.a.B f).length - s.a.D f))) := (congrArg bytesV hcut).trans rfl; rw [e9]; exact hw) ?_
      refine TR.region ?_
      refine RL.move rfl rfl rfl ?_
      refine RL.move rfl rfl rfl ?_
      refine RL.bin rfl rfl rfl (BinV.add (((looseT s.a.B s.a.D ks (x.i + 1)).length : Nat) : Int) (by omega) (by omega) (by omega)) rfl ?_
      refine RL.assign rfl rfl rfl ?_
      refine RL.nil ?_
      refine NX.off ?_
      refine NX.seq ?_
      refine TR.region ?_
      refine RL.move rfl rfl rfl ?_
      refine RL.bin rfl rfl rfl (BinV.add ((x.i + 1 : Nat) : Int) (by omega) (by omega) (by omega)) rfl ?_
      refine RL.assign rfl rfl rfl ?_
      refine RL.nil ?_
      have hrw : (rowsL ((filesB s.a.B).take x.i) (cutB s.a.B s.a.D ks) x.X).map (ownR 5) ++ [OwnSl 5 1 z2.1 ((cutB s.a.B s.a.D ks) f).length z2.2 (bytesV ((cutB s.a.B s.a.D ks) f))] = (rowsL ((filesB s.a.B).take (x.i + 1)) (cutB s.a.B s.a.D ks) (upd x.X f ⟨z2.1, z2.2⟩)).map (ownR 5) := by
        rw [List.take_succ_eq_append_getElem hi, ← hff, rowsL_snoc, List.map_append]
        congr 1
        · congr 1; exact rowsL_cg fun n hn => ⟨rfl, (if_neg (fun e => fresh_file hi (by rw [← hff, ← e]; exact hn))).symm⟩
        · show [_] = [ownR 5 ((cutB s.a.B s.a.D ks) f, upd x.X f _ f)]; unfold upd; rw [if_pos rfl]; rfl
      have hmx : (mixB s.a.B s.a.D ks (x.i + 1)) = upd (mixB s.a.B s.a.D ks x.i) f ((cutB s.a.B s.a.D ks) f) := by rw [mixB_succ hi, ← hff]
      refine NX.roundP ⟨x.i + 1, (upd x.X f ⟨z2.1, z2.2⟩)⟩ ⟨by show x.i + 1 ≤ _; omega, fun n hn => by
              show upd x.X f _ n = s.x n
              have hn2 : n ∉ (filesB s.a.B).take (x.i + 1) := hn
              rw [List.take_succ_eq_append_getElem hi, ← hff] at hn2
              unfold upd
              rw [if_neg (fun e => hn2 (by rw [e]; exact List.mem_append.2 (.inr (List.mem_singleton.2 rfl))))]
              exact hx.2.1 n (fun e => hn2 (List.mem_append.2 (.inl e))), by show (looseT s.a.B s.a.D ks (x.i + 1)).length ≤ (x.i + 1) * 16777216; have := hx.2.2; omega⟩ (by show (filesB s.a.B).length - (x.i + 1) < _; omega) ⟨rfl, rfl, rfl, rfl, rfl, rfl, trivial⟩ (fun w hw => (by
              show St w (Al ((rowsL ((filesB s.a.B).take (x.i + 1)) (cutB s.a.B s.a.D ks) (upd x.X f ⟨z2.1, z2.2⟩)).map (ownR 5)) :: Box b 50 (rfC s) :: OwnSl 39 1 s.ba 64 64 (listV (rowsF (mixB s.a.B s.a.D ks (x.i + 1)) (upd x.X f ⟨z2.1, z2.2⟩))) :: OwnSl 3 1 s.fa 64 64 (ints (firmF s.a.D)) :: M) _
              rw [← hrw, hmx]
              exact (show St w (OwnSl 5 1 z2.1 ((cutB s.a.B s.a.D ks) f).length z2.2 (bytesV ((cutB s.a.B s.a.D ks) f)) :: Al ((rowsL ((filesB s.a.B).take x.i) (cutB s.a.B s.a.D ks) x.X).map (ownR 5)) :: Box b 50 (rfC s) :: OwnSl 39 1 s.ba 64 64 (listV (rowsF (upd (mixB s.a.B s.a.D ks x.i) f ((cutB s.a.B s.a.D ks) f)) (upd x.X f ⟨z2.1, z2.2⟩))) :: OwnSl 3 1 s.fa 64 64 (ints (firmF s.a.D)) :: M) (ArrF z0.1 (ints (natI (filesB s.a.B))) :: F) from (hw.to 5 [0, 1, 2, 3, 4] 5 [4] rfl)).alSnoc))
    · skip
      have hkk : (0 : Int) = ((keepK ks x.i ((s.a.B f).length - s.a.D f) : Nat) : Int) := by
        have := of_decide_eq_false h2
        unfold keepK; rw [List.getElem?_eq_none (by omega)]; rfl
      refine TR.skip ?_
      refine NX.seq ?_
      refine TR.seq ?_
      refine TR.region ?_
      refine RL.assign rfl rfl rfl ?_
      refine RL.nil ?_
      refine NX.seq ?_
      refine TR.seq ?_
      refine TR.weak (fun w hw => OwnSl.nil_new 5 1 hw) ?_
      refine TR.weak (fun w hw => hw.allB_get (.tail _ (.tail _ hA)) (rowsF_mem hf64)) ?_
      refine TR.weak (fun w hw => hw.cutT (s.a.D f + keepK ks x.i ((s.a.B f).length - s.a.D f)) hcp (.head _)) ?_
      refine TR.sub (E' := [(0, _), (1, _), (2, _), (6, _), (7, _), (8, _), (9, _), (10, _), (11, _), (19, _), (20, _), (21, _), (22, _), (25, _), (26, _), (27, _), (28, _), (29, _), (30, _), (31, _), (32, _)]) ⟨rfl, rfl, rfl, rfl, rfl, rfl, rfl, rfl, rfl, rfl, rfl, rfl, rfl, rfl, rfl, rfl, rfl, rfl, rfl, rfl, rfl, trivial⟩ ?_
      refine TR.draw mixed ?_
      apply AR.more [(0, _), (1, _), (2, _), (3, _), (4, _), (5, _), (6, _), (7, _), (8, _), (9, _), (10, _), (11, _), (12, _), (13, _), (14, _), (15, _), (16, _), (17, _), (18, _), (19, _), (20, _), (21, _), (22, _)]
      refine AR.eff [0, 1, 2, 3, 4, 5, 6, 7, 8, 9, 10, 11, 12, 13, 14, 15, 16, 17, 18, 19, 20, 21, 22] 23 [0, 1, 2, 3, 4, 5, 6, 7, 8, 9, 10, 11, 12, 13, 14, 15, 16, 17, 18, 19, 20, 21, 22, 23, 24, 25] ⟨QOne.yes rfl rfl rfl (PV.move rfl), QOne.yes rfl rfl rfl (PV.nilCheck rfl), QOne.yes rfl rfl rfl (PV.fieldAddr eb_tf50_1 rfl), QOne.yes rfl rfl rfl (PV.load1 2 eb_ts29 rfl rfl rfl), QOne.yes rfl rfl rfl (PV.move rfl), QOne.yes rfl rfl rfl (PV.move rfl), QOne.yes rfl rfl rfl (PV.move rfl), QOne.yes rfl rfl rfl (PV.nilCheck rfl), QOne.yes rfl rfl rfl (PV.fieldAddr eb_tf50_1 rfl), QOne.yes rfl rfl rfl (PV.load1 2 eb_ts29 rfl rfl rfl), QOne.yes rfl rfl rfl (PV.move rfl), QOne.yes rfl rfl rfl (PV.indexAddr eb_tl29 eb_tz39 (congrArg (fun a => some (Value.slice a _ _)) hb) rfl (by omega) (by omega)), QOne.yes rfl rfl rfl (PV.loadS rfl (own_one (i := 3) rfl hb eb_ts39 hget)), QOne.yes rfl rfl rfl (PV.move rfl), QOne.yes rfl rfl rfl (PV.nilCheck rfl), QOne.yes rfl rfl rfl (PV.fieldAddr eb_tf50_2 rfl), QOne.yes rfl rfl rfl (PV.load1 2 eb_ts22 rfl rfl rfl), QOne.yes rfl rfl rfl (PV.move rfl), QOne.yes rfl rfl rfl (PV.indexAddr eb_tl22 eb_tz3 (congrArg (fun a => some (Value.slice a _ _)) hf) rfl (by omega) (by omega)), QOne.yes rfl rfl rfl (PV.loadS rfl (own_one (i := 4) rfl hf eb_ts3 (firmF_get (n := f) (by omega) (by omega)))), QOne.yes rfl rfl rfl (PV.move rfl), QOne.yes rfl rfl rfl (PV.bin rfl rfl (BinV.add ((s.a.D f + keepK ks x.i ((s.a.B f).length - s.a.D f)) : Nat) (by omega) (by omega) (by omega))), QOne.yes rfl rfl rfl (PV.cast (v' := .slice (cutA (s.x f).oa 0 (s.x f).c 1) ((cutB s.a.B s.a.D ks) f).length (s.x f).c) (by rw [hcle]; rfl) (PV.sliceLH (l := 0) (h := (s.a.D f + keepK ks x.i ((s.a.B f).length - s.a.D f))) eb_tl39 eb_tz5 rfl (.inl ⟨rfl, rfl⟩) (.inr ⟨_, rfl, rfl⟩) (Nat.zero_le _) (by omega))), trivial⟩ rfl rfl rfl rfl rfl rfl rfl (EV.ofGV (GV.append (j := 0) eb_tl39 eb_ni39 eb_te5 rfl rfl rfl (src_fact (xs := bytesV ((s.a.B f).take (s.a.D f + keepK ks x.i ((s.a.B f).length - s.a.D f)))) (.head _) (by rw [bytesV_length, Nat.mul_one, hcut]) (bytesV_one _)) (by omega) (by omega))) (fun z2 => ?_)
      refine AR.done [5, 22, 12, 21, 19, 20, 11, 9, 10, 18, 16, 17, 8, 7, 15, 14, 6, 13] rfl ?_
      apply AR.more [(24, _)]
      refine AR.eff [0, 1, 2, 3, 4, 24] 25 [0, 1, 2, 3, 4, 5, 6, 7, 8, 9, 10, 11, 12, 13, 14, 15, 16, 17, 18, 19, 20, 21, 22, 23, 24, 25] ⟨QOne.yes rfl rfl rfl (PV.move rfl), QOne.yes rfl rfl rfl (PV.nilCheck rfl), QOne.yes rfl rfl rfl (PV.fieldAddr eb_tf50_1 rfl), QOne.yes rfl rfl rfl (PV.load1 2 eb_ts29 rfl rfl rfl), QOne.yes rfl rfl rfl (PV.move rfl), QOne.yes rfl rfl rfl (PV.indexAddr eb_tl29 eb_tz39 (congrArg (fun a => some (Value.slice a _ _)) hb) rfl (by omega) (by omega)), trivial⟩ rfl rfl rfl rfl rfl rfl rfl (EV.storeRow (n := f) (z := ⟨z2.1, z2.2⟩) (l := ((cutB s.a.B s.a.D ks) f)) 3 rfl (by show some (Value.slice z2.1 (0 + _) z2.2) = some (Value.slice z2.1 _ z2.2); rw [Nat.zero_add]) rfl hb eb_tz39 (by omega) (by omega)) (fun _ => ?_)
      refine AR.done [24, 0, 1, 2, 3, 4] rfl ?_
      refine AR.last [] [0, 1, 2, 3, 4, 5, 6, 7, 8, 9, 10, 11, 12, 13, 14, 15, 16, 17, 18, 19, 20, 21, 22, 23, 24, 25] trivial rfl rfl rfl ?_
      refine NX.sub (E' := [(0, _), (1, _), (2, _), (6, _), (7, _), (8, _), (9, _), (10, _), (11, _), (19, _), (20, _), (21, _), (22, _), (25, _), (26, _), (27, _), (28, _), (29, _), (30, _), (31, _), (32, _), (55, _), (56, _), (57, _), (58, _), (59, _), (60, _), (61, _), (62, _), (63, _), (64, _), (65, _), (66, _), (67, _), (68, _), (69, _), (70, _), (71, _), (72, _), (73, _), (74, _), (75, _), (76, _), (77, _), (78, _), (79, _)]) ⟨rfl, rfl, rfl, rfl, rfl, rfl, rfl, rfl, rfl, rfl, rfl, rfl, rfl, rfl, rfl, rfl, rfl, rfl, rfl, rfl, rfl, rfl, rfl, rfl, rfl, rfl, rfl, rfl, rfl, rfl, rfl, rfl, rfl, rfl, rfl, rfl, rfl, rfl, rfl, rfl, rfl, rfl, rfl, rfl, rfl, rfl, trivial⟩ ?_
      refine NX.seq ?_
      refine TR.pick 5 [0, 1, 2, 3, 4] rfl ?_
      refine TR.weak (M' := OwnSl 5 1 z2.1 ((cutB s.a.B s.a.D ks) f).length z2.2 (bytesV ((cutB s.a.B s.a.D ks) f)) :: _) (F' := _) (fun w hw => by rw [← Nat.zero_add ((cutB s.a.B s.a.D ks) f).length]; have e9 : bytesV ((cutB s.a.B s.a.D ks) f) = [] ++ bytesV ((s.a.B f).take (s.a.D f + keepK ks x.i ((s.a.B f).length - s.a.D f))) := (congrArg bytesV hcut).trans rfl; rw [e9]; exact hw) ?_
      refine TR.region ?_
      refine RL.move rfl rfl rfl ?_
      refine RL.move rfl rfl rfl ?_
      refine RL.bin rfl rfl rfl (BinV.add (((looseT s.a.B s.a.D ks (x.i + 1)).length : Nat) : Int) (by omega) (by omega) (by omega)) rfl ?_
      refine RL.assign rfl rfl rfl ?_
      refine RL.nil ?_
      refine NX.off ?_
      refine NX.seq ?_
      refine TR.region ?_
      refine RL.move rfl rfl rfl ?_
      refine RL.bin rfl rfl rfl (BinV.add ((x.i + 1 : Nat) : Int) (by omega) (by omega) (by omega)) rfl ?_
      refine RL.assign rfl rfl rfl ?_
      refine RL.nil ?_
      have hrw : (rowsL ((filesB s.a.B).take x.i) (cutB s.a.B s.a.D ks) x.X).map (ownR 5) ++ [OwnSl 5 1 z2.1 ((cutB s.a.B s.a.D ks) f).length z2.2 (bytesV ((cutB s.a.B s.a.D ks) f))] = (rowsL ((filesB s.a.B).take (x.i + 1)) (cutB s.a.B s.a.D ks) (upd x.X f ⟨z2.1, z2.2⟩)).map (ownR 5) := by
        rw [List.take_succ_eq_append_getElem hi, ← hff, rowsL_snoc, List.map_append]
        congr 1
        · congr 1; exact rowsL_cg fun n hn => ⟨rfl, (if_neg (fun e => fresh_file hi (by rw [← hff, ← e]; exact hn))).symm⟩
        · show [_] = [ownR 5 ((cutB s.a.B s.a.D ks) f, upd x.X f _ f)]; unfold upd; rw [if_pos rfl]; rfl
      have hmx : (mixB s.a.B s.a.D ks (x.i + 1)) = upd (mixB s.a.B s.a.D ks x.i) f ((cutB s.a.B s.a.D ks) f) := by rw [mixB_succ hi, ← hff]
      refine NX.roundP ⟨x.i + 1, (upd x.X f ⟨z2.1, z2.2⟩)⟩ ⟨by show x.i + 1 ≤ _; omega, fun n hn => by
              show upd x.X f _ n = s.x n
              have hn2 : n ∉ (filesB s.a.B).take (x.i + 1) := hn
              rw [List.take_succ_eq_append_getElem hi, ← hff] at hn2
              unfold upd
              rw [if_neg (fun e => hn2 (by rw [e]; exact List.mem_append.2 (.inr (List.mem_singleton.2 rfl))))]
              exact hx.2.1 n (fun e => hn2 (List.mem_append.2 (.inl e))), by show (looseT s.a.B s.a.D ks (x.i + 1)).length ≤ (x.i + 1) * 16777216; have := hx.2.2; omega⟩ (by show (filesB s.a.B).length - (x.i + 1) < _; omega) ⟨rfl, rfl, rfl, rfl, rfl, rfl, trivial⟩ (fun w hw => (by
              show St w (Al ((rowsL ((filesB s.a.B).take (x.i + 1)) (cutB s.a.B s.a.D ks) (upd x.X f ⟨z2.1, z2.2⟩)).map (ownR 5)) :: Box b 50 (rfC s) :: OwnSl 39 1 s.ba 64 64 (listV (rowsF (mixB s.a.B s.a.D ks (x.i + 1)) (upd x.X f ⟨z2.1, z2.2⟩))) :: OwnSl 3 1 s.fa 64 64 (ints (firmF s.a.D)) :: M) _
              rw [← hrw, hmx]
              exact (show St w (OwnSl 5 1 z2.1 ((cutB s.a.B s.a.D ks) f).length z2.2 (bytesV ((cutB s.a.B s.a.D ks) f)) :: Al ((rowsL ((filesB s.a.B).take x.i) (cutB s.a.B s.a.D ks) x.X).map (ownR 5)) :: Box b 50 (rfC s) :: OwnSl 39 1 s.ba 64 64 (listV (rowsF (upd (mixB s.a.B s.a.D ks x.i) f ((cutB s.a.B s.a.D ks) f)) (upd x.X f ⟨z2.1, z2.2⟩))) :: OwnSl 3 1 s.fa 64 64 (ints (firmF s.a.D)) :: M) (ArrF z0.1 (ints (natI (filesB s.a.B))) :: F) from (hw.to 5 [0, 1, 2, 3, 4] 4 [3] rfl)).alSnoc))
  · skip
    have hend : x.i = (filesB s.a.B).length := by have := of_decide_eq_false h1; have := hx.1; omega
    have hlla : (looseT s.a.B s.a.D ks x.i) = (looseB s.a.B s.a.D ks) := by rw [hend]; exact looseT_all
    have hmr : rowsF (mixB s.a.B s.a.D ks x.i) x.X = rowsF (cutB s.a.B s.a.D ks) x.X := rowsF_cg fun n hn => ⟨by rw [hend]; exact mixB_all hn, rfl⟩
    have hal : (filesB s.a.B).take x.i = (filesB s.a.B) := by rw [hend, List.take_length]
    have hfl64 := filesB_len s.a.B
    have hlo := hx.2.2
    refine TR.exit ?_
    refine NX.exitThen ?_
    refine NX.exitThen ?_
    refine NX.exitHere ?_
    refine NX.seq ?_
    refine TR.seq ?_
    refine TR.region ?_
    refine RL.assign rfl rfl rfl ?_
    refine RL.nil ?_
    refine NX.seq ?_
    refine TR.cut (ι := Unit) (fun _ => [(0, .pointer (some ⟨b, 0, none⟩)), (6, .slice z0.1 (filesB s.a.B).length z0.2), (12, I (atF s.a.B s.a.D ks fl))]) (fun _ => Al ((rowsL (filesB s.a.B) (cutB s.a.B s.a.D ks) x.X).map (ownR 5)) :: Box b 50 (rfC s) :: OwnSl 39 1 s.ba 64 64 (listV (rowsF (cutB s.a.B s.a.D ks) x.X)) :: OwnSl 3 1 s.fa 64 64 (ints (firmF s.a.D)) :: M) (fun _ => ArrF z0.1 (ints (natI (filesB s.a.B))) :: F) ?_ (fun _ => ?_)
    · skip
      refine TR.seq ?_
      refine TR.region ?_
      refine RL.move rfl rfl rfl ?_
      refine RL.bin rfl rfl rfl BinV.geq rfl ?_
      refine RL.move rfl rfl rfl ?_
      refine RL.part (fun h5 => ?_) (fun h5 => ?_)
      · skip
        have hfl0 := of_decide_eq_true h5
        refine RL.move rfl rfl rfl ?_
        refine RL.bin rfl rfl rfl BinV.gtr rfl ?_
        refine RL.pickT rfl rfl rfl rfl ?_
        refine RL.nil ?_
        refine NX.seq ?_
        refine TR.cond rfl (fun h6 => ?_) (fun h6 => ?_)
        · skip
          have hmn : 0 < (looseT s.a.B s.a.D ks x.i).length := by have := of_decide_eq_true h6; omega
          have hat : (atF s.a.B s.a.D ks fl) = ((fl.toNat % (8 * (looseT s.a.B s.a.D ks x.i).length) : Nat) : Int) := by unfold atF; rw [if_pos ⟨hfl0, by rw [← hlla]; exact hmn⟩, hlla]
          obtain ⟨fn, rfl⟩ : ∃ fn : Nat, fl = fn := ⟨fl.toNat, by omega⟩
          refine TR.region ?_
          refine RL.move rfl rfl rfl ?_
          refine RL.move rfl rfl rfl ?_
          refine RL.bin rfl rfl rfl (BinV.mul ((8 * (looseT s.a.B s.a.D ks x.i).length : Nat) : Int) (by omega) (by omega) (by omega)) rfl ?_
          refine RL.bin rfl rfl rfl (BinV.remK (a := fn) (b := 8 * (looseT s.a.B s.a.D ks x.i).length) (by omega)) rfl ?_
          refine RL.assign rfl rfl rfl ?_
          refine RL.nil ?_
          refine NX.meet () ⟨rfl, rfl, by rw [hat]; rfl, trivial⟩ (fun w hw => by rw [← hmr, show rowsL (filesB s.a.B) (cutB s.a.B s.a.D ks) x.X = rowsL ((filesB s.a.B).take x.i) (cutB s.a.B s.a.D ks) x.X by rw [hal]]; exact (hw.to 4 [0, 1, 2, 3] 1 [0] rfl))
        · skip
          have hat : (atF s.a.B s.a.D ks fl) = -1 := if_neg (fun e => (of_decide_eq_false h6) (by rw [hlla]; exact Int.ofNat_lt.2 e.2))
          refine TR.skip ?_
          refine NX.meet () ⟨rfl, rfl, by rw [hat]; rfl, trivial⟩ (fun w hw => by rw [← hmr, show rowsL (filesB s.a.B) (cutB s.a.B s.a.D ks) x.X = rowsL ((filesB s.a.B).take x.i) (cutB s.a.B s.a.D ks) x.X by rw [hal]]; exact (hw.to 4 [0, 1, 2, 3] 1 [0] rfl))
      · skip
        have hat : (atF s.a.B s.a.D ks fl) = -1 := if_neg (fun e => (of_decide_eq_false h5) e.1)
        refine RL.skip rfl rfl rfl ?_
        refine RL.skip rfl rfl rfl ?_
        refine RL.pickF rfl rfl rfl rfl ?_
        refine RL.nil ?_
        refine NX.seq ?_
        refine TR.condF rfl ?_
        refine TR.skip ?_
        refine NX.meet () ⟨rfl, rfl, by rw [hat]; rfl, trivial⟩ (fun w hw => by rw [← hmr, show rowsL (filesB s.a.B) (cutB s.a.B s.a.D ks) x.X = rowsL ((filesB s.a.B).take x.i) (cutB s.a.B s.a.D ks) x.X by rw [hal]]; exact (hw.to 4 [0, 1, 2, 3] 1 [0] rfl))
    refine TR.seq ?_
    refine TR.seq ?_
    have hatg := atF_ge (B := s.a.B) (D := s.a.D) (ks := ks) (fl := fl)
    have hatl : (atF s.a.B s.a.D ks fl) < 8 * (looseB s.a.B s.a.D ks).length + 8 := by
      by_cases e : 0 ≤ (atF s.a.B s.a.D ks fl)
      · have := atF_lt e; omega
      · omega
    refine TR.region ?_
    refine RL.assign rfl rfl rfl ?_
    refine RL.nil ?_
    refine NX.seq ?_
    refine TR.block ?_
    refine TR.loopP (ι := Nat) (fun y => y ≤ (filesB s.a.B).length ∧ True) (fun y => [(0, .pointer (some ⟨b, 0, none⟩)), (6, .slice z0.1 (filesB s.a.B).length z0.2), (12, I ((atF s.a.B s.a.D ks fl) - 8 * (((looseT s.a.B s.a.D ks y).length : Nat) : Int))), (13, I (y : Nat))]) (fun y => Al ((rowsL (filesB s.a.B) (midB s.a.B s.a.D ks fl (looseT s.a.B s.a.D ks y).length) x.X).map (ownR 5)) :: Box b 50 (rfC s) :: OwnSl 39 1 s.ba 64 64 (listV (rowsF (cutB s.a.B s.a.D ks) x.X)) :: OwnSl 3 1 s.fa 64 64 (ints (firmF s.a.D)) :: M) (fun y => ArrF z0.1 (ints (natI (filesB s.a.B))) :: F) (fun y => (filesB s.a.B).length - y) 0 ⟨Nat.zero_le _, trivial⟩ ⟨rfl, rfl, by show some (I _) = some (I (_ - 8 * ((0 : Nat) : Int))); congr 2; omega, rfl, trivial⟩ (fun w hw => (by rw [show rowsL (filesB s.a.B) (midB s.a.B s.a.D ks fl (looseT s.a.B s.a.D ks 0).length) x.X = rowsL (filesB s.a.B) (cutB s.a.B s.a.D ks) x.X from rowsL_cg fun n hn => ⟨midB_zero, rfl⟩]; exact hw)) (fun y hy => ?_)
    refine TR.seq ?_
    refine TR.seq ?_
    refine TR.region ?_
    refine RL.move rfl rfl rfl ?_
    refine RL.move rfl rfl rfl ?_
    refine RL.lenSlice rfl eb_tl22 rfl rfl ?_
    refine RL.bin rfl rfl rfl BinV.lss rfl ?_
    refine RL.nil ?_
    refine NX.seq ?_
    refine TR.cond rfl (fun h7 => ?_) (fun h7 => ?_)
    · skip
      have hi : y < (filesB s.a.B).length := by have := of_decide_eq_true h7; omega
      have hfl64 := filesB_len s.a.B
      obtain ⟨f, hff⟩ : ∃ f, f = (filesB s.a.B)[y]'hi := ⟨_, rfl⟩
      have hf64 : f < 64 := by rw [hff]; exact (filesB_mem.1 (List.getElem_mem hi)).1
      have hrl := used_one (B := s.a.B) hf64
      have hus := h.us
      have hrm := h.rm
      have hde := h.le f hf64
      have hcp := h.cp f hf64
      have hcl := cutB_len s.a.B s.a.D ks f
      have hcut : (cutB s.a.B s.a.D ks) f = (s.a.B f).take (s.a.D f + keepK ks y ((s.a.B f).length - s.a.D f)) := by rw [hff]; exact cut_fi hi
      have hkl := keepK_le ks y ((s.a.B f).length - s.a.D f)
      have hcle : ((cutB s.a.B s.a.D ks) f).length = s.a.D f + keepK ks y ((s.a.B f).length - s.a.D f) := by rw [hcut, List.length_take, Nat.min_eq_left (by omega)]
      have hll : (looseT s.a.B s.a.D ks (y + 1)).length = (looseT s.a.B s.a.D ks y).length + keepK ks y ((s.a.B f).length - s.a.D f) := by rw [looseT_len hi, ← hff]; omega
      have hlm := looseT_mono (B := s.a.B) (D := s.a.D) (ks := ks) (show y + 1 ≤ (filesB s.a.B).length by omega)
      rw [looseT_all] at hlm
      have hll2 : (looseT s.a.B s.a.D ks x.i).length = (looseB s.a.B s.a.D ks).length := by rw [hlla]
      refine TR.openP (open_arr (oa := z0.1) (xs := ints (natI (filesB s.a.B))) (.head _) (natI_ne hi)) (fun pq hpa => ?_)
      refine TR.skip ?_
      refine NX.seq ?_
      refine TR.seq ?_
      refine TR.block ?_
      refine TR.seq ?_
      refine TR.region ?_
      refine RL.move rfl rfl rfl ?_
      refine RL.move rfl rfl rfl ?_
      refine RL.indexAddr rfl eb_tl22 eb_tz3 (congrArg (fun a => some (Value.slice a _ _)) hpa) rfl (by omega) (by omega) rfl ?_
      refine RL.loadF rfl rfl (fun w K hF => run_loadCell1 (j := ((y : Nat) : Int).toNat * 1) (v := I (f : Nat)) (hF (CellsF pq.1 pq.2 (ints (natI (filesB s.a.B)))) (.head _)) eb_ts3 (by rw [hff]; exact natI_get hi)) rfl ?_
      refine RL.assign rfl rfl rfl ?_
      refine RL.nil ?_
      refine NX.seq ?_
      refine TR.seq ?_
      refine TR.region ?_
      refine RL.move rfl rfl rfl ?_
      refine RL.nilCheck rfl rfl rfl ?_
      refine RL.fieldAddr rfl eb_tf50_2 rfl rfl ?_
      refine RL.load1 1 rfl eb_ts22 rfl rfl rfl rfl ?_
      refine RL.move rfl rfl rfl ?_
      refine RL.indexAddr rfl eb_tl22 eb_tz3 (congrArg (fun a => some (Value.slice a _ _)) hf) rfl (by omega) (by omega) rfl ?_
      refine RL.loadS rfl rfl (own_one (i := 3) rfl hf eb_ts3 (firmF_get (n := f) (by omega) (by omega))) rfl ?_
      refine RL.assign rfl rfl rfl ?_
      refine RL.nil ?_
      refine NX.seq ?_
      refine TR.block ?_
      refine TR.loopP (ι := Nat) (fun u => s.a.D f ≤ u ∧ u ≤ ((cutB s.a.B s.a.D ks) f).length) (fun u => [(0, .pointer (some ⟨b, 0, none⟩)), (6, .slice z0.1 (filesB s.a.B).length z0.2), (12, I ((atF s.a.B s.a.D ks fl) - 8 * (((looseT s.a.B s.a.D ks y).length + (u - s.a.D f) : Nat) : Int))), (13, I (y : Nat)), (14, I (f : Nat)), (15, I (u : Nat))]) (fun u => Al ((rowsL (filesB s.a.B) (midB s.a.B s.a.D ks fl ((looseT s.a.B s.a.D ks y).length + (u - s.a.D f))) x.X).map (ownR 5)) :: Box b 50 (rfC s) :: OwnSl 39 1 s.ba 64 64 (listV (rowsF (cutB s.a.B s.a.D ks) x.X)) :: OwnSl 3 1 s.fa 64 64 (ints (firmF s.a.D)) :: M) (fun u => ArrF z0.1 (ints (natI (filesB s.a.B))) :: F) (fun u => ((cutB s.a.B s.a.D ks) f).length - u) (s.a.D f) ⟨Nat.le_refl _, by omega⟩ ⟨rfl, rfl, by rw [Nat.sub_self]; rfl, rfl, rfl, rfl, trivial⟩ (fun w hw => (by rw [Nat.sub_self]; exact (hw.to 4 [0, 1, 2, 3] 2 [1] rfl))) (fun u hu => ?_)
      refine TR.seq ?_
      refine TR.seq ?_
      refine TR.region ?_
      refine RL.move rfl rfl rfl ?_
      refine RL.move rfl rfl rfl ?_
      refine RL.nilCheck rfl rfl rfl ?_
      refine RL.fieldAddr rfl eb_tf50_1 rfl rfl ?_
      refine RL.load1 1 rfl eb_ts29 rfl rfl rfl rfl ?_
      refine RL.move rfl rfl rfl ?_
      refine RL.indexAddr rfl eb_tl29 eb_tz39 (congrArg (fun a => some (Value.slice a _ _)) hb) rfl (by omega) (by omega) rfl ?_
      refine RL.loadS rfl rfl (own_one (i := 2) rfl hb eb_ts39 (rowsF_get (n := f) (by omega) (by omega))) rfl ?_
      refine RL.lenSlice rfl eb_tl39 rfl rfl ?_
      refine RL.bin rfl rfl rfl BinV.lss rfl ?_
      refine RL.nil ?_
      refine NX.seq ?_
      refine TR.cond rfl (fun h8 => ?_) (fun h8 => ?_)
      · skip
        have huk : u < ((cutB s.a.B s.a.D ks) f).length := by have := of_decide_eq_true h8; omega
        refine TR.skip ?_
        refine NX.seq ?_
        refine TR.seq ?_
        refine TR.block ?_
        refine TR.seq ?_
        refine TR.seq ?_
        refine TR.region ?_
        refine RL.move rfl rfl rfl ?_
        refine RL.bin rfl rfl rfl BinV.geq rfl ?_
        refine RL.move rfl rfl rfl ?_
        refine RL.part (fun h9 => ?_) (fun h9 => ?_)
        · skip
          have ha0 := of_decide_eq_true h9
          refine RL.move rfl rfl rfl ?_
          refine RL.bin rfl rfl rfl BinV.lss rfl ?_
          refine RL.pickT rfl rfl rfl rfl ?_
          refine RL.nil ?_
          refine NX.seq ?_
          refine TR.cond rfl (fun h10 => ?_) (fun h10 => ?_)
          · skip
            have ha8 := of_decide_eq_true h10
            have hmf := midB_flip (B := s.a.B) (D := s.a.D) (ks := ks) (fl := fl) (a := ((atF s.a.B s.a.D ks fl) - 8 * (((looseT s.a.B s.a.D ks y).length + (u - s.a.D f) : Nat) : Int))) hi (by rw [← hff]; exact hu.1) (by rw [← hff]; exact huk) (by rw [← hff]) ha0 ha8
            rw [← hff] at hmf
            obtain ⟨q, hq⟩ : ∃ q : Nat, ((atF s.a.B s.a.D ks fl) - 8 * (((looseT s.a.B s.a.D ks y).length + (u - s.a.D f) : Nat) : Int)) = q := ⟨(((atF s.a.B s.a.D ks fl) - 8 * (((looseT s.a.B s.a.D ks y).length + (u - s.a.D f) : Nat) : Int))).toNat, by omega⟩
            have hbv : (bytesV ((cutB s.a.B s.a.D ks) f))[0 + ((u : Nat) : Int).toNat * 1]? = some (B8 (((cutB s.a.B s.a.D ks) f)[u]).toNat) := by rw [Nat.zero_add]; exact bytesV_get huk
            have hL : y < ((rowsL (filesB s.a.B) (cutB s.a.B s.a.D ks) x.X).map (ownR 5)).length := by rw [List.length_map, rowsL_len]; exact hi
            refine TR.weak (M' := OwnSl 5 1 (x.X f).oa ((cutB s.a.B s.a.D ks) f).length (x.X f).c (bytesV ((cutB s.a.B s.a.D ks) f)) :: Al (((rowsL (filesB s.a.B) (cutB s.a.B s.a.D ks) x.X).map (ownR 5)).take y) :: Al (((rowsL (filesB s.a.B) (cutB s.a.B s.a.D ks) x.X).map (ownR 5)).drop (y + 1)) :: _) (F' := _) (fun w hw => by
              have h9 := hw
              rw [hmf.1] at h9
              have h8 := h9.alCut y hL
              rw [rowsL_at hL hi, ← hff] at h8
              exact h8) ?_
            refine TR.openP (fun w hw => own_at (i := 0) (M := _ :: _ :: _ :: _ :: _ :: _ :: M) rfl (bytesV_ne huk) hw) (fun g hg => ?_)
            refine TR.sub (E' := [(0, _), (6, _), (12, _), (13, _), (14, _), (15, _), (110, _), (111, _), (112, _), (113, _), (114, _), (115, _), (116, _), (117, _), (118, _), (119, _), (122, _), (123, _), (124, _), (125, _), (126, _), (127, _)]) ⟨rfl, rfl, rfl, rfl, rfl, rfl, rfl, rfl, rfl, rfl, rfl, rfl, rfl, rfl, rfl, rfl, rfl, rfl, rfl, rfl, rfl, rfl, trivial⟩ ?_
            refine TR.draw mixed ?_
            apply AR.more [(0, _), (1, _), (2, _), (3, _), (4, _), (5, _), (6, _), (7, _), (8, _), (9, _), (10, _), (11, _), (12, _), (13, _), (14, _), (15, _), (16, _), (17, _), (18, _), (19, _), (20, _), (21, _), (22, _), (23, _)]
            refine AR.eff [0, 1, 2, 3, 4, 5, 6, 7, 8, 9, 10, 11, 12, 13, 14, 15, 16, 17, 18, 19, 20, 21, 22, 23] 24 [0, 1, 2, 3, 4, 5, 6, 7, 8, 9, 10, 11, 12, 13, 14, 15, 16, 17, 18, 19, 20, 21, 22, 23, 24] ⟨QOne.yes rfl rfl rfl (PV.move rfl), QOne.yes rfl rfl rfl (PV.nilCheck rfl), QOne.yes rfl rfl rfl (PV.fieldAddr eb_tf50_1 rfl), QOne.yes rfl rfl rfl (PV.load1 3 eb_ts29 rfl rfl rfl), QOne.yes rfl rfl rfl (PV.move rfl), QOne.yes rfl rfl rfl (PV.indexAddr eb_tl29 eb_tz39 (congrArg (fun a => some (Value.slice a _ _)) hb) rfl (by omega) (by omega)), QOne.yes rfl rfl rfl (PV.loadS rfl (own_one (i := 4) rfl hb eb_ts39 (rowsF_get (n := f) (by omega) (by omega)))), QOne.yes rfl rfl rfl (PV.move rfl), QOne.yes rfl rfl rfl (PV.move rfl), QOne.yes rfl rfl rfl (PV.nilCheck rfl), QOne.yes rfl rfl rfl (PV.fieldAddr eb_tf50_1 rfl), QOne.yes rfl rfl rfl (PV.load1 3 eb_ts29 rfl rfl rfl), QOne.yes rfl rfl rfl (PV.move rfl), QOne.yes rfl rfl rfl (PV.indexAddr eb_tl29 eb_tz39 (congrArg (fun a => some (Value.slice a _ _)) hb) rfl (by omega) (by omega)), QOne.yes rfl rfl rfl (PV.loadS rfl (own_one (i := 4) rfl hb eb_ts39 (rowsF_get (n := f) (by omega) (by omega)))), QOne.yes rfl rfl rfl (PV.move rfl), QOne.yes rfl rfl rfl (PV.indexAddr eb_tl39 eb_tz5 (congrArg (fun a => some (Value.slice a _ _)) hg) rfl (by omega) (by omega)), QOne.yes rfl rfl rfl (PV.loadS rfl (own_one (i := 0) rfl hg eb_ts5 hbv)), QOne.yes rfl rfl rfl (PV.move rfl), QOne.yes rfl rfl rfl (PV.bin rfl rfl (BinV.sub ((7 - q : Nat) : Int) (by omega) (by omega) (by omega))), QOne.yes rfl rfl rfl (PV.conv rfl ((ConvV.iu64 eb_ti3 eb_ti70).to (v'' := U (7 - q)) (by rw [show u64of ((7 - q : Nat) : Int) = 7 - q by unfold u64of; omega]))), QOne.yes rfl rfl rfl (PV.bin rfl rfl (BinV.shlB (a := 1) (s := 7 - q) (by omega))), QOne.yes rfl rfl rfl (PV.bin rfl rfl (BinV.xorB (a := (((cutB s.a.B s.a.D ks) f)[u]).toNat) (b := 1 * 2 ^ (7 - q) % 256) (UInt8.toNat_lt _) (Nat.mod_lt _ (by decide)))), QOne.yes rfl rfl rfl (PV.indexAddr eb_tl39 eb_tz5 (congrArg (fun a => some (Value.slice a _ _)) hg) rfl (by omega) (by omega)), trivial⟩ rfl rfl rfl rfl rfl rfl rfl (EV.storeO (vs := [B8 ((((cutB s.a.B s.a.D ks) f)[u]).toNat ^^^ (1 * 2 ^ (7 - q) % 256))]) 0 rfl rfl rfl hg eb_tz5 rfl (by rw [bytesV_length]; show 0 + u * 1 + 1 ≤ _; omega) rfl) (fun _ => ?_)
            refine AR.done [23, 22, 0, 1, 2, 3, 4, 5, 6, 7, 8, 9, 10, 11, 12, 13, 14, 15, 16, 17, 18, 19, 20, 21] rfl ?_
            refine AR.last [] [0, 1, 2, 3, 4, 5, 6, 7, 8, 9, 10, 11, 12, 13, 14, 15, 16, 17, 18, 19, 20, 21, 22, 23, 24] trivial rfl rfl rfl ?_
            refine NX.sub (E' := [(0, _), (6, _), (12, _), (13, _), (14, _), (15, _), (110, _), (111, _), (112, _), (113, _), (114, _), (115, _), (116, _), (117, _), (118, _), (119, _), (122, _), (123, _), (124, _), (125, _), (126, _), (127, _), (128, _), (129, _), (130, _), (131, _), (132, _), (133, _), (134, _), (135, _), (136, _), (137, _), (138, _), (139, _), (140, _), (141, _), (142, _), (143, _), (144, _), (145, _), (146, _), (147, _), (148, _), (149, _), (150, _), (151, _)]) ⟨rfl, rfl, rfl, rfl, rfl, rfl, rfl, rfl, rfl, rfl, rfl, rfl, rfl, rfl, rfl, rfl, rfl, rfl, rfl, rfl, rfl, rfl, rfl, rfl, rfl, rfl, rfl, rfl, rfl, rfl, rfl, rfl, rfl, rfl, rfl, rfl, rfl, rfl, rfl, rfl, rfl, rfl, rfl, rfl, rfl, rfl, trivial⟩ ?_
            refine NX.seq ?_
            refine TR.region ?_
            refine RL.move rfl rfl rfl ?_
            refine RL.bin rfl rfl rfl (BinV.sub ((atF s.a.B s.a.D ks fl) - 8 * (((looseT s.a.B s.a.D ks y).length + (u + 1 - s.a.D f) : Nat) : Int)) (by omega) (by omega) (by omega)) rfl ?_
            refine RL.assign rfl rfl rfl ?_
            refine RL.nil ?_
            refine NX.off ?_
            refine NX.seq ?_
            refine TR.region ?_
            refine RL.move rfl rfl rfl ?_
            refine RL.bin rfl rfl rfl (BinV.add ((u + 1 : Nat) : Int) (by omega) (by omega) (by omega)) rfl ?_
            refine RL.assign rfl rfl rfl ?_
            refine RL.nil ?_
            refine NX.roundP (u + 1) ⟨by have := hu.1; omega, by omega⟩ (by omega) ⟨rfl, rfl, rfl, rfl, rfl, rfl, trivial⟩ (fun w hw => (by
                    rw [show (looseT s.a.B s.a.D ks y).length + (u + 1 - s.a.D f) = (looseT s.a.B s.a.D ks y).length + (u - s.a.D f) + 1 by have := hu.1; omega, hmf.2, show (((atF s.a.B s.a.D ks fl) - 8 * (((looseT s.a.B s.a.D ks y).length + (u - s.a.D f) : Nat) : Int))).toNat = q by omega]
                    have h9 : St w (OwnSl 5 1 (x.X f).oa ((cutB s.a.B s.a.D ks) f).length (x.X f).c ((bytesV ((cutB s.a.B s.a.D ks) f)).take (0 + ((u : Nat) : Int).toNat * 1) ++ [B8 ((((cutB s.a.B s.a.D ks) f)[u]).toNat ^^^ (1 * 2 ^ (7 - q) % 256))] ++ (bytesV ((cutB s.a.B s.a.D ks) f)).drop (0 + ((u : Nat) : Int).toNat * 1 + 1)) :: Al (((rowsL (filesB s.a.B) (cutB s.a.B s.a.D ks) x.X).map (ownR 5)).take y) :: Al (((rowsL (filesB s.a.B) (cutB s.a.B s.a.D ks) x.X).map (ownR 5)).drop (y + 1)) :: Box b 50 (rfC s) :: OwnSl 39 1 s.ba 64 64 (listV (rowsF (cutB s.a.B s.a.D ks) x.X)) :: OwnSl 3 1 s.fa 64 64 (ints (firmF s.a.D)) :: M) (ArrF z0.1 (ints (natI (filesB s.a.B))) :: F) := (hw.to 6 [0, 1, 2, 3, 4, 5] 1 [0] rfl)
                    rw [turn_store huk, ← turnB_len ((cutB s.a.B s.a.D ks) f) u q] at h9
                    have h8 := h9.alJoin
                    rw [hff] at h8
                    rw [rowsL_put hi (filesB_nodup _) _] at h8
                    rw [hff]
                    exact h8))
          · skip
            have hsk : ¬ (0 ≤ ((atF s.a.B s.a.D ks fl) - 8 * (((looseT s.a.B s.a.D ks y).length + (u - s.a.D f) : Nat) : Int)) ∧ ((atF s.a.B s.a.D ks fl) - 8 * (((looseT s.a.B s.a.D ks y).length + (u - s.a.D f) : Nat) : Int)) < 8) := fun e => (of_decide_eq_false h10) e.2
            refine TR.skip ?_
            refine NX.seq ?_
            refine TR.region ?_
            refine RL.move rfl rfl rfl ?_
            refine RL.bin rfl rfl rfl (BinV.sub ((atF s.a.B s.a.D ks fl) - 8 * (((looseT s.a.B s.a.D ks y).length + (u + 1 - s.a.D f) : Nat) : Int)) (by omega) (by omega) (by omega)) rfl ?_
            refine RL.assign rfl rfl rfl ?_
            refine RL.nil ?_
            refine NX.off ?_
            refine NX.seq ?_
            refine TR.region ?_
            refine RL.move rfl rfl rfl ?_
            refine RL.bin rfl rfl rfl (BinV.add ((u + 1 : Nat) : Int) (by omega) (by omega) (by omega)) rfl ?_
            refine RL.assign rfl rfl rfl ?_
            refine RL.nil ?_
            refine NX.roundP (u + 1) ⟨by have := hu.1; omega, by omega⟩ (by omega) ⟨rfl, rfl, rfl, rfl, rfl, rfl, trivial⟩ (fun w hw => (by rw [show (looseT s.a.B s.a.D ks y).length + (u + 1 - s.a.D f) = (looseT s.a.B s.a.D ks y).length + (u - s.a.D f) + 1 by have := hu.1; omega, midB_skip (a := ((atF s.a.B s.a.D ks fl) - 8 * (((looseT s.a.B s.a.D ks y).length + (u - s.a.D f) : Nat) : Int))) rfl hsk]; exact (hw.to 4 [0, 1, 2, 3] 1 [0] rfl)))
        · skip
          have hsk : ¬ (0 ≤ ((atF s.a.B s.a.D ks fl) - 8 * (((looseT s.a.B s.a.D ks y).length + (u - s.a.D f) : Nat) : Int)) ∧ ((atF s.a.B s.a.D ks fl) - 8 * (((looseT s.a.B s.a.D ks y).length + (u - s.a.D f) : Nat) : Int)) < 8) := fun e => (of_decide_eq_false h9) e.1
          refine RL.skip rfl rfl rfl ?_
          refine RL.skip rfl rfl rfl ?_
          refine RL.pickF rfl rfl rfl rfl ?_
          refine RL.nil ?_
          refine NX.seq ?_
          refine TR.condF rfl ?_
          refine TR.skip ?_
          refine NX.seq ?_
          refine TR.region ?_
          refine RL.move rfl rfl rfl ?_
          refine RL.bin rfl rfl rfl (BinV.sub ((atF s.a.B s.a.D ks fl) - 8 * (((looseT s.a.B s.a.D ks y).length + (u + 1 - s.a.D f) : Nat) : Int)) (by omega) (by omega) (by omega)) rfl ?_
          refine RL.assign rfl rfl rfl ?_
          refine RL.nil ?_
          refine NX.off ?_
          refine NX.seq ?_
          refine TR.region ?_
          refine RL.move rfl rfl rfl ?_
          refine RL.bin rfl rfl rfl (BinV.add ((u + 1 : Nat) : Int) (by omega) (by omega) (by omega)) rfl ?_
          refine RL.assign rfl rfl rfl ?_
          refine RL.nil ?_
          refine NX.roundP (u + 1) ⟨by have := hu.1; omega, by omega⟩ (by omega) ⟨rfl, rfl, rfl, rfl, rfl, rfl, trivial⟩ (fun w hw => (by rw [show (looseT s.a.B s.a.D ks y).length + (u + 1 - s.a.D f) = (looseT s.a.B s.a.D ks y).length + (u - s.a.D f) + 1 by have := hu.1; omega, midB_skip (a := ((atF s.a.B s.a.D ks fl) - 8 * (((looseT s.a.B s.a.D ks y).length + (u - s.a.D f) : Nat) : Int))) rfl hsk]; exact (hw.to 4 [0, 1, 2, 3] 1 [0] rfl)))
      · skip
        have hue : u = ((cutB s.a.B s.a.D ks) f).length := by have := of_decide_eq_false h8; omega
        refine TR.exit ?_
        refine NX.exitThen ?_
        refine NX.exitThen ?_
        refine NX.exitHere ?_
        refine NX.off ?_
        refine NX.seq ?_
        refine TR.region ?_
        refine RL.move rfl rfl rfl ?_
        refine RL.bin rfl rfl rfl (BinV.add ((y + 1 : Nat) : Int) (by omega) (by omega) (by omega)) rfl ?_
        refine RL.assign rfl rfl rfl ?_
        refine RL.nil ?_
        have hj : (looseT s.a.B s.a.D ks y).length + (u - s.a.D f) = (looseT s.a.B s.a.D ks (y + 1)).length := by have := hu.1; omega
        refine NX.roundP (y + 1) ⟨by omega, trivial⟩ (by omega) ⟨rfl, rfl, by rw [← hj]; rfl, rfl, trivial⟩ (fun w hw => (by rw [← hj]; exact (hw.to 4 [0, 1, 2, 3] 1 [0] rfl)))
    · skip
      have hye : y = (filesB s.a.B).length := by have := of_decide_eq_false h7; omega
      have hmid : rowsL (filesB s.a.B) (midB s.a.B s.a.D ks fl (looseT s.a.B s.a.D ks y).length) x.X = rowsL (filesB s.a.B) (crashB s.a.B s.a.D ks fl) x.X := rowsL_cg fun n hn => ⟨by rw [hye, looseT_all]; exact midB_end, rfl⟩
      refine TR.exit ?_
      refine NX.exitThen ?_
      refine NX.exitThen ?_
      refine NX.exitHere ?_
      refine NX.seq ?_
      refine TR.seq ?_
      refine TR.seq ?_
      refine TR.weak (M' := Al ((rowsL (filesB s.a.B) (crashB s.a.B s.a.D ks fl) x.X).map (ownR 5)) :: _) (F' := _) (fun w hw => by rw [← hmid]; exact hw) ?_
      refine TR.open1 (fun w hw => hw.alOpen.keepAll) (fun hcaps => ?_)
      refine TR.weak (fun w hw => hw.allB_files (.head _) (fun n hn e => by have h7 := crashB_len s.a.B s.a.D ks fl n; have h6 := cutB_len s.a.B s.a.D ks n; rw [e, List.length_nil] at h6; exact List.eq_nil_of_length_eq_zero (by omega))) ?_
      have e0 : syncD { s.a with B := (crashB s.a.B s.a.D ks fl) } 0 = s.a.D := funext fun k => if_neg (Nat.not_lt_zero k)
      refine TR.region ?_
      refine RL.assign rfl rfl rfl ?_
      refine RL.nil ?_
      refine NX.seq ?_
      refine TR.block ?_
      refine TR.loopP (ι := Nat) (fun v => v ≤ 64 ∧ True) (fun v => [(0, .pointer (some ⟨b, 0, none⟩)), (16, I (v : Nat))]) (fun v => Box b 50 (rfC s) :: OwnSl 39 1 s.ba 64 64 (listV (rowsF (cutB s.a.B s.a.D ks) x.X)) :: OwnSl 3 1 s.fa 64 64 (ints (firmF (syncD { s.a with B := (crashB s.a.B s.a.D ks fl) } v))) :: M) (fun v => AllB (rowsF (crashB s.a.B s.a.D ks fl) x.X) :: F) (fun v => 64 - v) 0 ⟨Nat.zero_le _, trivial⟩ ⟨rfl, rfl, trivial⟩ (fun w hw => (by rw [e0]; exact (hw.to 3 [0, 1, 2] 3 [0] rfl))) (fun v hv => ?_)
      refine TR.seq ?_
      refine TR.seq ?_
      refine TR.region ?_
      refine RL.move rfl rfl rfl ?_
      refine RL.bin rfl rfl rfl BinV.lss rfl ?_
      refine RL.nil ?_
      refine NX.seq ?_
      refine TR.cond rfl (fun h11 => ?_) (fun h11 => ?_)
      · skip
        have hlt : v < 64 := by have := of_decide_eq_true h11; omega
        have hrl : ((cutB s.a.B s.a.D ks) v).length ≤ 16777216 := by have := used_one (B := s.a.B) hlt; have := h.us; have := h.rm; have := cutB_len s.a.B s.a.D ks v; omega
        have hcl2 := crashB_len s.a.B s.a.D ks fl v
        refine TR.skip ?_
        refine NX.seq ?_
        refine TR.seq ?_
        refine TR.block ?_
        refine TR.sub (E' := [(0, _), (16, _), (154, _), (155, _)]) ⟨rfl, rfl, rfl, rfl, trivial⟩ ?_
        refine TR.draw mixed ?_
        apply AR.more [(0, _), (1, _), (2, _), (3, _), (4, _), (5, _), (6, _), (7, _), (8, _), (9, _), (10, _), (11, _), (12, _), (13, _)]
        refine AR.eff [0, 1, 2, 3, 4, 5, 6, 7, 8, 9, 10, 11, 12, 13] 14 [0, 1, 2, 3, 4, 5, 6, 7, 8, 9, 10, 11, 12, 13, 14] ⟨QOne.yes rfl rfl rfl (PV.move rfl), QOne.yes rfl rfl rfl (PV.nilCheck rfl), QOne.yes rfl rfl rfl (PV.fieldAddr eb_tf50_2 rfl), QOne.yes rfl rfl rfl (PV.load1 0 eb_ts22 rfl rfl rfl), QOne.yes rfl rfl rfl (PV.move rfl), QOne.yes rfl rfl rfl (PV.move rfl), QOne.yes rfl rfl rfl (PV.nilCheck rfl), QOne.yes rfl rfl rfl (PV.fieldAddr eb_tf50_1 rfl), QOne.yes rfl rfl rfl (PV.load1 0 eb_ts29 rfl rfl rfl), QOne.yes rfl rfl rfl (PV.move rfl), QOne.yes rfl rfl rfl (PV.indexAddr eb_tl29 eb_tz39 (congrArg (fun a => some (Value.slice a _ _)) hb) rfl (by omega) (by omega)), QOne.yes rfl rfl rfl (PV.loadS rfl (own_one (i := 1) rfl hb eb_ts39 (rowsF_get (n := v) (by omega) (by omega)))), QOne.yes rfl rfl rfl (PV.lenSlice eb_tl39 rfl), QOne.yes rfl rfl rfl (PV.indexAddr eb_tl22 eb_tz3 (congrArg (fun a => some (Value.slice a _ _)) hf) rfl (by omega) (by omega)), trivial⟩ rfl rfl rfl rfl rfl rfl rfl (EV.storeFirm (n := v) (m := ((crashB s.a.B s.a.D ks fl) v).length) 2 rfl rfl rfl hf eb_tz3 (by omega) (by rw [hcl2]) (by omega)) (fun _ => ?_)
        refine AR.done [13, 12, 0, 1, 2, 3, 4, 5, 6, 7, 8, 9, 10, 11] rfl ?_
        refine AR.last [] [0, 1, 2, 3, 4, 5, 6, 7, 8, 9, 10, 11, 12, 13, 14] trivial rfl rfl rfl ?_
        refine NX.sub (E' := [(0, _), (16, _), (154, _), (155, _), (158, _), (159, _), (160, _), (161, _), (162, _), (163, _), (164, _), (165, _), (166, _), (167, _), (168, _), (169, _), (170, _), (171, _)]) ⟨rfl, rfl, rfl, rfl, rfl, rfl, rfl, rfl, rfl, rfl, rfl, rfl, rfl, rfl, rfl, rfl, rfl, rfl, trivial⟩ ?_
        refine NX.off ?_
        refine NX.seq ?_
        refine TR.region ?_
        refine RL.move rfl rfl rfl ?_
        refine RL.bin rfl rfl rfl (BinV.add ((v + 1 : Nat) : Int) (by omega) (by omega) (by omega)) rfl ?_
        refine RL.assign rfl rfl rfl ?_
        refine RL.nil ?_
        refine NX.roundP (v + 1) ⟨by omega, trivial⟩ (by omega) ⟨rfl, rfl, trivial⟩ (fun w hw => (by rw [syncD_succ]; exact hw))
      · skip
        have hge := of_decide_eq_false h11
        refine TR.exit ?_
        refine NX.exitThen ?_
        refine NX.exitThen ?_
        refine NX.exitHere ?_
        refine NX.seq ?_
        refine TR.seq ?_
        refine TR.region ?_
        refine RL.move rfl rfl rfl ?_
        refine RL.nilCheck rfl rfl rfl ?_
        refine RL.fieldAddr rfl eb_tf50_3 rfl rfl ?_
        refine RL.store1 0 rfl eb_ts4 rfl rfl rfl rfl rfl ?_
        refine RL.nil ?_
        refine NX.seq ?_
        refine TR.region ?_
        refine RL.move rfl rfl rfl ?_
        refine RL.nilCheck rfl rfl rfl ?_
        refine RL.fieldAddr rfl eb_tf50_4 rfl rfl ?_
        refine RL.store1 0 rfl eb_ts3 rfl rfl rfl rfl rfl ?_
        refine RL.nil ?_
        have hcq : ∀ n, n < 64 → ((crashB s.a.B s.a.D ks fl) n).length ≤ (x.X n).c := fun n hn => by
          by_cases e : n ∈ (filesB s.a.B)
          · exact hcaps ((crashB s.a.B s.a.D ks fl) n, x.X n) (List.mem_map.2 ⟨n, e, rfl⟩)
          · have h7 := crashB_len s.a.B s.a.D ks fl n
            have h6 := cutB_len s.a.B s.a.D ks n
            rw [nil_of_not hn e, List.length_nil] at h6
            omega
        have hv64 : v = 64 := by have := hv.1; omega
        refine NX.end0 ⟨{ s with a := crashA s.a ks fl, x := x.X, pl := -1 }, h.crash hcq, rfl⟩ rfl rfl (fun w hw => ?_)
        have e1 : listV (rowsF (crashB s.a.B s.a.D ks fl) x.X) = listV (rowsF (cutB s.a.B s.a.D ks) x.X) := listV_cg fun n hn => crashB_len _ _ _ _ _
        have e2 : firmF (fun k => ((crashB s.a.B s.a.D ks fl) k).length) = firmF (syncD { s.a with B := (crashB s.a.B s.a.D ks fl) } v) := firmF_cg fun n hn => by rw [hv64]; exact (if_pos hn).symm
        show St w (Box b 50 (rfC { s with a := crashA s.a ks fl, x := x.X, pl := -1 }) :: OwnSl 39 1 s.ba 64 64 (listV (rowsF (crashB s.a.B s.a.D ks fl) x.X)) :: OwnSl 3 1 s.fa 64 64 (ints (firmF (fun k => ((crashB s.a.B s.a.D ks fl) k).length))) :: M) (AllB (rowsF (crashB s.a.B s.a.D ks fl) x.X) :: F)
        rw [e1, e2]
        exact (hw.to 3 [0, 1, 2] 1 [0] rfl)

end Go.Proofs.YtdlpaojkkekdlaaGreat

namespace Go.GL
set_option linter.unusedVariables false
structure OpX where
  k : Int
  f : Int
  n : Int
  b : List UInt8
  ob : Option Addr
  cb : Nat
  ks : List Int
  ok : Option Addr
  ck : Nat
def OpX.c (o : OpX) : List Value := [I o.k, I o.f, I o.n, .slice o.ob o.b.length o.cb, .slice o.ok o.ks.length o.ck]
def opsV (l : List OpX) : List Value := l.flatMap OpX.c
def AllO (l : List OpX) : Fact := ⟨fun w K => ∀ o, o ∈ l → ArrAt w K o.ob (bytesV o.b) ∧ ArrAt w K o.ok (ints o.ks), fun h e o ho => ⟨(h o ho).1.mono e, (h o ho).2.mono e⟩⟩
structure OpOk (o : OpX) : Prop where
  f0 : -8 ≤ o.f
  f1 : o.f ≤ 100
  n0 : -4 ≤ o.n
  n1 : o.n ≤ 100
  nk : o.k = 3 → -1 ≤ o.n
  b : o.b.length ≤ 8
  kl : o.ks.length ≤ 4
  kv : ∀ v, v ∈ o.ks → -100 ≤ v ∧ v ≤ 100
theorem opsV_len (l : List OpX) : (opsV l).length = l.length * 5 := by
  induction l with
  | nil => rfl
  | cons o l ih => rw [opsV, List.flatMap_cons, List.length_append, List.length_cons]; rw [opsV] at ih; rw [ih]; simp [OpX.c]; omega
theorem opsV_snoc (l : List OpX) (o : OpX) : opsV (l ++ [o]) = opsV l ++ o.c := by unfold opsV; rw [List.flatMap_append]; simp
theorem opsV_one (l : List OpX) : (opsV l).all Value.oneCell' = true := by
  induction l with
  | nil => rfl
  | cons o l ih => rw [opsV, List.flatMap_cons, List.all_append]; rw [opsV] at ih; rw [ih]; rfl
theorem opsV_ne {l : List OpX} {i : Nat} (h : i < l.length) : opsV l ≠ [] := fun e => by have := opsV_len l; rw [e] at this; simp at this; omega
theorem opsV_at {l : List OpX} {i : Nat} (h : i < l.length) (j : Nat) (v : Value) (hv : (l[i].c)[j]? = some v) : (opsV l)[((i : Nat) : Int).toNat * 5 + j]? = some v := by
  rw [Int.toNat_natCast]
  have e : opsV l = opsV (l.take i) ++ (l[i].c ++ opsV (l.drop (i + 1))) := by
    have e2 : l = l.take i ++ (l[i] :: l.drop (i + 1)) := by rw [← List.drop_eq_getElem_cons h, List.take_append_drop]
    exact (congrArg opsV e2).trans (by unfold opsV; rw [List.flatMap_append, List.flatMap_cons])
  rw [e]
  have hl := opsV_len (l.take i)
  rw [List.length_take, Nat.min_eq_left (by omega)] at hl
  rw [← hl]
  exact get_mid hv
theorem St.allO_nil {w : World} {M : List HP} {F : List Fact} (h : St w M F) : St w M (AllO [] :: F) := h.addFact (AllO []) (fun K _ p hp => by cases hp)
theorem St.allO_snoc {w : World} {M : List HP} {F : List Fact} {l : List OpX} {o : OpX} (hA : AllO l ∈ F) (hb : ArrF o.ob (bytesV o.b) ∈ F) (hk : ArrF o.ok (ints o.ks) ∈ F) (h : St w M F) : St w M (AllO (l ++ [o]) :: F) := h.derive fun K hf q hq => by
  rcases List.mem_append.1 hq with hq | hq
  · exact hf _ hA q hq
  · rw [List.mem_singleton.1 hq]; exact ⟨hf _ hb, hf _ hk⟩
theorem St.allO_get {w : World} {M : List HP} {F : List Fact} {l : List OpX} {o : OpX} (hA : AllO l ∈ F) (ho : o ∈ l) (h : St w M F) : St w M (ArrF o.ob (bytesV o.b) :: ArrF o.ok (ints o.ks) :: F) :=
  (h.derive (ψ := ArrF o.ok (ints o.ks)) fun K hf => (hf _ hA o ho).2).derive fun K hf => (hf _ (.tail _ hA) o ho).1
theorem St.cutI {w : World} {M : List HP} {F : List Fact} {oa : Option Addr} {cap : Nat} {l : List Int} (k : Nat) (hc : l.length ≤ cap) (hF : ArrF oa (ints l) ∈ F) (h : St w M F) : St w M (ArrF (cutA oa 0 cap 1) (ints (l.take k)) :: F) :=
  h.derive fun K hf => by
    have h9 := ArrAt.cut (size := 1) (cap := cap) (n := l.length) (hf _ hF) 0 (min k l.length) (by simp) (Nat.min_le_right _ _) hc
    have e : ints (l.take k) = (ints l).take (min k l.length) := by
      unfold ints
      rw [← List.map_take]
      congr 1
      rw [Nat.min_def]
      split
      · rfl
      · rw [List.take_of_length_le (Nat.le_refl _), List.take_of_length_le (by omega)]
    simp only [Nat.mul_one, List.drop_zero] at h9
    show ArrAt _ _ _ _
    rw [e]
    exact h9
/-- an operation on the abstract disk -/
def opA (a : Am) (o : OpX) : Int × Am :=
  if o.k = 0 then appA a o.f o.b else if o.k = 1 then syncA a else if o.k = 2 then truncA a o.f o.n else if o.k = 3 then (0, armA a o.n) else (0, crashA a o.ks o.n)
theorem byte_wrap (x : Int) : IntKind.u8.wrap x = ((IntKind.u8.wrap x).toNat : Int) ∧ (IntKind.u8.wrap x).toNat < 256 := by
  have h : 0 ≤ IntKind.u8.wrap x ∧ IntKind.u8.wrap x < 256 := by
    have e : IntKind.u8.wrap x = x % 256 := by
      have h1 : IntKind.u8.signed = false := rfl
      simp [IntKind.wrap, IntKind.bits, h1]
    rw [e]; omega
  omega
theorem tdiv16 {x : Int} (h0 : -9223372036854775808 ≤ x) (h1 : x ≤ 9223372036854775807) : -9223372036854775808 ≤ x.tdiv 16 ∧ x.tdiv 16 ≤ 9223372036854775807 := by
  by_cases h : 0 ≤ x
  · rw [Int.tdiv_eq_ediv_of_nonneg h]; omega
  · obtain ⟨y, rfl⟩ : ∃ y, x = -y := ⟨-x, by omega⟩
    rw [Int.neg_tdiv, Int.tdiv_eq_ediv_of_nonneg (by omega)]; omega
section
variable {P : Program} {M : List HP} {F : List Fact} {T eS eI c : Nat} {r : Rf}
theorem rf_cell {i j t : Nat} {v : Value} (hi : M[i]? = some (RfB T eS eI c r)) (hT : tyScalar P t = true) (hv : (rfC r)[j]? = some v) : ∀ w, St w M F → Reads P w t ⟨c, j, none⟩ v := fun w hw => by
  have h1 := (hw.front hi).rfOpen
  exact run_loadVar_scalar hT ((cell_of_box (h1.heap (i := 0) rfl)).trans hv)
theorem rf_at {i : Nat} (hi : M[i]? = some (RfB T eS eI c r)) : ∀ w, St w M F → ∃ g, r.ba = some ⟨g, 0, none⟩ ∧ St w M F := fun w hw => by
  obtain ⟨g, hg, _⟩ := own_at (i := 1) rfl (rowsF_ne _ _) (hw.front hi).rfOpen
  exact ⟨g, hg, hw⟩
theorem rf_row {i t g n : Nat} {u : Int} (hi : M[i]? = some (RfB T eS eI c r)) (hg : r.ba = some ⟨g, 0, none⟩) (hT : tyScalar P t = true) (hu : u = n) (hn : n < 64) : ∀ w, St w M F → Reads P w t ⟨g, 0 + u.toNat * 1, none⟩ (.slice (r.x n).oa (r.a.B n).length (r.x n).c) := fun w hw => by
  have h1 := (hw.front hi).rfOpen
  exact own_one (i := 1) rfl hg hT (rowsF_get hu hn) w h1
theorem ops_at {l : List OpX} {i : Nat} {u : Int} (hu : u = i) (h : i < l.length) (j : Nat) (v : Value) (hv : (l[i].c)[j]? = some v) : (opsV l)[0 + u.toNat * 5 + j]? = some v := by
  subst hu; rw [Nat.zero_add]; exact opsV_at h j v hv
end
end Go.GL

namespace Go.Proofs.YtdlpaojkkekdlaaGreat
open Go.GL
set_option linter.unusedVariables false
theorem p_append {n : Int} {x : List UInt8} {ob : Option Addr} {cb : Nat} {b : Nat} {s : Ds} {a : Am} {M : List HP} {F : List Fact} (h : RelP s a) (hA : AllF s.fs ∈ F) (hx : ArrF ob (bytesV x) ∈ F) (hn : I64 n) (hxl : x.length ≤ 4398046511104) : Ctr Tryz.prog 35 [.pointer (some ⟨b, 0, none⟩), I n, .slice ob x.length cb] (DkB 62 b (s) :: M) F {q : Ds // RelP q (appA a n x).2} (fun _ => I (appA a n x).1) (fun q => DkB 62 b q.1 :: M) (fun q => AllF q.1.fs :: F) :=
  (dapp_d h.ok h.lft h.rm hA hx hn hxl).weak (fun w hw => hw) (fun z => ⟨appS s n x z.1, (h.append z.2).2⟩) (fun z => by show I (appE s n x) = _; rw [(h.append z.2).1]) (fun z w hw => hw)

theorem p_sync  {b : Nat} {s : Ds} {a : Am} {M : List HP} {F : List Fact} (h : RelP s a) (hA : AllF s.fs ∈ F)  : Ctr Tryz.prog 25 [.pointer (some ⟨b, 0, none⟩)] (DkB 62 b (s) :: M) F {q : Ds // RelP q (syncA a).2} (fun _ => I (syncA a).1) (fun q => DkB 62 b q.1 :: M) (fun q => AllF q.1.fs :: F) :=
  (sync_d h.ok h.lft hA).weak (fun w hw => hw) (fun _ => ⟨syncS s, h.sync.2⟩) (fun _ => by show I (syncE s) = _; rw [h.sync.1]) (fun _ w hw => hw)

theorem p_trunc {n k : Int} {b : Nat} {s : Ds} {a : Am} {M : List HP} {F : List Fact} (h : RelP s a) (hA : AllF s.fs ∈ F) (hn : I64 n) : Ctr Tryz.prog 24 [.pointer (some ⟨b, 0, none⟩), I n, I k] (DkB 62 b (s) :: M) F {q : Ds // RelP q (truncA a n k).2} (fun _ => I (truncA a n k).1) (fun q => DkB 62 b q.1 :: M) (fun q => AllF q.1.fs :: F) :=
  (trunc_d h.ok h.lft hA hn).weak (fun w hw => hw) (fun _ => ⟨truncS s n k, h.trunc.2⟩) (fun _ => by show I (truncE s n k) = _; rw [h.trunc.1]) (fun _ w hw => hw)

theorem p_arm {n : Int} {b : Nat} {s : Ds} {a : Am} {M : List HP} {F : List Fact} (h : RelP s a) (hA : AllF s.fs ∈ F) (hn0 : -1 ≤ n) (hn1 : n ≤ 4611686018427387904) : Ctr Tryz.prog 9 [.pointer (some ⟨b, 0, none⟩), I n] (DkB 62 b (s) :: M) F {q : Ds // RelP q (armA a n)} (fun _ => .tuple #[]) (fun q => DkB 62 b q.1 :: M) (fun q => AllF q.1.fs :: F) :=
  (arm_d (s := s)).weak (fun w hw => hw) (fun _ => ⟨armS s n, h.arm hn0 hn1⟩) (fun _ => rfl) (fun _ w hw => hw.derive (ψ := AllF (armS s n).fs) (fun K hf => by rw [armS_fs]; exact hf _ hA))

theorem p_crash {ks : List Int} {fl : Int} {ok : Option Addr} {ck : Nat} {b : Nat} {s : Ds} {a : Am} {M : List HP} {F : List Fact} (h : RelP s a) (hA : AllF s.fs ∈ F) (hK : ArrF ok (ints ks) ∈ F) (hks : IntsOk ks) (hfl : I64 fl) : Ctr Tryz.prog 11 [.pointer (some ⟨b, 0, none⟩), .slice ok ks.length ck, I fl] (DkB 62 b (s) :: M) F {q : Ds // RelP q (crashA a ks fl)} (fun _ => .tuple #[]) (fun q => DkB 62 b q.1 :: M) (fun q => AllF q.1.fs :: F) :=
  (crash_d h.ok hA hK hks (Nat.le_trans h.rm.used h.rm.room) hfl).weak (fun w hw => hw) (fun t => ⟨t.1, h.crash t.2⟩) (fun _ => rfl) (fun _ w hw => hw)

theorem p_used {b : Nat} {s : Ds} {a : Am} {M : List HP} {F : List Fact} (h : RelP s a) : Ctr Tryz.prog 50 [.pointer (some ⟨b, 0, none⟩)] (DkB 62 b (s) :: M) F Unit (fun _ => I (usedA a.B : Nat)) (fun _ => DkB 62 b (s) :: M) (fun _ => F) := (used_d h.ok h.rm).weak (fun w hw => hw) id (fun _ => by rw [h.used]) (fun _ w hw => hw)

theorem p_files {b : Nat} {s : Ds} {a : Am} {M : List HP} {F : List Fact} (h : RelP s a) : Ctr Tryz.prog 29 [.pointer (some ⟨b, 0, none⟩)] (DkB 62 b (s) :: M) F (Option Addr × Nat) (fun z => .slice z.1 (natI (filesB a.B)).length z.2) (fun _ => DkB 62 b (s) :: M) (fun z => ArrF z.1 (ints (natI (filesB a.B))) :: F) := by
  have e : srt (s.fs.map Prod.fst) = natI (filesB a.B) := by rw [files_srt h.ok, filesB_congr h.b]; rfl
  have h1 := Ctr.dk (ι := Option Addr × Nat) (M := M) (F' := fun _ => F) (T := 62) [] (fun z => [OwnSl 3 1 z.1 (srt (s.fs.map Prod.fst)).length z.2 (ints (srt (s.fs.map Prod.fst)))]) (fun _ => s) (files_spec (b := b) (s := s) (F := F) h.ok)
  rw [e] at h1
  exact h1.weak (fun w hw => hw) id (fun _ => rfl) (fun z w hw => St.keepSl hw)

theorem p_read {n : Nat} {b : Nat} {s : Ds} {a : Am} {M : List HP} {F : List Fact} (h : RelP s a) (hA : AllF s.fs ∈ F) (hn : n < 64) : Ctr Tryz.prog 19 [.pointer (some ⟨b, 0, none⟩), I (n : Int)] (DkB 62 b (s) :: M) F (Option Addr × Nat) (fun z => .tuple #[.slice z.1 (if a.off = true then [] else a.B n).length z.2, I (if a.off = true then 22 else 0)]) (fun _ => DkB 62 b (s) :: M) (fun z => ArrF z.1 (bytesV (if a.off = true then [] else a.B n)) :: F) := by
  have h1 := read_d (b := b) (s := s) (n := (n : Int)) (M := M) h.ok h.rm hA ⟨by omega, by omega⟩
  have hth : there (n : Int) := ⟨by omega, by omega⟩
  have e1 : readB s (n : Int) = if a.off = true then [] else a.B n := by unfold readB; rw [if_neg (not_not_intro hth), h.off, ← h.b n hn]; rfl
  have e2 : readE s (n : Int) = if a.off = true then 22 else 0 := by unfold readE; rw [if_neg (not_not_intro hth), h.off]
  rw [e1, e2] at h1
  exact h1.weak (fun w hw => hw) id (fun _ => rfl) (fun z w hw => St.keepSl hw)

theorem r_append {n : Int} {x : List UInt8} {ob : Option Addr} {cb : Nat} {c : Nat} {r : Rf} {M : List HP} {F : List Fact} (hr : RfOk r) (hB : AllB (rowsF r.a.B r.x) ∈ F) (hx : ArrF ob (bytesV x) ∈ F) (hxl : x.length ≤ 4398046511104) : Ctr Tryz.prog 37 [.pointer (some ⟨c, 0, none⟩), I n, .slice ob x.length cb] (RfB 50 39 3 c (r) :: M) F {q : Rf // RfOk q ∧ q.a = (appA r.a n x).2} (fun _ => I (appA r.a n x).1) (fun q => RfB 50 39 3 c (q.1) :: M) (fun q => AllB (rowsF q.1.a.B q.1.x) :: F) :=
  Ctr.rf (ι := {q : Rf // RfOk q ∧ q.a = (appA r.a n x).2}) (fun _ => []) (fun q => q.1) (rappend_spec hr hB hx hxl)

theorem r_sync  {c : Nat} {r : Rf} {M : List HP} {F : List Fact} (hr : RfOk r) (hB : AllB (rowsF r.a.B r.x) ∈ F)  : Ctr Tryz.prog 28 [.pointer (some ⟨c, 0, none⟩)] (RfB 50 39 3 c (r) :: M) F {q : Rf // RfOk q ∧ q.a = (syncA r.a).2} (fun _ => I (syncA r.a).1) (fun q => RfB 50 39 3 c (q.1) :: M) (fun q => AllB (rowsF q.1.a.B q.1.x) :: F) :=
  Ctr.rf (ι := {q : Rf // RfOk q ∧ q.a = (syncA r.a).2}) (fun _ => []) (fun q => q.1) (rsync_spec hr hB)

theorem r_trunc {n k : Int} {c : Nat} {r : Rf} {M : List HP} {F : List Fact} (hr : RfOk r) (hB : AllB (rowsF r.a.B r.x) ∈ F)  : Ctr Tryz.prog 27 [.pointer (some ⟨c, 0, none⟩), I n, I k] (RfB 50 39 3 c (r) :: M) F {q : Rf // RfOk q ∧ q.a = (truncA r.a n k).2} (fun _ => I (truncA r.a n k).1) (fun q => RfB 50 39 3 c (q.1) :: M) (fun q => AllB (rowsF q.1.a.B q.1.x) :: F) :=
  Ctr.rf (ι := {q : Rf // RfOk q ∧ q.a = (truncA r.a n k).2}) (fun _ => []) (fun q => q.1) (rtrunc_spec hr hB)

theorem r_arm {n : Int} {c : Nat} {r : Rf} {M : List HP} {F : List Fact} (hr : RfOk r) (hB : AllB (rowsF r.a.B r.x) ∈ F) (hn0 : -1 ≤ n) (hn1 : n ≤ 4611686018427387904) : Ctr Tryz.prog 10 [.pointer (some ⟨c, 0, none⟩), I n] (RfB 50 39 3 c (r) :: M) F {q : Rf // RfOk q ∧ q.a = armA r.a n} (fun _ => .tuple #[]) (fun q => RfB 50 39 3 c (q.1) :: M) (fun q => AllB (rowsF q.1.a.B q.1.x) :: F) :=
  Ctr.rf (ι := {q : Rf // RfOk q ∧ q.a = armA r.a n}) (fun _ => []) (fun q => q.1) (rarm_spec hr hB hn0 hn1)

theorem r_crash {ks : List Int} {fl : Int} {ok : Option Addr} {ck : Nat} {c : Nat} {r : Rf} {M : List HP} {F : List Fact} (hr : RfOk r) (hB : AllB (rowsF r.a.B r.x) ∈ F) (hK : ArrF ok (ints ks) ∈ F) (hks : IntsOk ks) (hfl : I64 fl) : Ctr Tryz.prog 12 [.pointer (some ⟨c, 0, none⟩), .slice ok ks.length ck, I fl] (RfB 50 39 3 c (r) :: M) F {q : Rf // RfOk q ∧ q.a = crashA r.a ks fl} (fun _ => .tuple #[]) (fun q => RfB 50 39 3 c (q.1) :: M) (fun q => AllB (rowsF q.1.a.B q.1.x) :: F) :=
  Ctr.rf (ι := {q : Rf // RfOk q ∧ q.a = crashA r.a ks fl}) (fun _ => []) (fun q => q.1) (rcrash_spec hr hB hK hks hfl)

theorem r_used {c : Nat} {r : Rf} {M : List HP} {F : List Fact} (hr : RfOk r) : Ctr Tryz.prog 52 [.pointer (some ⟨c, 0, none⟩)] (RfB 50 39 3 c (r) :: M) F Unit (fun _ => I (usedA r.a.B : Nat)) (fun _ => RfB 50 39 3 c (r) :: M) (fun _ => F) := Ctr.rf (ι := Unit) (fun _ => []) (fun _ => r) (rused_spec (by have := hr.us; have := hr.rm; omega))

theorem r_files {c : Nat} {r : Rf} {M : List HP} {F : List Fact} : Ctr Tryz.prog 33 [.pointer (some ⟨c, 0, none⟩)] (RfB 50 39 3 c (r) :: M) F (Option Addr × Nat) (fun z => .slice z.1 (natI (filesB r.a.B)).length z.2) (fun _ => RfB 50 39 3 c (r) :: M) (fun z => ArrF z.1 (ints (natI (filesB r.a.B))) :: F) := (Ctr.rf (ι := Option Addr × Nat) (F' := fun _ => F) (fun z => [OwnSl 3 1 z.1 (filesB r.a.B).length z.2 (ints (natI (filesB r.a.B)))]) (fun _ => r) (rfiles_spec (s := r) (b := c))).weak (fun w hw => hw) id (fun z => by rw [natI_len]; rfl) (fun z w hw => St.keepSl hw)

theorem r_new {k : Nat} {M : List HP} {F : List Fact} : Ctr Tryz.prog 6 [I k] M F (Nat × Option Addr × Option Addr) (fun z => .pointer (some ⟨z.1, 0, none⟩)) (fun z => RfB 50 39 3 z.1 (rf0 k z.2.1 z.2.2) :: M) (fun z => AllB (rowsF (rf0 k z.2.1 z.2.2).a.B (rf0 k z.2.1 z.2.2).x) :: F) := rnew_spec.weak (fun w hw => hw) id (fun _ => rfl) (fun z w hw => St.rfClose hw)

end Go.Proofs.YtdlpaojkkekdlaaGreat

namespace Go.GL
set_option linter.unusedVariables false
/-- how many bytes of a file are frames -/
def scanN (b : List UInt8) : Nat := (framesJ 0 (scanJ 0 b)).length
def openT (a : Am) (f : Nat) : Int × Am := if scanN (a.B f) < (a.B f).length then truncA a f (scanN (a.B f)) else (0, a)
def openA (a : Am) (f : Nat) : Int × Am := if a.off = true then (22, a) else if (openT a f).1 = 0 then syncA (openT a f).2 else openT a f
/-- an Append to a log: its answer, the disk, the log -/
def lapA (a : Am) (g : Lg) (x : List UInt8) : Int × Am :=
  if (65536 : Int) < x.length then (4, a) else if g.dn = true then (22, a) else
  if (appA a g.f (frameJ g.n x)).1 = 0 then syncA (appA a g.f (frameJ g.n x)).2 else appA a g.f (frameJ g.n x)
def lapG (a : Am) (g : Lg) (x : List UInt8) : Lg := if (65536 : Int) < x.length then g else lgN g (lapA a g x).1
theorem RelP.log {s : Ds} {a : Am} {g : Lg} {x : List UInt8} {z : RdX} (h : RelP s a) (hz : ((fget s.fs g.f).b ++ lgFr g x).length ≤ z.c) : lgE s g x z = (lapA a g x).1 ∧ RelP (lgS s g x z) (lapA a g x).2 ∧ lgG s g x z = lapG a g x := by
  by_cases h1 : (65536 : Int) < x.length
  · obtain ⟨e1, e2, e3⟩ := lgE_far (s := s) (g := g) (z := z) h1
    rw [e1, e2, e3]
    unfold lapA lapG
    rw [if_pos h1, if_pos h1]; exact ⟨rfl, h, rfl⟩
  · have hG : lgE s g x z = (lapA a g x).1 → lgG s g x z = lapG a g x := fun e => by unfold lgG lapG; rw [if_neg h1, if_neg h1, e]
    by_cases h2 : g.dn = true
    · obtain ⟨e1, e2, e3⟩ := lgE_dn (s := s) (g := g) (z := z) h1 h2
      have e4 : lapA a g x = (22, a) := by unfold lapA; rw [if_neg h1, if_pos h2]
      refine ⟨by rw [e1, e4], by rw [e2, e4]; exact h, hG (by rw [e1, e4])⟩
    · obtain ⟨f1, f2⟩ := h.append hz
      have f1' : appE s g.f (lgFr g x) = (appA a g.f (frameJ g.n x)).1 := f1
      by_cases h3 : appE s g.f (lgFr g x) ≠ 0
      · obtain ⟨e1, e2, e3⟩ := lgE_app (z := z) h1 h2 h3
        have e4 : lapA a g x = appA a g.f (frameJ g.n x) := by
          unfold lapA; rw [if_neg h1, if_neg h2, if_neg (fun e => h3 (f1'.trans e))]
        refine ⟨by rw [e1, e4]; exact f1, by rw [e2, e4]; exact f2, hG (by rw [e1, e4]; exact f1)⟩
      · obtain ⟨e1, e2, e3⟩ := lgE_sync (z := z) h1 h2 h3
        have e4 : lapA a g x = syncA (appA a g.f (frameJ g.n x)).2 := by
          unfold lapA; rw [if_neg h1, if_neg h2, if_pos (f1'.symm.trans (Decidable.not_not.1 h3))]
        obtain ⟨k1, k2⟩ := f2.sync
        refine ⟨by rw [e1, e4]; exact k1, by rw [e2, e4]; exact k2, hG (by rw [e1, e4]; exact k1)⟩
theorem lapG_f (a : Am) (g : Lg) (x : List UInt8) : (lapG a g x).f = g.f := by unfold lapG; split <;> rfl
theorem lapG_n (a : Am) (g : Lg) (x : List UInt8) : (lapG a g x).n ≤ g.n + 1 := by
  unfold lapG; split
  · omega
  · show (if (lapA a g x).1 = 0 then g.n + 1 else g.n) ≤ _; split <;> omega
theorem scanN_le (b : List UInt8) : scanN b ≤ b.length := scan_le
/-- a log, where there is one -/
def LgB (T b : Nat) : Option Nat → Lg → HP
  | none, _ => HP.emp
  | some l, g => Box l T (lgC b g)
def ptrO (o : Option Nat) : Value := .pointer (o.map fun l => ⟨l, 0, none⟩)
/-- what an Open gives: the log's block, the records -/
structure OpR (a : Am) (f : Nat) (o : Option Nat) (z : LsX) : Prop where
  is : o.isSome = decide ((openA a f).1 = 0)
  recs : z.ps.map Prod.fst = if (openA a f).1 = 0 then scanJ 0 (a.B f) else []
  cap : ∀ p, p ∈ z.ps → p.1.length ≤ p.2.c
theorem openA_off {a : Am} {f : Nat} (h : a.off = true) : openA a f = (22, a) := by unfold openA; rw [if_pos h]
theorem openA_on {a : Am} {f : Nat} (h : a.off = false) : openA a f = if (openT a f).1 = 0 then syncA (openT a f).2 else openT a f := by unfold openA; rw [if_neg (by rw [h]; simp)]
theorem openT_cut {a : Am} {f : Nat} (h : scanN (a.B f) < (a.B f).length) : openT a f = truncA a f (scanN (a.B f)) := if_pos h
theorem openT_all {a : Am} {f : Nat} (h : ¬ scanN (a.B f) < (a.B f).length) : openT a f = (0, a) := if_neg h
theorem OpR.no {a : Am} {f : Nat} (h : (openA a f).1 ≠ 0) : OpR a f none ⟨[], none, 0⟩ := ⟨by simp [h], by rw [if_neg h]; rfl, fun p hp => by cases hp⟩
theorem OpR.yes {a : Am} {f l : Nat} {z : LsX} (h : (openA a f).1 = 0) (hz : z.ps.map Prod.fst = scanJ 0 (a.B f) ∧ ∀ p, p ∈ z.ps → p.1.length ≤ p.2.c) : OpR a f (some l) z := ⟨by simp [h], by rw [if_pos h]; exact hz.1, hz.2⟩
theorem frames_len : ∀ (xs : List (List UInt8)) (i : Nat), xs.length ≤ (framesJ i xs).length
  | [], _ => Nat.zero_le _
  | x :: xs, i => by
    have h1 := frames_len xs (i + 1)
    have h2 := frameJ_pos (i : Int) x
    have e : framesJ i (x :: xs) = frameJ (i : Int) x ++ framesJ (i + 1) xs := rfl
    rw [e, List.length_append, List.length_cons]; omega
theorem scan_len (b : List UInt8) : (scanJ 0 b).length ≤ b.length := Nat.le_trans (frames_len _ 0) scan_le
theorem OpR.len {a : Am} {f : Nat} {o : Option Nat} {z : LsX} (h : OpR a f o z) : z.ps.length ≤ (a.B f).length := by
  have e := congrArg List.length h.recs
  rw [List.length_map] at e
  rw [e]; split
  · exact scan_len _
  · exact Nat.zero_le _
theorem OpR.same {a : Am} {f : Nat} {o o' : Option Nat} {z z' : LsX} (h : OpR a f o z) (h' : OpR a f o' z') : z.ps.map Prod.fst = z'.ps.map Prod.fst ∧ z.ps.length = z'.ps.length ∧ o.isSome = o'.isSome := by
  have e : z.ps.map Prod.fst = z'.ps.map Prod.fst := h.recs.trans h'.recs.symm
  have e2 := congrArg List.length e
  rw [List.length_map, List.length_map] at e2
  exact ⟨e, e2, h.is.trans h'.is.symm⟩
theorem frames_mem : ∀ (xs : List (List UInt8)) (i : Nat) (x : List UInt8), x ∈ xs → x.length ≤ (framesJ i xs).length
  | [], _, _, h => by cases h
  | y :: xs, i, x, h => by
    have e : framesJ i (y :: xs) = frameJ (i : Int) y ++ framesJ (i + 1) xs := rfl
    rw [e, List.length_append]
    rcases List.mem_cons.1 h with h | h
    · have := frameJ_has (i : Int) y; rw [h]; omega
    · have := frames_mem xs (i + 1) x h; omega
theorem OpR.each {a : Am} {f : Nat} {o : Option Nat} {z : LsX} (h : OpR a f o z) {p : Rc} (hp : p ∈ z.ps) : p.1.length ≤ (a.B f).length := by
  have h1 : p.1 ∈ z.ps.map Prod.fst := List.mem_map_of_mem hp
  rw [h.recs] at h1
  split at h1
  · exact Nat.le_trans (frames_mem _ 0 _ h1) scan_le
  · cases h1
theorem tdiv8 {x : Int} (h0 : -9223372036854775808 ≤ x) (h1 : x ≤ 9223372036854775807) : -9223372036854775808 ≤ x.tdiv 8 ∧ x.tdiv 8 ≤ 9223372036854775807 := by
  by_cases h : 0 ≤ x
  · rw [Int.tdiv_eq_ediv_of_nonneg h]; omega
  · obtain ⟨y, rfl⟩ : ∃ y, x = -y := ⟨-x, by omega⟩
    rw [Int.neg_tdiv, Int.tdiv_eq_ediv_of_nonneg (by omega)]; omega
end Go.GL

namespace Go.Proofs.YtdlpaojkkekdlaaGreat
open Go.GL
set_option linter.unusedVariables false
theorem fa_bv44_0_1_2 (x0 : Option Addr) (x1 : Int) (x2 : Int) : BuildV Tryz.prog 44 [(0, .pointer x0), (1, .int .i64 x1), (2, .int .i64 x2)] (.agg #[.pointer x0, .int .i64 x1, .int .i64 x2, .bool false]) := fun w => by kernel_rfl
theorem fa_bv59_0_1_2 (x0 : Option Addr) (x1 : Int) (x2 : Int) : BuildV Tryz.prog 59 [(0, .pointer x0), (1, .int .i64 x1), (2, .int .i64 x2)] (.agg #[.pointer x0, .int .i64 x1, .int .i64 x2, .bool false]) := fun w => by kernel_rfl
theorem fa_tf44_0 : fieldOff Tryz.prog 44 0 0 = true := by kernel_rfl
theorem fa_tf44_1 : fieldOff Tryz.prog 44 1 1 = true := by kernel_rfl
theorem fa_tf44_2 : fieldOff Tryz.prog 44 2 2 = true := by kernel_rfl
theorem fa_tf44_3 : fieldOff Tryz.prog 44 3 3 = true := by kernel_rfl
theorem fa_tf50_1 : fieldOff Tryz.prog 50 1 1 = true := by kernel_rfl
theorem fa_tf50_3 : fieldOff Tryz.prog 50 3 3 = true := by kernel_rfl
theorem fa_tl29 : tySlice Tryz.prog 29 39 = true := by kernel_rfl
theorem fa_tl39 : tySlice Tryz.prog 39 5 = true := by kernel_rfl
theorem fa_tp24 : tyPtr Tryz.prog 24 62 = true := by kernel_rfl
theorem fa_ts26 : tyScalar Tryz.prog 26 = true := by kernel_rfl
theorem fa_ts29 : tyScalar Tryz.prog 29 = true := by kernel_rfl
theorem fa_ts3 : tyScalar Tryz.prog 3 = true := by kernel_rfl
theorem fa_ts39 : tyScalar Tryz.prog 39 = true := by kernel_rfl
theorem fa_ts4 : tyScalar Tryz.prog 4 = true := by kernel_rfl
theorem fa_tz39 : tySize Tryz.prog 39 1 = true := by kernel_rfl
theorem p_read_on {n : Nat} {b : Nat} {s : Ds} {a : Am} {M : List HP} {F : List Fact} (h : RelP s a) (hA : AllF s.fs ∈ F) (hn : n < 64) (ho : a.off = false) : Ctr Tryz.prog 19 [.pointer (some ⟨b, 0, none⟩), I (n : Int)] (DkB 62 b (s) :: M) F (Option Addr × Nat) (fun z => .tuple #[.slice z.1 (a.B n).length z.2, I 0]) (fun z => OwnSl 5 1 z.1 (a.B n).length z.2 (bytesV (a.B n)) :: DkB 62 b (s) :: M) (fun _ => F) := by
  have h1 := read_d (b := b) (s := s) (n := (n : Int)) (M := M) h.ok h.rm hA ⟨by omega, by omega⟩
  have hth : there (n : Int) := ⟨by omega, by omega⟩
  have e1 : readB s (n : Int) = a.B n := by unfold readB; rw [if_neg (not_not_intro hth), h.off, ← h.b n hn, ho]; rfl
  have e2 : readE s (n : Int) = 0 := by unfold readE; rw [if_neg (not_not_intro hth), h.off, ho]; rfl
  rw [e1, e2] at h1
  exact h1

set_option maxHeartbeats 1000000 in
theorem p_open {f : Nat} {b : Nat} {s : Ds} {a : Am} {M : List HP} {F : List Fact} (h : RelP s a) (hA : AllF s.fs ∈ F) (hf : f < 64) : Ctr Tryz.prog 7 [.pointer (some ⟨b, 0, none⟩), I (f : Int)] (DkB 62 b (s) :: M) F {q : Ds × Option Nat × LsX // RelP q.1 (openA a f).2 ∧ OpR a f q.2.1 q.2.2} (fun q => .tuple #[ptrO q.1.2.1, .slice q.1.2.2.oa q.1.2.2.ps.length q.1.2.2.c, I (openA a f).1]) (fun q => LgB 59 b q.1.2.1 ⟨f, q.1.2.2.ps.length, false⟩ :: DkB 62 b q.1.1 :: M) (fun q => ArrF q.1.2.2.oa (listV q.1.2.2.ps) :: AllB q.1.2.2.ps :: AllF q.1.1.fs :: F) := by
  refine Ctr.body Tryz.func7 rfl rfl ?_
  refine TR.seq ?_
  refine TR.region ?_
  refine RL.assign rfl rfl rfl ?_
  refine RL.assign rfl rfl rfl ?_
  refine RL.assign rfl rfl rfl ?_
  refine RL.nil ?_
  refine NX.seq ?_
  refine TR.seq ?_
  refine TR.seq ?_
  refine TR.region ?_
  refine RL.move rfl rfl rfl ?_
  refine RL.bin rfl rfl rfl (BinV.eqlPtrNil fa_tp24) rfl ?_
  refine RL.nil ?_
  refine NX.seq ?_
  refine TR.condF rfl ?_
  refine TR.skip ?_
  refine NX.seq ?_
  refine TR.seq ?_
  refine TR.region ?_
  rcases Bool.eq_false_or_eq_true a.off with hoff | hoff
  · skip
    refine RL.move rfl rfl rfl ?_
    refine RL.move rfl rfl rfl ?_
    refine RL.call rfl rfl Tryz.call19 rfl (p_read (n := f) h hA hf) (fun rd => ?_)
    refine RL.move rfl rfl rfl ?_
    refine RL.extract rfl rfl rfl rfl ?_
    refine RL.extract rfl rfl rfl rfl ?_
    refine RL.assign rfl rfl rfl ?_
    refine RL.assign rfl rfl rfl ?_
    refine RL.nil ?_
    refine NX.seq ?_
    refine TR.seq ?_
    refine TR.seq ?_
    refine TR.region ?_
    refine RL.move rfl rfl rfl ?_
    refine RL.bin rfl rfl rfl (BinV.to (d := true) BinV.neq (decide_eq_true (by rw [hoff]; decide))) rfl ?_
    refine RL.nil ?_
    refine NX.seq ?_
    refine TR.condT rfl ?_
    refine TR.seq ?_
    refine TR.region ?_
    refine RL.move rfl rfl rfl ?_
    refine RL.assign rfl rfl rfl ?_
    refine RL.assign rfl rfl rfl ?_
    refine RL.assign rfl rfl rfl ?_
    refine RL.nil ?_
    refine NX.seq ?_
    refine TR.ret ?_
    refine NX.retThen ?_
    have hop : openA a f = (22, a) := openA_off hoff
    refine NX.ret3 (⟨(s, none, ⟨[], none, 0⟩), by rw [hop]; exact h, OpR.no (by rw [hop]; show (22 : Int) ≠ 0; decide)⟩ : {q : Ds × Option Nat × LsX // RelP q.1 (openA a f).2 ∧ OpR a f q.2.1 q.2.2}) rfl rfl rfl rfl ((congrArg (fun e : Int => Value.tuple #[.pointer none, .slice none 0 0, I e]) (if_pos hoff)).trans (congrArg (fun e : Int × Am => Value.tuple #[.pointer none, .slice none 0 0, I e.1]) hop.symm)) (fun w hw => ?_)
    exact ((St.emp (((hw.to 1 [0] 1 [] rfl) : St w (DkB 62 b (s) :: M) _).derive (ψ := AllF s.fs) (fun K hf => hf _ hA))).allB_nil).arr0
  · skip
    refine RL.move rfl rfl rfl ?_
    refine RL.move rfl rfl rfl ?_
    refine RL.call rfl rfl Tryz.call19 rfl (p_read_on (n := f) h hA hf hoff) (fun rd => ?_)
    refine RL.open1 (fun w hw => ⟨hw.ownLen.2, hw⟩) (fun hrc => ?_)
    refine RL.weak (fun w hw => hw.keepSl) ?_
    refine RL.move rfl rfl rfl ?_
    refine RL.extract rfl rfl rfl rfl ?_
    refine RL.extract rfl rfl rfl rfl ?_
    refine RL.assign rfl rfl rfl ?_
    refine RL.assign rfl rfl rfl ?_
    refine RL.nil ?_
    refine NX.seq ?_
    refine TR.seq ?_
    refine TR.seq ?_
    refine TR.region ?_
    refine RL.move rfl rfl rfl ?_
    refine RL.bin rfl rfl rfl (BinV.to (d := false) BinV.neq (decide_eq_false (by simp))) rfl ?_
    refine RL.nil ?_
    refine NX.seq ?_
    refine TR.condF rfl ?_
    refine TR.skip ?_
    refine NX.seq ?_
    refine TR.seq ?_
    have hfu := used_one (B := a.B) hf
    have hus := h.used
    have hru := h.rm.used
    have hrr := h.rm.room
    refine TR.region ?_
    refine RL.move rfl rfl rfl ?_
    refine RL.call rfl rfl Tryz.call23 rfl (scan_spec (b := a.B f) (.head _) hrc (by omega)) (fun S => ?_)
    refine RL.move rfl rfl rfl ?_
    refine RL.extract rfl rfl rfl rfl ?_
    refine RL.extract rfl rfl rfl rfl ?_
    refine RL.assign rfl rfl rfl ?_
    refine RL.assign rfl rfl rfl ?_
    refine RL.nil ?_
    refine NX.seq ?_
    refine TR.seq ?_
    refine TR.seq ?_
    refine TR.region ?_
    refine RL.move rfl rfl rfl ?_
    refine RL.move rfl rfl rfl ?_
    refine RL.lenSlice rfl fa_tl39 rfl rfl ?_
    refine RL.bin rfl rfl rfl BinV.lss rfl ?_
    refine RL.nil ?_
    refine NX.seq ?_
    refine TR.cond rfl (fun h1 => ?_) (fun h1 => ?_)
    · skip
      have hlt : (scanN (a.B f)) < (a.B f).length := by have := of_decide_eq_true h1; exact Int.ofNat_lt.1 this
      refine TR.region ?_
      refine RL.move rfl rfl rfl ?_
      refine RL.move rfl rfl rfl ?_
      refine RL.move rfl rfl rfl ?_
      refine RL.call rfl rfl Tryz.call24 rfl (Ctr.pick 2 [1, 0] rfl (p_trunc (n := (f : Int)) (k := ((scanN (a.B f)) : Nat)) h (.tail _ (.tail _ hA)) ⟨by omega, by omega⟩)) (fun q1 => ?_)
      refine RL.assign rfl rfl rfl ?_
      refine RL.nil ?_
      refine NX.seq ?_
      refine TR.seq ?_
      refine TR.seq ?_
      refine TR.region ?_
      refine RL.move rfl rfl rfl ?_
      refine RL.bin rfl rfl rfl BinV.eql rfl ?_
      refine RL.nil ?_
      refine NX.seq ?_
      refine TR.cond rfl (fun h2 => ?_) (fun h2 => ?_)
      · skip
        have h36 := of_decide_eq_true h2
        refine TR.region ?_
        refine RL.move rfl rfl rfl ?_
        refine RL.call rfl rfl Tryz.call25 rfl (p_sync q1.2 (.head _)) (fun q2 => ?_)
        refine RL.assign rfl rfl rfl ?_
        refine RL.nil ?_
        refine NX.seq ?_
        refine TR.seq ?_
        refine TR.seq ?_
        refine TR.region ?_
        refine RL.move rfl rfl rfl ?_
        refine RL.bin rfl rfl rfl BinV.neq rfl ?_
        refine RL.nil ?_
        refine NX.seq ?_
        refine TR.cond rfl (fun h3 => ?_) (fun h3 => ?_)
        · skip
          have h40 := of_decide_eq_true h3
          refine TR.seq ?_
          refine TR.region ?_
          refine RL.move rfl rfl rfl ?_
          refine RL.assign rfl rfl rfl ?_
          refine RL.assign rfl rfl rfl ?_
          refine RL.assign rfl rfl rfl ?_
          refine RL.nil ?_
          refine NX.seq ?_
          refine TR.ret ?_
          refine NX.retThen ?_
          have hop : openA a f = syncA (truncA a f (scanN (a.B f))).2 := by rw [openA_on hoff, openT_cut hlt, if_pos h36]
          refine NX.ret3 (⟨(q2.1, none, ⟨[], none, 0⟩), by rw [hop]; exact q2.2, OpR.no (by rw [hop]; exact h40)⟩ : {q : Ds × Option Nat × LsX // RelP q.1 (openA a f).2 ∧ OpR a f q.2.1 q.2.2}) rfl rfl rfl rfl (congrArg (fun e : Int × Am => Value.tuple #[.pointer none, .slice none 0 0, I e.1]) hop.symm) (fun w hw => ?_)
          exact ((St.emp ((hw.to 2 [0] 4 [0] rfl))).allB_nil).arr0
        · skip
          have h40 := of_decide_eq_false h3
          refine TR.skip ?_
          refine NX.seq ?_
          refine TR.seq ?_
          refine TR.region ?_
          refine RL.move rfl rfl rfl ?_
          refine RL.move rfl rfl rfl ?_
          refine RL.move rfl rfl rfl ?_
          refine RL.lenSlice rfl fa_tl29 rfl rfl ?_
          refine RL.build rfl rfl (fa_bv59_0_1_2 _ _ _) rfl ?_
          refine RL.boxA rfl rfl rfl (fun b4 => ?_)
          refine RL.move rfl rfl rfl ?_
          refine RL.assign rfl rfl rfl ?_
          refine RL.assign rfl rfl rfl ?_
          refine RL.assign rfl rfl rfl ?_
          refine RL.nil ?_
          refine NX.seq ?_
          refine TR.ret ?_
          have hop : openA a f = syncA (truncA a f (scanN (a.B f))).2 := by rw [openA_on hoff, openT_cut hlt, if_pos h36]
          have hz : (openA a f).1 = 0 := by rw [hop]; exact Decidable.not_not.1 h40
          refine NX.ret3 (⟨(q2.1, some b4, S.1), by rw [hop]; exact q2.2, OpR.yes hz S.2⟩ : {q : Ds × Option Nat × LsX // RelP q.1 (openA a f).2 ∧ OpR a f q.2.1 q.2.2}) rfl rfl rfl rfl (congrArg (fun e : Int => Value.tuple #[.pointer (some ⟨b4, 0, none⟩), .slice S.1.oa S.1.ps.length S.1.c, I e]) hz.symm) (fun w hw => ?_)
          exact St.keepSl (hw.to 3 [2, 0, 1] 4 [2, 0] rfl)
      · skip
        have h36 := of_decide_eq_false h2
        refine TR.skip ?_
        refine NX.seq ?_
        refine TR.seq ?_
        refine TR.seq ?_
        refine TR.region ?_
        refine RL.move rfl rfl rfl ?_
        refine RL.bin rfl rfl rfl (BinV.to (d := true) BinV.neq (decide_eq_true h36)) rfl ?_
        refine RL.nil ?_
        refine NX.seq ?_
        refine TR.condT rfl ?_
        refine TR.seq ?_
        refine TR.region ?_
        refine RL.move rfl rfl rfl ?_
        refine RL.assign rfl rfl rfl ?_
        refine RL.assign rfl rfl rfl ?_
        refine RL.assign rfl rfl rfl ?_
        refine RL.nil ?_
        refine NX.seq ?_
        refine TR.ret ?_
        refine NX.retThen ?_
        have hop : openA a f = truncA a f (scanN (a.B f)) := by rw [openA_on hoff, openT_cut hlt, if_neg h36]
        refine NX.ret3 (⟨(q1.1, none, ⟨[], none, 0⟩), by rw [hop]; exact q1.2, OpR.no (by rw [hop]; exact h36)⟩ : {q : Ds × Option Nat × LsX // RelP q.1 (openA a f).2 ∧ OpR a f q.2.1 q.2.2}) rfl rfl rfl rfl (congrArg (fun e : Int × Am => Value.tuple #[.pointer none, .slice none 0 0, I e.1]) hop.symm) (fun w hw => ?_)
        exact ((St.emp ((hw.to 2 [0] 3 [0] rfl))).allB_nil).arr0
    · skip
      have hlt : ¬ (scanN (a.B f)) < (a.B f).length := by have := of_decide_eq_false h1; exact fun e => this (Int.ofNat_lt.2 e)
      refine TR.skip ?_
      refine NX.seq ?_
      refine TR.seq ?_
      refine TR.seq ?_
      refine TR.region ?_
      refine RL.move rfl rfl rfl ?_
      refine RL.bin rfl rfl rfl (BinV.to (d := true) BinV.eql (decide_eq_true rfl)) rfl ?_
      refine RL.nil ?_
      refine NX.seq ?_
      refine TR.condT rfl ?_
      refine TR.region ?_
      refine RL.move rfl rfl rfl ?_
      refine RL.call rfl rfl Tryz.call25 rfl (Ctr.pick 2 [1, 0] rfl (p_sync h (.tail _ (.tail _ hA)))) (fun q2 => ?_)
      refine RL.assign rfl rfl rfl ?_
      refine RL.nil ?_
      refine NX.seq ?_
      refine TR.seq ?_
      refine TR.seq ?_
      refine TR.region ?_
      refine RL.move rfl rfl rfl ?_
      refine RL.bin rfl rfl rfl BinV.neq rfl ?_
      refine RL.nil ?_
      refine NX.seq ?_
      refine TR.cond rfl (fun h5 => ?_) (fun h5 => ?_)
      · skip
        have h40 := of_decide_eq_true h5
        refine TR.seq ?_
        refine TR.region ?_
        refine RL.move rfl rfl rfl ?_
        refine RL.assign rfl rfl rfl ?_
        refine RL.assign rfl rfl rfl ?_
        refine RL.assign rfl rfl rfl ?_
        refine RL.nil ?_
        refine NX.seq ?_
        refine TR.ret ?_
        refine NX.retThen ?_
        have hop : openA a f = syncA a := by rw [openA_on hoff, openT_all hlt]; rfl
        refine NX.ret3 (⟨(q2.1, none, ⟨[], none, 0⟩), by rw [hop]; exact q2.2, OpR.no (by rw [hop]; exact h40)⟩ : {q : Ds × Option Nat × LsX // RelP q.1 (openA a f).2 ∧ OpR a f q.2.1 q.2.2}) rfl rfl rfl rfl (congrArg (fun e : Int × Am => Value.tuple #[.pointer none, .slice none 0 0, I e.1]) hop.symm) (fun w hw => ?_)
        exact ((St.emp ((hw.to 2 [0] 3 [0] rfl))).allB_nil).arr0
      · skip
        have h40 := of_decide_eq_false h5
        refine TR.skip ?_
        refine NX.seq ?_
        refine TR.seq ?_
        refine TR.region ?_
        refine RL.move rfl rfl rfl ?_
        refine RL.move rfl rfl rfl ?_
        refine RL.move rfl rfl rfl ?_
        refine RL.lenSlice rfl fa_tl29 rfl rfl ?_
        refine RL.build rfl rfl (fa_bv59_0_1_2 _ _ _) rfl ?_
        refine RL.boxA rfl rfl rfl (fun b6 => ?_)
        refine RL.move rfl rfl rfl ?_
        refine RL.assign rfl rfl rfl ?_
        refine RL.assign rfl rfl rfl ?_
        refine RL.assign rfl rfl rfl ?_
        refine RL.nil ?_
        refine NX.seq ?_
        refine TR.ret ?_
        have hop : openA a f = syncA a := by rw [openA_on hoff, openT_all hlt]; rfl
        have hz : (openA a f).1 = 0 := by rw [hop]; exact Decidable.not_not.1 h40
        refine NX.ret3 (⟨(q2.1, some b6, S.1), by rw [hop]; exact q2.2, OpR.yes hz S.2⟩ : {q : Ds × Option Nat × LsX // RelP q.1 (openA a f).2 ∧ OpR a f q.2.1 q.2.2}) rfl rfl rfl rfl (congrArg (fun e : Int => Value.tuple #[.pointer (some ⟨b6, 0, none⟩), .slice S.1.oa S.1.ps.length S.1.c, I e]) hz.symm) (fun w hw => ?_)
        exact St.keepSl (hw.to 3 [2, 0, 1] 3 [1, 0] rfl)

set_option maxHeartbeats 1000000 in
theorem r_open {f : Nat} {c : Nat} {r : Rf} {M : List HP} {F : List Fact} (hr : RfOk r) (hB : AllB (rowsF r.a.B r.x) ∈ F) (hf : f < 64) : Ctr Tryz.prog 8 [.pointer (some ⟨c, 0, none⟩), I (f : Int)] (RfB 50 39 3 c (r) :: M) F {q : Rf × Option Nat × LsX // (RfOk q.1 ∧ q.1.a = (openA r.a f).2) ∧ OpR r.a f q.2.1 q.2.2} (fun q => .tuple #[ptrO q.1.2.1, .slice q.1.2.2.oa q.1.2.2.ps.length q.1.2.2.c, I (openA r.a f).1]) (fun q => LgB 44 c q.1.2.1 ⟨f, q.1.2.2.ps.length, false⟩ :: RfB 50 39 3 c (q.1.1) :: M) (fun q => ArrF q.1.2.2.oa (listV q.1.2.2.ps) :: AllB q.1.2.2.ps :: AllB (rowsF q.1.1.a.B q.1.1.x) :: F) := by
  refine Ctr.body Tryz.func8 rfl rfl ?_
  refine TR.seq ?_
  refine TR.region ?_
  refine RL.assign rfl rfl rfl ?_
  refine RL.assign rfl rfl rfl ?_
  refine RL.assign rfl rfl rfl ?_
  refine RL.nil ?_
  refine NX.seq ?_
  refine TR.seq ?_
  refine TR.seq ?_
  refine TR.region ?_
  refine RL.move rfl rfl rfl ?_
  refine RL.nilCheck rfl rfl rfl ?_
  refine RL.fieldAddr rfl fa_tf50_3 rfl rfl ?_
  refine RL.loadS rfl rfl (rf_cell (j := 3) (v := .bool r.a.off) (i := 0) rfl fa_ts4 rfl) rfl ?_
  refine RL.nil ?_
  refine NX.seq ?_
  refine TR.cond rfl (fun h1 => ?_) (fun h1 => ?_)
  · skip
    have hoff : r.a.off = true := h1
    refine TR.seq ?_
    refine TR.region ?_
    refine RL.assign rfl rfl rfl ?_
    refine RL.assign rfl rfl rfl ?_
    refine RL.assign rfl rfl rfl ?_
    refine RL.nil ?_
    refine NX.seq ?_
    refine TR.ret ?_
    refine NX.retThen ?_
    have hop : openA r.a f = (22, r.a) := openA_off hoff
    refine NX.ret3 (⟨(r, none, ⟨[], none, 0⟩), ⟨hr, by rw [hop]⟩, OpR.no (by rw [hop]; show (22 : Int) ≠ 0; decide)⟩ : {q : Rf × Option Nat × LsX // (RfOk q.1 ∧ q.1.a = (openA r.a f).2) ∧ OpR r.a f q.2.1 q.2.2}) rfl rfl rfl rfl (congrArg (fun e : Int × Am => Value.tuple #[.pointer none, .slice none 0 0, I e.1]) hop.symm) (fun w hw => ?_)
    exact ((St.emp (((hw.to 1 [0] 0 [] rfl) : St w (RfB 50 39 3 c (r) :: M) _).derive (ψ := AllB (rowsF r.a.B r.x)) (fun K hf => hf _ hB))).allB_nil).arr0
  · skip
    have hoff : r.a.off = false := h1
    refine TR.skip ?_
    refine NX.seq ?_
    refine TR.seq ?_
    have hfu := used_one (B := r.a.B) hf
    have hus := hr.us
    have hrm := hr.rm
    refine TR.openP (rf_at (i := 0) rfl) (fun g hg => ?_)
    refine TR.weak (fun w hw => hw.allB_get hB (rowsF_mem hf)) ?_
    refine TR.region ?_
    refine RL.move rfl rfl rfl ?_
    refine RL.nilCheck rfl rfl rfl ?_
    refine RL.fieldAddr rfl fa_tf50_1 rfl rfl ?_
    refine RL.loadS rfl rfl (rf_cell (j := 1) (v := .slice r.ba 64 64) (i := 0) rfl fa_ts29 rfl) rfl ?_
    refine RL.move rfl rfl rfl ?_
    refine RL.indexAddr rfl fa_tl29 fa_tz39 (congrArg (fun a => some (Value.slice a _ _)) hg) rfl (by omega) (by omega) rfl ?_
    refine RL.loadS rfl rfl (rf_row (n := f) (i := 0) rfl hg fa_ts39 rfl hf) rfl ?_
    refine RL.call rfl rfl Tryz.call26 rfl (rScan_spec (b := r.a.B f) (.head _) (hr.cp f hf) (by omega)) (fun S => ?_)
    refine RL.move rfl rfl rfl ?_
    refine RL.extract rfl rfl rfl rfl ?_
    refine RL.extract rfl rfl rfl rfl ?_
    refine RL.assign rfl rfl rfl ?_
    refine RL.assign rfl rfl rfl ?_
    refine RL.nil ?_
    refine NX.seq ?_
    refine TR.seq ?_
    refine TR.region ?_
    refine RL.assign rfl rfl rfl ?_
    refine RL.nil ?_
    refine NX.seq ?_
    refine TR.seq ?_
    refine TR.seq ?_
    refine TR.region ?_
    refine RL.move rfl rfl rfl ?_
    refine RL.nilCheck rfl rfl rfl ?_
    refine RL.fieldAddr rfl fa_tf50_1 rfl rfl ?_
    refine RL.loadS rfl rfl (rf_cell (j := 1) (v := .slice r.ba 64 64) (i := 1) rfl fa_ts29 rfl) rfl ?_
    refine RL.move rfl rfl rfl ?_
    refine RL.indexAddr rfl fa_tl29 fa_tz39 (congrArg (fun a => some (Value.slice a _ _)) hg) rfl (by omega) (by omega) rfl ?_
    refine RL.loadS rfl rfl (rf_row (n := f) (i := 1) rfl hg fa_ts39 rfl hf) rfl ?_
    refine RL.lenSlice rfl fa_tl39 rfl rfl ?_
    refine RL.move rfl rfl rfl ?_
    refine RL.bin rfl rfl rfl BinV.gtr rfl ?_
    refine RL.nil ?_
    refine NX.seq ?_
    refine TR.cond rfl (fun h2 => ?_) (fun h2 => ?_)
    · skip
      have hlt : (scanN (r.a.B f)) < (r.a.B f).length := by have := of_decide_eq_true h2; exact Int.ofNat_lt.1 this
      refine TR.region ?_
      refine RL.move rfl rfl rfl ?_
      refine RL.move rfl rfl rfl ?_
      refine RL.move rfl rfl rfl ?_
      refine RL.call rfl rfl Tryz.call27 rfl (Ctr.pick 2 [1, 0] rfl (r_trunc (n := (f : Int)) (k := ((scanN (r.a.B f)) : Nat)) hr (.tail _ (.tail _ hB)))) (fun q1 => ?_)
      refine RL.assign rfl rfl rfl ?_
      refine RL.nil ?_
      refine NX.seq ?_
      refine TR.seq ?_
      refine TR.seq ?_
      refine TR.region ?_
      refine RL.move rfl rfl rfl ?_
      refine RL.bin rfl rfl rfl BinV.eql rfl ?_
      refine RL.nil ?_
      refine NX.seq ?_
      refine TR.cond rfl (fun h3 => ?_) (fun h3 => ?_)
      · skip
        have h36 := of_decide_eq_true h3
        refine TR.region ?_
        refine RL.move rfl rfl rfl ?_
        refine RL.call rfl rfl Tryz.call28 rfl (r_sync q1.2.1 (.head _)) (fun q2 => ?_)
        refine RL.assign rfl rfl rfl ?_
        refine RL.nil ?_
        refine NX.seq ?_
        refine TR.seq ?_
        refine TR.seq ?_
        refine TR.region ?_
        refine RL.move rfl rfl rfl ?_
        refine RL.bin rfl rfl rfl BinV.neq rfl ?_
        refine RL.nil ?_
        refine NX.seq ?_
        refine TR.cond rfl (fun h4 => ?_) (fun h4 => ?_)
        · skip
          have h40 := of_decide_eq_true h4
          refine TR.seq ?_
          refine TR.region ?_
          refine RL.move rfl rfl rfl ?_
          refine RL.assign rfl rfl rfl ?_
          refine RL.assign rfl rfl rfl ?_
          refine RL.assign rfl rfl rfl ?_
          refine RL.nil ?_
          refine NX.seq ?_
          refine TR.ret ?_
          refine NX.retThen ?_
          have hop : openA r.a f = syncA q1.1.a := by rw [openA_on hoff, openT_cut hlt, if_pos h36, q1.2.2]
          refine NX.ret3 (⟨(q2.1, none, ⟨[], none, 0⟩), ⟨q2.2.1, by rw [hop]; exact q2.2.2⟩, OpR.no (by rw [hop]; exact h40)⟩ : {q : Rf × Option Nat × LsX // (RfOk q.1 ∧ q.1.a = (openA r.a f).2) ∧ OpR r.a f q.2.1 q.2.2}) rfl rfl rfl rfl (congrArg (fun e : Int × Am => Value.tuple #[.pointer none, .slice none 0 0, I e.1]) hop.symm) (fun w hw => ?_)
          exact ((St.emp ((hw.to 2 [0] 4 [0] rfl))).allB_nil).arr0
        · skip
          have h40 := of_decide_eq_false h4
          refine TR.skip ?_
          refine NX.seq ?_
          refine TR.seq ?_
          refine TR.region ?_
          refine RL.move rfl rfl rfl ?_
          refine RL.move rfl rfl rfl ?_
          refine RL.move rfl rfl rfl ?_
          refine RL.lenSlice rfl fa_tl29 rfl rfl ?_
          refine RL.build rfl rfl (fa_bv44_0_1_2 _ _ _) rfl ?_
          refine RL.boxA rfl rfl rfl (fun b5 => ?_)
          refine RL.move rfl rfl rfl ?_
          refine RL.assign rfl rfl rfl ?_
          refine RL.assign rfl rfl rfl ?_
          refine RL.assign rfl rfl rfl ?_
          refine RL.nil ?_
          refine NX.seq ?_
          refine TR.ret ?_
          have hop : openA r.a f = syncA q1.1.a := by rw [openA_on hoff, openT_cut hlt, if_pos h36, q1.2.2]
          have hz : (openA r.a f).1 = 0 := by rw [hop]; exact Decidable.not_not.1 h40
          refine NX.ret3 (⟨(q2.1, some b5, S.1), ⟨q2.2.1, by rw [hop]; exact q2.2.2⟩, OpR.yes hz S.2⟩ : {q : Rf × Option Nat × LsX // (RfOk q.1 ∧ q.1.a = (openA r.a f).2) ∧ OpR r.a f q.2.1 q.2.2}) rfl rfl rfl rfl (congrArg (fun e : Int => Value.tuple #[.pointer (some ⟨b5, 0, none⟩), .slice S.1.oa S.1.ps.length S.1.c, I e]) hz.symm) (fun w hw => ?_)
          exact St.keepSl (hw.to 3 [2, 0, 1] 4 [2, 0] rfl)
      · skip
        have h36 := of_decide_eq_false h3
        refine TR.skip ?_
        refine NX.seq ?_
        refine TR.seq ?_
        refine TR.seq ?_
        refine TR.region ?_
        refine RL.move rfl rfl rfl ?_
        refine RL.bin rfl rfl rfl (BinV.to (d := true) BinV.neq (decide_eq_true h36)) rfl ?_
        refine RL.nil ?_
        refine NX.seq ?_
        refine TR.condT rfl ?_
        refine TR.seq ?_
        refine TR.region ?_
        refine RL.move rfl rfl rfl ?_
        refine RL.assign rfl rfl rfl ?_
        refine RL.assign rfl rfl rfl ?_
        refine RL.assign rfl rfl rfl ?_
        refine RL.nil ?_
        refine NX.seq ?_
        refine TR.ret ?_
        refine NX.retThen ?_
        have hop : openA r.a f = truncA r.a f (scanN (r.a.B f)) := by rw [openA_on hoff, openT_cut hlt, if_neg h36]
        refine NX.ret3 (⟨(q1.1, none, ⟨[], none, 0⟩), ⟨q1.2.1, by rw [hop]; exact q1.2.2⟩, OpR.no (by rw [hop]; exact h36)⟩ : {q : Rf × Option Nat × LsX // (RfOk q.1 ∧ q.1.a = (openA r.a f).2) ∧ OpR r.a f q.2.1 q.2.2}) rfl rfl rfl rfl (congrArg (fun e : Int × Am => Value.tuple #[.pointer none, .slice none 0 0, I e.1]) hop.symm) (fun w hw => ?_)
        exact ((St.emp ((hw.to 2 [0] 3 [0] rfl))).allB_nil).arr0
    · skip
      have hlt : ¬ (scanN (r.a.B f)) < (r.a.B f).length := by have := of_decide_eq_false h2; exact fun e => this (Int.ofNat_lt.2 e)
      refine TR.skip ?_
      refine NX.seq ?_
      refine TR.seq ?_
      refine TR.seq ?_
      refine TR.region ?_
      refine RL.move rfl rfl rfl ?_
      refine RL.bin rfl rfl rfl (BinV.to (d := true) BinV.eql (decide_eq_true rfl)) rfl ?_
      refine RL.nil ?_
      refine NX.seq ?_
      refine TR.condT rfl ?_
      refine TR.region ?_
      refine RL.move rfl rfl rfl ?_
      refine RL.call rfl rfl Tryz.call28 rfl (Ctr.pick 2 [1, 0] rfl (r_sync hr (.tail _ (.tail _ hB)))) (fun q2 => ?_)
      refine RL.assign rfl rfl rfl ?_
      refine RL.nil ?_
      refine NX.seq ?_
      refine TR.seq ?_
      refine TR.seq ?_
      refine TR.region ?_
      refine RL.move rfl rfl rfl ?_
      refine RL.bin rfl rfl rfl BinV.neq rfl ?_
      refine RL.nil ?_
      refine NX.seq ?_
      refine TR.cond rfl (fun h6 => ?_) (fun h6 => ?_)
      · skip
        have h40 := of_decide_eq_true h6
        refine TR.seq ?_
        refine TR.region ?_
        refine RL.move rfl rfl rfl ?_
        refine RL.assign rfl rfl rfl ?_
        refine RL.assign rfl rfl rfl ?_
        refine RL.assign rfl rfl rfl ?_
        refine RL.nil ?_
        refine NX.seq ?_
        refine TR.ret ?_
        refine NX.retThen ?_
        have hop : openA r.a f = syncA r.a := by rw [openA_on hoff, openT_all hlt]; rfl
        refine NX.ret3 (⟨(q2.1, none, ⟨[], none, 0⟩), ⟨q2.2.1, by rw [hop]; exact q2.2.2⟩, OpR.no (by rw [hop]; exact h40)⟩ : {q : Rf × Option Nat × LsX // (RfOk q.1 ∧ q.1.a = (openA r.a f).2) ∧ OpR r.a f q.2.1 q.2.2}) rfl rfl rfl rfl (congrArg (fun e : Int × Am => Value.tuple #[.pointer none, .slice none 0 0, I e.1]) hop.symm) (fun w hw => ?_)
        exact ((St.emp ((hw.to 2 [0] 3 [0] rfl))).allB_nil).arr0
      · skip
        have h40 := of_decide_eq_false h6
        refine TR.skip ?_
        refine NX.seq ?_
        refine TR.seq ?_
        refine TR.region ?_
        refine RL.move rfl rfl rfl ?_
        refine RL.move rfl rfl rfl ?_
        refine RL.move rfl rfl rfl ?_
        refine RL.lenSlice rfl fa_tl29 rfl rfl ?_
        refine RL.build rfl rfl (fa_bv44_0_1_2 _ _ _) rfl ?_
        refine RL.boxA rfl rfl rfl (fun b7 => ?_)
        refine RL.move rfl rfl rfl ?_
        refine RL.assign rfl rfl rfl ?_
        refine RL.assign rfl rfl rfl ?_
        refine RL.assign rfl rfl rfl ?_
        refine RL.nil ?_
        refine NX.seq ?_
        refine TR.ret ?_
        have hop : openA r.a f = syncA r.a := by rw [openA_on hoff, openT_all hlt]; rfl
        have hz : (openA r.a f).1 = 0 := by rw [hop]; exact Decidable.not_not.1 h40
        refine NX.ret3 (⟨(q2.1, some b7, S.1), ⟨q2.2.1, by rw [hop]; exact q2.2.2⟩, OpR.yes hz S.2⟩ : {q : Rf × Option Nat × LsX // (RfOk q.1 ∧ q.1.a = (openA r.a f).2) ∧ OpR r.a f q.2.1 q.2.2}) rfl rfl rfl rfl (congrArg (fun e : Int => Value.tuple #[.pointer (some ⟨b7, 0, none⟩), .slice S.1.oa S.1.ps.length S.1.c, I e]) hz.symm) (fun w hw => ?_)
        exact St.keepSl (hw.to 3 [2, 0, 1] 3 [1, 0] rfl)

theorem p_lapp {l : Nat} {g : Lg} {x : List UInt8} {ob : Option Addr} {cb : Nat} {b : Nat} {s : Ds} {a : Am} {M : List HP} {F : List Fact} (h : RelP s a) (hA : AllF s.fs ∈ F) (hx : ArrF ob (bytesV x) ∈ F) (hxl : x.length ≤ 17592186044416) (hgf : I64 g.f) (hgn : g.n ≤ 4611686018427387904) :
    Ctr Tryz.prog 15 [.pointer (some ⟨l, 0, none⟩), .slice ob x.length cb] (Box l 59 (lgC b g) :: DkB 62 b (s) :: M) F {q : Ds // RelP q (lapA a g x).2} (fun _ => I (lapA a g x).1) (fun q => Box l 59 (lgC b (lapG a g x)) :: DkB 62 b q.1 :: M) (fun q => AllF q.1.fs :: F) := by
  have h0 := Ctr.dk (ι := {z : RdX // ((fget s.fs g.f).b ++ lgFr g x).length ≤ z.c}) (M := M) [Box l 59 (lgC b g)] (fun z => [Box l 59 (lgC b (lgG s g x z.1))]) (fun z => lgS s g x z.1) (lapp_spec (l := l) (b := b) (cb := cb) (g := g) (s := s) (x := x) h.ok hA hx h.rm.used h.rm.room hgf ⟨by have := h.lft.lo; omega, by have := h.lft.hi; omega⟩ hgn hxl)
  exact h0.weak (fun w hw => hw) (fun z => ⟨lgS s g x z.1, (h.log z.2).2.1⟩) (fun z => by show I (lgE s g x z.1) = _; rw [(h.log z.2).1]) (fun z w hw => by
    show St w (Box l 59 (lgC b (lapG a g x)) :: DkB 62 b (lgS s g x z.1) :: M) (AllF (lgS s g x z.1).fs :: F)
    rw [← (h.log z.2).2.2]; exact hw)

set_option maxHeartbeats 1000000 in
theorem r_lapp {l : Nat} {g : Lg} {x : List UInt8} {ob : Option Addr} {cb : Nat} {c : Nat} {r : Rf} {M : List HP} {F : List Fact} (hr : RfOk r) (hB : AllB (rowsF r.a.B r.x) ∈ F) (hx : ArrF ob (bytesV x) ∈ F) (hxl : x.length ≤ 17592186044416) (hgn : g.n ≤ 4611686018427387904) : Ctr Tryz.prog 16 [.pointer (some ⟨l, 0, none⟩), .slice ob x.length cb] (Box l 44 (lgC c g) :: RfB 50 39 3 c (r) :: M) F {q : Rf // RfOk q ∧ q.a = (lapA r.a g x).2} (fun _ => I (lapA r.a g x).1) (fun q => Box l 44 (lgC c (lapG r.a g x)) :: RfB 50 39 3 c (q.1) :: M) (fun q => AllB (rowsF q.1.a.B q.1.x) :: F) := by
  refine Ctr.body Tryz.func16 rfl rfl ?_
  refine TR.seq ?_
  refine TR.region ?_
  refine RL.assign rfl rfl rfl ?_
  refine RL.nil ?_
  refine NX.seq ?_
  refine TR.seq ?_
  refine TR.seq ?_
  refine TR.region ?_
  refine RL.move rfl rfl rfl ?_
  refine RL.lenSlice rfl fa_tl39 rfl rfl ?_
  refine RL.bin rfl rfl rfl BinV.gtr rfl ?_
  refine RL.nil ?_
  refine NX.seq ?_
  refine TR.cond rfl (fun h1 => ?_) (fun h1 => ?_)
  · skip
    have hfar : (65536 : Int) < x.length := of_decide_eq_true h1
    refine TR.seq ?_
    refine TR.region ?_
    refine RL.assign rfl rfl rfl ?_
    refine RL.nil ?_
    refine NX.seq ?_
    refine TR.ret ?_
    refine NX.retThen ?_
    have hop : lapA r.a g x = (4, r.a) := by unfold lapA; rw [if_pos hfar]
    have hgq : lapG r.a g x = g := by unfold lapG; rw [if_pos hfar]
    refine NX.ret1 (⟨r, hr, by rw [hop]⟩ : {q : Rf // RfOk q ∧ q.a = (lapA r.a g x).2}) rfl rfl (by rw [hop]) (fun w hw => ?_)
    rw [hgq]
    exact ((hw.to 2 [0, 1] 0 [] rfl) : St w (Box l 44 (lgC c g) :: RfB 50 39 3 c (r) :: M) _).derive (ψ := AllB (rowsF r.a.B r.x)) (fun K hf => hf _ hB)
  · skip
    have hfar : ¬ (65536 : Int) < x.length := of_decide_eq_false h1
    refine TR.skip ?_
    refine NX.seq ?_
    refine TR.seq ?_
    refine TR.seq ?_
    refine TR.region ?_
    refine RL.move rfl rfl rfl ?_
    refine RL.nilCheck rfl rfl rfl ?_
    refine RL.fieldAddr rfl fa_tf44_3 rfl rfl ?_
    refine RL.load1 0 rfl fa_ts4 rfl rfl rfl rfl ?_
    refine RL.nil ?_
    refine NX.seq ?_
    refine TR.cond rfl (fun h2 => ?_) (fun h2 => ?_)
    · skip
      have hdn : g.dn = true := h2
      refine TR.seq ?_
      refine TR.region ?_
      refine RL.assign rfl rfl rfl ?_
      refine RL.nil ?_
      refine NX.seq ?_
      refine TR.ret ?_
      refine NX.retThen ?_
      have hop : lapA r.a g x = (22, r.a) := by unfold lapA; rw [if_neg hfar, if_pos hdn]
      have hgq : lapG r.a g x = lgN g 22 := by unfold lapG; rw [if_neg hfar, hop]
      have hg2 : lgC c (lgN g 22) = lgC c g := by unfold lgN lgC; simp [hdn]
      refine NX.ret1 (⟨r, hr, by rw [hop]⟩ : {q : Rf // RfOk q ∧ q.a = (lapA r.a g x).2}) rfl rfl (by rw [hop]) (fun w hw => ?_)
      rw [hgq, hg2]
      exact ((hw.to 2 [0, 1] 0 [] rfl) : St w (Box l 44 (lgC c g) :: RfB 50 39 3 c (r) :: M) _).derive (ψ := AllB (rowsF r.a.B r.x)) (fun K hf => hf _ hB)
    · skip
      have hdn : g.dn = false := h2
      have hfl := (frameJ_len (i := (g.n : Int)) (x := x) (by omega) (by omega) (by omega)).1
      refine TR.skip ?_
      refine NX.seq ?_
      refine TR.seq ?_
      refine TR.sub (E' := [(0, _), (1, _), (4, _)]) ⟨rfl, rfl, rfl, trivial⟩ ?_
      refine TR.draw mixed ?_
      apply AR.more [(0, _), (1, _), (2, _), (3, _), (4, _), (5, _), (6, _), (7, _), (8, _), (9, _), (10, _), (11, _), (12, _)]
      refine AR.eff [0, 1, 2, 3, 4, 5, 6, 7, 8, 9, 10, 11, 12] 13 [0, 1, 2, 3, 4, 5, 6, 7, 8, 9, 10, 11, 12, 13, 14, 15] ⟨QOne.yes rfl rfl rfl (PV.move rfl), QOne.yes rfl rfl rfl (PV.nilCheck rfl), QOne.yes rfl rfl rfl (PV.fieldAddr fa_tf44_0 rfl), QOne.yes rfl rfl rfl (PV.load1 0 fa_ts26 rfl rfl rfl), QOne.yes rfl rfl rfl (PV.move rfl), QOne.yes rfl rfl rfl (PV.nilCheck rfl), QOne.yes rfl rfl rfl (PV.fieldAddr fa_tf44_1 rfl), QOne.yes rfl rfl rfl (PV.load1 0 fa_ts3 rfl rfl rfl), QOne.yes rfl rfl rfl (PV.move rfl), QOne.yes rfl rfl rfl (PV.nilCheck rfl), QOne.yes rfl rfl rfl (PV.fieldAddr fa_tf44_2 rfl), QOne.yes rfl rfl rfl (PV.load1 0 fa_ts3 rfl rfl rfl), QOne.yes rfl rfl rfl (PV.move rfl), trivial⟩ rfl rfl rfl rfl rfl rfl rfl (EV.call rfl Tryz.call38 (rFrame_spec (i := (g.n : Int)) (x := x) hx (by omega) (by omega) (by omega))) (fun fr => ?_)
      refine AR.weak (fun w hw => hw.keepSl) ?_
      refine AR.done [11, 12, 10, 9, 8] rfl ?_
      refine AR.eff [0, 1, 2, 3, 4, 5, 6, 7] 14 [0, 1, 2, 3, 4, 5, 6, 7, 8, 9, 10, 11, 12, 13, 14, 15] ⟨QOne.yes rfl rfl rfl (PV.move rfl), QOne.yes rfl rfl rfl (PV.nilCheck rfl), QOne.yes rfl rfl rfl (PV.fieldAddr fa_tf44_0 rfl), QOne.yes rfl rfl rfl (PV.load1 0 fa_ts26 rfl rfl rfl), QOne.yes rfl rfl rfl (PV.move rfl), QOne.yes rfl rfl rfl (PV.nilCheck rfl), QOne.yes rfl rfl rfl (PV.fieldAddr fa_tf44_1 rfl), QOne.yes rfl rfl rfl (PV.load1 0 fa_ts3 rfl rfl rfl), trivial⟩ rfl rfl rfl rfl rfl rfl rfl (EV.call rfl Tryz.call37 (Ctr.pick 2 [1, 0] rfl (r_append (n := g.f) (x := (frameJ (g.n : Int) x)) hr (.tail _ hB) (.head _) (by omega)))) (fun q1 => ?_)
      refine AR.done [3, 7, 6, 2, 1, 5, 4, 0] rfl ?_
      apply AR.more [(15, _)]
      refine AR.last [15] [0, 1, 2, 3, 4, 5, 6, 7, 8, 9, 10, 11, 12, 13, 14, 15] ⟨QOne.yes rfl rfl rfl (PV.assign rfl), trivial⟩ rfl rfl rfl ?_
      refine NX.sub (E' := [(0, _), (4, _), (5, _)]) ⟨rfl, rfl, rfl, trivial⟩ ?_
      refine NX.seq ?_
      refine TR.seq ?_
      refine TR.seq ?_
      refine TR.region ?_
      refine RL.move rfl rfl rfl ?_
      refine RL.bin rfl rfl rfl BinV.eql rfl ?_
      refine RL.nil ?_
      refine NX.seq ?_
      refine TR.cond rfl (fun h3 => ?_) (fun h3 => ?_)
      · skip
        have h29 := of_decide_eq_true h3
        refine TR.region ?_
        refine RL.move rfl rfl rfl ?_
        refine RL.nilCheck rfl rfl rfl ?_
        refine RL.fieldAddr rfl fa_tf44_0 rfl rfl ?_
        refine RL.load1 1 rfl fa_ts26 rfl rfl rfl rfl ?_
        refine RL.call rfl rfl Tryz.call28 rfl (r_sync q1.2.1 (.head _)) (fun q2 => ?_)
        refine RL.assign rfl rfl rfl ?_
        refine RL.nil ?_
        refine NX.seq ?_
        refine TR.seq ?_
        refine TR.region ?_
        refine RL.move rfl rfl rfl ?_
        refine RL.move rfl rfl rfl ?_
        refine RL.bin rfl rfl rfl BinV.eql rfl ?_
        refine RL.nilCheck rfl rfl rfl ?_
        refine RL.fieldAddr rfl fa_tf44_3 rfl rfl ?_
        refine RL.store1 1 rfl fa_ts4 rfl rfl rfl rfl rfl ?_
        refine RL.nil ?_
        refine NX.seq ?_
        refine TR.seq ?_
        refine TR.seq ?_
        refine TR.region ?_
        refine RL.move rfl rfl rfl ?_
        refine RL.bin rfl rfl rfl BinV.eql rfl ?_
        refine RL.nil ?_
        refine NX.seq ?_
        refine TR.cond rfl (fun h4 => ?_) (fun h4 => ?_)
        · skip
          have h41 := of_decide_eq_true h4
          refine TR.region ?_
          refine RL.move rfl rfl rfl ?_
          refine RL.move rfl rfl rfl ?_
          refine RL.nilCheck rfl rfl rfl ?_
          refine RL.fieldAddr rfl fa_tf44_2 rfl rfl ?_
          refine RL.load1 1 rfl fa_ts3 rfl rfl rfl rfl ?_
          refine RL.bin rfl rfl rfl (BinV.add ((g.n + 1 : Nat) : Int) (by omega) (by omega) (by omega)) rfl ?_
          refine RL.nilCheck rfl rfl rfl ?_
          refine RL.fieldAddr rfl fa_tf44_2 rfl rfl ?_
          refine RL.store1 1 rfl fa_ts3 rfl rfl rfl rfl rfl ?_
          refine RL.nil ?_
          refine NX.seq ?_
          refine TR.seq ?_
          refine TR.region ?_
          refine RL.move rfl rfl rfl ?_
          refine RL.assign rfl rfl rfl ?_
          refine RL.nil ?_
          refine NX.seq ?_
          refine TR.ret ?_
          have hop : lapA r.a g x = syncA q1.1.a := by unfold lapA; rw [if_neg hfar, if_neg (by rw [hdn]; simp), if_pos h29, q1.2.2]
          have hgq : lapG r.a g x = lgN g (syncA q1.1.a).1 := by unfold lapG; rw [if_neg hfar, hop]
          refine NX.ret1 (⟨q2.1, q2.2.1, by rw [hop]; exact q2.2.2⟩ : {q : Rf // RfOk q ∧ q.a = (lapA r.a g x).2}) rfl rfl (by rw [hop]) (fun w hw => ?_)
          rw [hgq]
          have hln : lgC c (lgN g (syncA q1.1.a).1) = [.pointer (some ⟨c, 0, none⟩), I g.f, I ((g.n + 1 : Nat) : Int), .bool (decide ((syncA q1.1.a).1 = 22))] := by unfold lgN lgC; rw [if_pos h41]
          rw [hln]
          exact (hw.to 2 [1, 0] 3 [0] rfl)
        · skip
          have h41 := of_decide_eq_false h4
          refine TR.skip ?_
          refine NX.seq ?_
          refine TR.seq ?_
          refine TR.region ?_
          refine RL.move rfl rfl rfl ?_
          refine RL.assign rfl rfl rfl ?_
          refine RL.nil ?_
          refine NX.seq ?_
          refine TR.ret ?_
          have hop : lapA r.a g x = syncA q1.1.a := by unfold lapA; rw [if_neg hfar, if_neg (by rw [hdn]; simp), if_pos h29, q1.2.2]
          have hgq : lapG r.a g x = lgN g (syncA q1.1.a).1 := by unfold lapG; rw [if_neg hfar, hop]
          refine NX.ret1 (⟨q2.1, q2.2.1, by rw [hop]; exact q2.2.2⟩ : {q : Rf // RfOk q ∧ q.a = (lapA r.a g x).2}) rfl rfl (by rw [hop]) (fun w hw => ?_)
          rw [hgq]
          have hln : lgC c (lgN g (syncA q1.1.a).1) = [.pointer (some ⟨c, 0, none⟩), I g.f, I ((g.n : Nat) : Int), .bool (decide ((syncA q1.1.a).1 = 22))] := by unfold lgN lgC; rw [if_neg h41]
          rw [hln]
          exact (hw.to 2 [1, 0] 3 [0] rfl)
      · skip
        have h29 := of_decide_eq_false h3
        refine TR.skip ?_
        refine NX.seq ?_
        refine TR.seq ?_
        refine TR.region ?_
        refine RL.move rfl rfl rfl ?_
        refine RL.move rfl rfl rfl ?_
        refine RL.bin rfl rfl rfl BinV.eql rfl ?_
        refine RL.nilCheck rfl rfl rfl ?_
        refine RL.fieldAddr rfl fa_tf44_3 rfl rfl ?_
        refine RL.store1 1 rfl fa_ts4 rfl rfl rfl rfl rfl ?_
        refine RL.nil ?_
        refine NX.seq ?_
        refine TR.seq ?_
        refine TR.seq ?_
        refine TR.region ?_
        refine RL.move rfl rfl rfl ?_
        refine RL.bin rfl rfl rfl (BinV.to (d := false) BinV.eql (decide_eq_false h29)) rfl ?_
        refine RL.nil ?_
        refine NX.seq ?_
        refine TR.condF rfl ?_
        refine TR.skip ?_
        refine NX.seq ?_
        refine TR.seq ?_
        refine TR.region ?_
        refine RL.move rfl rfl rfl ?_
        refine RL.assign rfl rfl rfl ?_
        refine RL.nil ?_
        refine NX.seq ?_
        refine TR.ret ?_
        have hop : lapA r.a g x = appA r.a g.f (frameJ (g.n : Int) x) := by unfold lapA; rw [if_neg hfar, if_neg (by rw [hdn]; simp), if_neg h29]
        have hgq : lapG r.a g x = lgN g (appA r.a g.f (frameJ (g.n : Int) x)).1 := by unfold lapG; rw [if_neg hfar, hop]
        refine NX.ret1 (⟨q1.1, q1.2.1, by rw [hop]; exact q1.2.2⟩ : {q : Rf // RfOk q ∧ q.a = (lapA r.a g x).2}) rfl rfl (by rw [hop]) (fun w hw => ?_)
        rw [hgq]
        have hln : lgC c (lgN g (appA r.a g.f (frameJ (g.n : Int) x)).1) = [.pointer (some ⟨c, 0, none⟩), I g.f, I ((g.n : Nat) : Int), .bool (decide ((appA r.a g.f (frameJ (g.n : Int) x)).1 = 22))] := by unfold lgN lgC; rw [if_neg h29]
        rw [hln]
        exact (hw.to 2 [1, 0] 2 [0] rfl)

end Go.Proofs.YtdlpaojkkekdlaaGreat

namespace Go.Proofs.YtdlpaojkkekdlaaGreat
open Go.GL
set_option linter.unusedVariables false
theorem fb_bs29_1_0 (x0 : Option Addr) (x0n x0c : Nat) : BuildSV Tryz.prog 29 39 1 [(0, .slice x0 x0n x0c)] [.slice x0 x0n x0c] := fun w => by kernel_rfl
theorem fb_bs39_1_0 (x0 : Int) : BuildSV Tryz.prog 39 5 1 [(0, .int .u8 x0)] [.int .u8 x0] := fun w => by kernel_rfl
theorem fb_ni29 : noInt Tryz.prog 29 = true := by kernel_rfl
theorem fb_ni39 : noInt Tryz.prog 39 = true := by kernel_rfl
theorem fb_te39 : tyElem Tryz.prog 39 1 24 = true := by kernel_rfl
theorem fb_te5 : tyElem Tryz.prog 5 1 1 = true := by kernel_rfl
theorem fb_ti3 : tyInt Tryz.prog 3 .i64 = true := by kernel_rfl
theorem fb_ti5 : tyInt Tryz.prog 5 .u8 = true := by kernel_rfl
theorem fb_tl22 : tySlice Tryz.prog 22 3 = true := by kernel_rfl
theorem fb_tl29 : tySlice Tryz.prog 29 39 = true := by kernel_rfl
theorem fb_tl39 : tySlice Tryz.prog 39 5 = true := by kernel_rfl
theorem fb_ts3 : tyScalar Tryz.prog 3 = true := by kernel_rfl
theorem fb_tz3 : tySize Tryz.prog 3 1 = true := by kernel_rfl
theorem records_one {xs : List Int} {oa : Option Addr} {c : Nat} {M : List HP} {F : List Fact} (ha : ArrF oa (ints xs) ∈ F) (hxs : IntsOk xs) : Ctr Tryz.prog 14 [.slice oa xs.length c] M F {z : LsX // (0 < xs.length → 0 < z.ps.length) ∧ ∀ p, p ∈ z.ps → p.1.length ≤ 11 ∧ p.1.length ≤ p.2.c} (fun z => .slice z.1.oa z.1.ps.length z.1.c) (fun z => OwnSl 39 1 z.1.oa z.1.ps.length z.1.c (listV z.1.ps) :: M) (fun z => AllB z.1.ps :: F) := by
  refine Ctr.body Tryz.func14 rfl rfl ?_
  refine TR.seq ?_
  refine TR.region ?_
  refine RL.assign rfl rfl rfl ?_
  refine RL.nil ?_
  refine NX.seq ?_
  refine TR.seq ?_
  refine TR.region ?_
  refine RL.assign rfl rfl rfl ?_
  refine RL.weak (fun w hw => OwnSl.nil_new 39 1 hw) ?_
  refine RL.nil ?_
  refine NX.seq ?_
  refine TR.seq ?_
  refine TR.seq ?_
  refine TR.region ?_
  refine RL.assign rfl rfl rfl ?_
  refine RL.nil ?_
  refine NX.seq ?_
  refine TR.block ?_
  refine TR.loopP (ι := ReX) (fun x => x.ps.length ≤ 6 ∧ ∀ p, p ∈ x.ps → p.1.length ≤ 11 ∧ p.1.length ≤ p.2.c) (fun x => [(0, .slice oa xs.length c), (3, .slice x.oa x.ps.length x.c), (4, I x.ps.length)]) (fun x => OwnSl 39 1 x.oa x.ps.length x.c (listV x.ps) :: M) (fun x => AllB x.ps :: F) (fun x => 6 - x.ps.length) ⟨[], none, 0⟩ ⟨Nat.zero_le _, fun p hp => absurd hp (by simp)⟩ ⟨rfl, rfl, rfl, trivial⟩ (fun w hw => hw.allB_nil) (fun x hx => ?_)
  refine TR.seq ?_
  refine TR.seq ?_
  refine TR.region ?_
  refine RL.move rfl rfl rfl ?_
  refine RL.move rfl rfl rfl ?_
  refine RL.lenSlice rfl fb_tl22 rfl rfl ?_
  refine RL.bin rfl rfl rfl BinV.lss rfl ?_
  refine RL.move rfl rfl rfl ?_
  refine RL.part (fun h1 => ?_) (fun h1 => ?_)
  · skip
    have hk0 := of_decide_eq_true h1
    refine RL.move rfl rfl rfl ?_
    refine RL.bin rfl rfl rfl BinV.lss rfl ?_
    refine RL.pickT rfl rfl rfl rfl ?_
    refine RL.nil ?_
    refine NX.seq ?_
    refine TR.cond rfl (fun h2 => ?_) (fun h2 => ?_)
    · skip
      have hk6 := of_decide_eq_true h2
      have hk1 : x.ps.length < xs.length := by omega
      have hr := hxs.2 _ (List.getElem_mem hk1)
      refine TR.openP (open_arr (oa := oa) (xs := ints xs) (.tail _ ha) (ints_ne (by omega))) (fun pq hpa => ?_)
      refine TR.skip ?_
      refine NX.seq ?_
      refine TR.seq ?_
      refine TR.block ?_
      refine TR.seq ?_
      refine TR.region ?_
      refine RL.move rfl rfl rfl ?_
      refine RL.move rfl rfl rfl ?_
      refine RL.indexAddr rfl fb_tl22 fb_tz3 (congrArg (fun a => some (Value.slice a _ _)) hpa) rfl (by omega) (by omega) rfl ?_
      refine RL.loadF rfl rfl (fun w K hF => run_loadCell1 (j := (x.ps.length : Int).toNat * 1) (v := I xs[x.ps.length]) (hF _ (.head _)) fb_ts3 (by simp [hk1])) rfl ?_
      refine RL.call rfl rfl Tryz.call4 rfl (around_spec (by omega) hr.1 hr.2) (fun n => ?_)
      refine RL.assign rfl rfl rfl ?_
      refine RL.nil ?_
      refine NX.seq ?_
      refine TR.seq ?_
      refine TR.region ?_
      have hn := n.2
      refine RL.assign rfl rfl rfl ?_
      refine RL.weak (fun w hw => OwnSl.nil_new 5 1 hw) ?_
      refine RL.nil ?_
      refine NX.seq ?_
      refine TR.seq ?_
      refine TR.seq ?_
      refine TR.region ?_
      refine RL.assign rfl rfl rfl ?_
      refine RL.nil ?_
      refine NX.seq ?_
      refine TR.block ?_
      refine TR.loopP (ι := RbX) (fun z => z.l.length ≤ 11 ∧ True) (fun z => [(0, .slice oa xs.length c), (3, .slice x.oa x.ps.length x.c), (4, I x.ps.length), (5, I n.1), (6, .slice z.oa z.l.length z.c), (7, I z.l.length)]) (fun z => OwnSl 5 1 z.oa z.l.length z.c (bytesV z.l) :: OwnSl 39 1 x.oa x.ps.length x.c (listV x.ps) :: M) (fun _ => CellsF pq.1 pq.2 (ints xs) :: AllB x.ps :: F) (fun z => 11 - z.l.length) ⟨[], none, 0⟩ ⟨Nat.zero_le _, trivial⟩ ⟨rfl, rfl, rfl, rfl, rfl, rfl, trivial⟩ (fun w hw => hw) (fun z hz => ?_)
      refine TR.seq ?_
      refine TR.seq ?_
      refine TR.region ?_
      refine RL.move rfl rfl rfl ?_
      refine RL.move rfl rfl rfl ?_
      refine RL.bin rfl rfl rfl (BinV.rem (by omega)) rfl ?_
      refine RL.bin rfl rfl rfl BinV.lss rfl ?_
      refine RL.nil ?_
      refine NX.seq ?_
      refine TR.cond rfl (fun h3 => ?_) (fun h3 => ?_)
      · skip
        have hj := of_decide_eq_true h3
        have hj2 : (n.1.tmod 11) < 11 := Int.tmod_lt_of_pos _ (by omega)
        have hj3 : (z.l.length : Int) ≤ 10 := by omega
        have hm1 : 0 ≤ (z.l.length : Int) * n.1 := Int.mul_nonneg (by omega) hn.1
        have hm2 : (z.l.length : Int) * n.1 ≤ 10 * 1000 := Int.mul_le_mul hj3 (by omega) hn.1 (by omega)
        refine TR.skip ?_
        refine NX.seq ?_
        refine TR.seq ?_
        refine TR.block ?_
        refine TR.region ?_
        refine RL.move rfl rfl rfl ?_
        refine RL.move rfl rfl rfl ?_
        refine RL.bin rfl rfl rfl (BinV.quo (by omega) (n.1 / 11) (Int.tdiv_eq_ediv_of_nonneg hn.1) (by omega) (by omega)) rfl ?_
        refine RL.move rfl rfl rfl ?_
        refine RL.move rfl rfl rfl ?_
        refine RL.bin rfl rfl rfl (BinV.mul _ rfl (by omega) (by omega)) rfl ?_
        refine RL.bin rfl rfl rfl (BinV.add _ rfl (by omega) (by omega)) rfl ?_
        refine RL.conv rfl rfl (ConvV.int fb_ti3 fb_ti5) rfl ?_
        refine RL.buildSlice rfl rfl (fb_bs39_1_0 _) rfl (fun b4 => ?_)
        refine RL.ofGV rfl rfl (GV.append (j := 1) fb_tl39 fb_ni39 fb_te5 rfl rfl rfl (src_box (i := 0) rfl rfl rfl) (by omega) (by omega)) (fun y => ?_)
        refine RL.assign rfl rfl rfl ?_
        refine RL.nil ?_
        refine NX.off ?_
        refine NX.seq ?_
        refine TR.region ?_
        refine RL.move rfl rfl rfl ?_
        refine RL.bin rfl rfl rfl (BinV.add _ rfl (by omega) (by omega)) rfl ?_
        refine RL.assign rfl rfl rfl ?_
        refine RL.nil ?_
        refine NX.roundP ⟨z.l ++ [UInt8.ofNat ((n.1 / 11 + (z.l.length : Int) * n.1) % 256).toNat], y.1, y.2⟩ ⟨?_, trivial⟩ ?_ ⟨rfl, rfl, rfl, rfl, ?_, ?_, trivial⟩ (fun w hw => ?_)
        · show (z.l ++ [_]).length ≤ 11; rw [List.length_append]; show z.l.length + 1 ≤ 11; omega
        · show 11 - (z.l ++ [_]).length < 11 - z.l.length; rw [List.length_append]; show 11 - (z.l.length + 1) < _; omega
        · show some (Value.slice y.1 (z.l.length + 1) y.2) = some (Value.slice y.1 (z.l ++ [_]).length y.2); rw [List.length_append]; rfl
        · show some (I ((z.l.length : Int) + 1)) = some (I ((z.l ++ [_]).length : Nat)); rw [List.length_append]; rfl
        · have h9 : St w (OwnSl 5 1 y.1 (z.l.length + 1) y.2 (bytesV z.l ++ [.int .u8 (IntKind.u8.wrap (n.1 / 11 + (z.l.length : Int) * n.1))]) :: OwnSl 39 1 x.oa x.ps.length x.c (listV x.ps) :: M) _ := hw.drop 0 rfl
          rw [u8_wrap, ← bytesV_snoc] at h9
          show St w (OwnSl 5 1 y.1 (z.l ++ [_]).length y.2 _ :: _) _
          rw [List.length_append]
          exact h9
      · skip
        refine TR.exit ?_
        refine NX.exitThen ?_
        refine NX.exitThen ?_
        refine NX.exitHere ?_
        refine NX.seq ?_
        refine TR.region ?_
        refine RL.open1 (fun w hw => ⟨hw.ownLen.2, hw⟩) (fun hzc => ?_)
        refine RL.move rfl rfl rfl ?_
        refine RL.move rfl rfl rfl ?_
        refine RL.weak (fun w hw => hw.keepSl) ?_
        refine RL.buildSlice rfl rfl (fb_bs29_1_0 _ _ _) rfl (fun b6 => ?_)
        refine RL.ofGV rfl rfl (GV.append (j := 1) fb_tl29 fb_ni29 fb_te39 rfl rfl rfl (src_box (i := 0) rfl rfl rfl) (by omega) (by omega)) (fun y => ?_)
        refine RL.assign rfl rfl rfl ?_
        refine RL.nil ?_
        refine NX.off ?_
        refine NX.seq ?_
        refine TR.region ?_
        refine RL.move rfl rfl rfl ?_
        refine RL.bin rfl rfl rfl (BinV.add _ rfl (by omega) (by omega)) rfl ?_
        refine RL.assign rfl rfl rfl ?_
        refine RL.nil ?_
        refine NX.roundP ⟨x.ps ++ [(z.l, ⟨z.oa, z.c⟩)], y.1, y.2⟩ ⟨?_, ?_⟩ ?_ ⟨rfl, ?_, ?_, trivial⟩ (fun w hw => ?_)
        · show (x.ps ++ [(z.l, (⟨z.oa, z.c⟩ : RdX))]).length ≤ 6; rw [List.length_append]; show x.ps.length + 1 ≤ 6; omega
        · intro q hq
          rcases List.mem_append.1 hq with h | h
          · exact hx.2 q h
          · rw [List.mem_singleton.1 h]; exact ⟨hz.1, hzc⟩
        · show 6 - (x.ps ++ [(z.l, (⟨z.oa, z.c⟩ : RdX))]).length < 6 - x.ps.length; rw [List.length_append]; show 6 - (x.ps.length + 1) < _; omega
        · show some (Value.slice y.1 (x.ps.length + 1) y.2) = some (Value.slice y.1 (x.ps ++ [(z.l, (⟨z.oa, z.c⟩ : RdX))]).length y.2); rw [List.length_append]; rfl
        · show some (I ((x.ps.length : Int) + 1)) = some (I ((x.ps ++ [(z.l, (⟨z.oa, z.c⟩ : RdX))]).length : Nat)); rw [List.length_append]; rfl
        · have h9 := (hw.drop 0 rfl).allB_snoc (ps := x.ps) (p := (z.l, ⟨z.oa, z.c⟩)) (.tail _ (.tail _ (.head _))) (.head _)
          show St w (OwnSl 39 1 y.1 (x.ps ++ [(z.l, (⟨z.oa, z.c⟩ : RdX))]).length y.2 (listV (x.ps ++ [(z.l, (⟨z.oa, z.c⟩ : RdX))])) :: M) (AllB (x.ps ++ [(z.l, (⟨z.oa, z.c⟩ : RdX))]) :: F)
          rw [List.length_append, listV_append]
          exact h9.facts (fun φ h => by
            rcases List.mem_cons.1 h with e1 | h
            · subst e1; exact .head _
            · exact .tail _ (.tail _ (.tail _ (.tail _ h))))
    · skip
      have hne : 0 < xs.length → 0 < x.ps.length := fun e => by have := of_decide_eq_false h2; omega
      refine TR.exit ?_
      refine NX.exitThen ?_
      refine NX.exitThen ?_
      refine NX.exitHere ?_
      refine NX.seq ?_
      refine TR.seq ?_
      refine TR.region ?_
      refine RL.move rfl rfl rfl ?_
      refine RL.assign rfl rfl rfl ?_
      refine RL.nil ?_
      refine NX.seq ?_
      refine TR.ret ?_
      exact NX.ret1 (⟨⟨x.ps, x.oa, x.c⟩, hne, hx.2⟩ : {z : LsX // (0 < xs.length → 0 < z.ps.length) ∧ ∀ p, p ∈ z.ps → p.1.length ≤ 11 ∧ p.1.length ≤ p.2.c}) rfl rfl rfl (fun w hw => hw)
  · skip
    have hne : 0 < xs.length → 0 < x.ps.length := fun e => by have := of_decide_eq_false h1; omega
    refine RL.skip rfl rfl rfl ?_
    refine RL.skip rfl rfl rfl ?_
    refine RL.pickF rfl rfl rfl rfl ?_
    refine RL.nil ?_
    refine NX.seq ?_
    refine TR.condF rfl ?_
    refine TR.exit ?_
    refine NX.exitThen ?_
    refine NX.exitThen ?_
    refine NX.exitHere ?_
    refine NX.seq ?_
    refine TR.seq ?_
    refine TR.region ?_
    refine RL.move rfl rfl rfl ?_
    refine RL.assign rfl rfl rfl ?_
    refine RL.nil ?_
    refine NX.seq ?_
    refine TR.ret ?_
    exact NX.ret1 (⟨⟨x.ps, x.oa, x.c⟩, hne, hx.2⟩ : {z : LsX // (0 < xs.length → 0 < z.ps.length) ∧ ∀ p, p ∈ z.ps → p.1.length ≤ 11 ∧ p.1.length ≤ p.2.c}) rfl rfl rfl (fun w hw => hw)

end Go.Proofs.YtdlpaojkkekdlaaGreat
