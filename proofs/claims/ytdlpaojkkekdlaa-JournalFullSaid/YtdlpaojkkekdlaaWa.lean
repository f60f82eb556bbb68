/- Walks of functions of the program. Printed by sx.py. -/
import Derived.Test.YtdlpaojkkekdlaaWir
import Derived.Test.YtdlpaojkkekdlaaChecked
namespace Go.Proofs.Ytdlpaojkkekdlaa
open Go.GL
set_option linter.unusedVariables false
theorem wa_bs23_0_  : BuildSV Try.prog 23 5 0 [] [] := fun w => by kernel_rfl
theorem wa_bs23_1_0 (x0 : Int) : BuildSV Try.prog 23 5 1 [(0, .int .u8 x0)] [.int .u8 x0] := fun w => by kernel_rfl
theorem wa_ni23 : noInt Try.prog 23 = true := by kernel_rfl
theorem wa_ni9 : noInt Try.prog 9 = true := by kernel_rfl
theorem wa_tby23 : tyByte Try.prog 23 = true := by kernel_rfl
theorem wa_te5 : tyElem Try.prog 5 1 1 = true := by kernel_rfl
theorem wa_tf50_0 : fieldOff Try.prog 50 0 0 = true := by kernel_rfl
theorem wa_ti3 : tyInt Try.prog 3 .i64 = true := by kernel_rfl
theorem wa_ti5 : tyInt Try.prog 5 .u8 = true := by kernel_rfl
theorem wa_ti65 : tyInt Try.prog 65 .u64 = true := by kernel_rfl
theorem wa_tl23 : tySlice Try.prog 23 5 = true := by kernel_rfl
theorem wa_ts23 : tyScalar Try.prog 23 = true := by kernel_rfl
theorem wa_tstr9 : tyStr Try.prog 9 = true := by kernel_rfl
theorem mixed : Try.prog.follows .mixedOrders = true := by kernel_rfl

theorem cloneB_spec {l : List UInt8} {oa : Option Addr} {c : Nat} {M : List HP} {F : List Fact} (hR : Rd M F oa (bytesV l)) (hl : l.length ≤ 70368744177664) : Ctr Try.prog 61 [.slice oa l.length c] M F (Option Addr × Nat) (fun z => .slice z.1 l.length z.2) (fun z => OwnSl 5 1 z.1 l.length z.2 (bytesV l) :: M) (fun _ => F) := by
  refine Ctr.body Try.func61 rfl rfl ?_
  refine TR.seq ?_
  refine TR.region ?_
  refine RL.assign rfl rfl rfl ?_
  refine RL.nil ?_
  refine NX.seq ?_
  refine TR.seq ?_
  refine TR.seq ?_
  refine TR.region ?_
  refine RL.move rfl rfl rfl ?_
  refine RL.bin rfl rfl rfl (BinV.eqlNil wa_tl23) rfl ?_
  refine RL.nil ?_
  refine NX.seq ?_
  refine TR.cond rfl (fun h1 => ?_) (fun h1 => ?_)
  · skip
    have h1_ := h1
    refine TR.seq ?_
    refine TR.region ?_
    refine RL.assign rfl rfl rfl ?_
    refine RL.nil ?_
    refine NX.seq ?_
    refine TR.ret ?_
    refine NX.retThen ?_
    refine NX.ret1x rfl rfl (fun w hw => ?_)
    have ho : oa = none := by cases oa with | none => rfl | some a => cases h1_
    subst ho
    have hc : bytesV l = [] := by
      rcases hR w hw with h | ⟨b, off, e, _⟩
      · exact h
      · cases e
    have hl0 : l = [] := by cases l with | nil => rfl | cons x l => simp [bytesV] at hc
    subst hl0
    exact ⟨(none, 0), rfl, OwnSl.nil_new 5 1 hw⟩
  · skip
    refine TR.skip ?_
    refine NX.seq ?_
    refine TR.seq ?_
    refine TR.region ?_
    refine RL.buildSlice rfl rfl (wa_bs23_0_) rfl (fun b2 => ?_)
    refine RL.move rfl rfl rfl ?_
    refine RL.weak (fun w hw => St.boxSl (n := 0) (size := 1) rfl (by decide) hw) ?_
    refine RL.ofGV rfl rfl (GV.append (j := 0) wa_tl23 wa_ni23 wa_te5 rfl rfl rfl (src_rd (hR.mono (fun w hw => hw.tail)) (by rw [bytesV_length, Nat.mul_one]) (bytesV_one l)) (by omega) (by omega)) (fun z => ?_)
    refine RL.assign rfl rfl rfl ?_
    refine RL.nil ?_
    refine NX.seq ?_
    refine TR.ret ?_
    refine NX.ret1x rfl rfl (fun w hw => ⟨(z.1, z.2), ?_, ?_⟩)
    · rw [Nat.zero_add]
    · have h9 : St w (OwnSl 5 1 z.1 (0 + l.length) z.2 ([] ++ bytesV l) :: M) F := hw
      rw [Nat.zero_add] at h9
      exact h9

theorem zigzag_spec {n : Int} {M : List HP} {F : List Fact} (h0 : -9223372036854775808 ≤ n) (h1 : n ≤ 9223372036854775807) : Ctr Try.prog 59 [I n] M F Unit (fun _ => U (zz n)) (fun _ => M) (fun _ => F) := by
  refine Ctr.body Try.func59 rfl rfl ?_
  refine TR.seq ?_
  refine TR.region ?_
  refine RL.assign rfl rfl rfl ?_
  refine RL.nil ?_
  refine NX.seq ?_
  refine TR.seq ?_
  refine TR.region ?_
  refine RL.move rfl rfl rfl ?_
  refine RL.conv rfl rfl (ConvV.iu64 wa_ti3 wa_ti65) rfl ?_
  refine RL.bin rfl rfl rfl (BinV.shlU (s := 1) (by omega)) rfl ?_
  refine RL.move rfl rfl rfl ?_
  refine RL.bin rfl rfl rfl (BinV.shr (k := .i64) (s := 63) (by decide)) rfl ?_
  refine RL.conv rfl rfl (ConvV.iu64 wa_ti3 wa_ti65) rfl ?_
  refine RL.bin rfl rfl rfl (BinV.xorU (Nat.mod_lt _ (by omega)) (u64of_lt _)) rfl ?_
  refine RL.assign rfl rfl rfl ?_
  refine RL.nil ?_
  refine NX.seq ?_
  refine TR.ret ?_
  exact NX.ret1 () rfl rfl (by rw [← zz_bits h0 h1]) (fun w hw => hw)

structure WuX where
  n : Nat
  l : List UInt8
  oa : Option Addr
  oc : Nat

theorem wUint_spec {n b : Nat} {l : List UInt8} {M : List HP} {F : List Fact} (hn : n < 18446744073709551616) (hl : l.length ≤ 70368744177664) : Ctr Try.prog 37 [.pointer (some ⟨b, 0, none⟩), U n] (WrB 50 5 b l :: M) F Unit (fun _ => .tuple #[]) (fun _ => WrB 50 5 b (l ++ encU n) :: M) (fun _ => F) := by
  refine Ctr.body Try.func37 rfl rfl ?_
  refine TR.seq ?_
  refine TR.block ?_
  refine TR.open (fun w hw => St.exOpen hw) (fun i => ?_)
  refine TR.loopP (ι := WuX) (fun x => x.n < 18446744073709551616 ∧ x.l ++ encU x.n = l ++ encU n ∧ True) (fun x => [(0, .pointer (some ⟨b, 0, none⟩)), (1, U x.n)]) (fun x => Box b 50 [.slice x.oa x.l.length x.oc] :: OwnSl 5 1 x.oa x.l.length x.oc (bytesV x.l) :: M) (fun _ => F) (fun x => x.n) ⟨n, l, i.1, i.2⟩ ⟨hn, rfl, trivial⟩ ⟨rfl, rfl, trivial⟩ (fun w hw => hw) (fun x hx => ?_)
  refine TR.seq ?_
  refine TR.seq ?_
  refine TR.region ?_
  refine RL.move rfl rfl rfl ?_
  refine RL.bin rfl rfl rfl BinV.geq rfl ?_
  refine RL.nil ?_
  refine NX.seq ?_
  refine TR.cond rfl (fun h1 => ?_) (fun h1 => ?_)
  · skip
    have hn1 : ¬ x.n < 128 := by have := of_decide_eq_true h1; omega
    have hx2 := hx.2.1
    rw [encU_big hn1] at hx2
    have hlen := congrArg List.length hx.2.1
    simp only [List.length_append] at hlen
    have h10 := encU_len10 hn
    refine TR.skip ?_
    refine NX.seq ?_
    refine TR.seq ?_
    refine TR.block ?_
    refine TR.region ?_
    refine RL.move rfl rfl rfl ?_
    refine RL.move rfl rfl rfl ?_
    refine RL.nilCheck rfl rfl rfl ?_
    refine RL.fieldAddr rfl wa_tf50_0 rfl rfl ?_
    refine RL.load1 0 rfl wa_ts23 rfl rfl rfl rfl ?_
    refine RL.move rfl rfl rfl ?_
    refine RL.conv rfl rfl (ConvV.ub wa_ti65 wa_ti5) rfl ?_
    refine RL.bin rfl rfl rfl (BinV.orB (b := 128) (Nat.mod_lt _ (by omega)) (by omega)) rfl ?_
    refine RL.buildSlice rfl rfl (wa_bs23_1_0 _) rfl (fun b2 => ?_)
    refine RL.ofGV rfl rfl (GV.append (j := 2) wa_tl23 wa_ni23 wa_te5 rfl rfl rfl (src_box (i := 0) rfl rfl rfl) (by omega) (by omega)) (fun y => ?_)
    refine RL.nilCheck rfl rfl rfl ?_
    refine RL.fieldAddr rfl wa_tf50_0 rfl rfl ?_
    refine RL.store1 1 rfl wa_ts23 rfl rfl rfl rfl rfl ?_
    refine RL.nil ?_
    refine NX.off ?_
    refine NX.seq ?_
    refine TR.region ?_
    refine RL.move rfl rfl rfl ?_
    refine RL.bin rfl rfl rfl (BinV.shrU (s := 7) (by omega)) rfl ?_
    refine RL.assign rfl rfl rfl ?_
    refine RL.nil ?_
    refine NX.roundP ⟨x.n / 2 ^ 7, x.l ++ [UInt8.ofNat (128 + x.n % 128)], y.1, y.2⟩ ⟨Nat.lt_of_le_of_lt (Nat.div_le_self _ _) hx.1, ?_, trivial⟩ (by show x.n / 2 ^ 7 < x.n; omega) ⟨rfl, rfl, trivial⟩ (fun w hw => ?_)
    · rw [← hx2, List.append_assoc]; rfl
    · have h9 : St w (Box b 50 [.slice y.1 (x.l.length + 1) y.2] :: OwnSl 5 1 y.1 (x.l.length + 1) y.2 (bytesV x.l ++ [B8 (x.n % 256 ||| 128)]) :: M) F := hw.drop 0 rfl
      rw [more_byte, ← bytesV_snoc] at h9
      show St w (Box b 50 [.slice y.1 (x.l ++ [UInt8.ofNat (128 + x.n % 128)]).length y.2] :: OwnSl 5 1 y.1 (x.l ++ [UInt8.ofNat (128 + x.n % 128)]).length y.2 _ :: M) F
      rw [List.length_append]
      exact h9
  · skip
    have hn1 : x.n < 128 := by have := of_decide_eq_false h1; omega
    have hx2 := hx.2.1
    rw [encU_small hn1] at hx2
    have hlen := congrArg List.length hx.2.1
    simp only [List.length_append] at hlen
    have h10 := encU_len10 hn
    refine TR.exit ?_
    refine NX.exitThen ?_
    refine NX.exitThen ?_
    refine NX.exitHere ?_
    refine NX.seq ?_
    refine TR.region ?_
    refine RL.move rfl rfl rfl ?_
    refine RL.move rfl rfl rfl ?_
    refine RL.nilCheck rfl rfl rfl ?_
    refine RL.fieldAddr rfl wa_tf50_0 rfl rfl ?_
    refine RL.load1 0 rfl wa_ts23 rfl rfl rfl rfl ?_
    refine RL.move rfl rfl rfl ?_
    refine RL.conv rfl rfl (ConvV.ub wa_ti65 wa_ti5) rfl ?_
    refine RL.buildSlice rfl rfl (wa_bs23_1_0 _) rfl (fun b4 => ?_)
    refine RL.ofGV rfl rfl (GV.append (j := 2) wa_tl23 wa_ni23 wa_te5 rfl rfl rfl (src_box (i := 0) rfl rfl rfl) (by omega) (by omega)) (fun y => ?_)
    refine RL.nilCheck rfl rfl rfl ?_
    refine RL.fieldAddr rfl wa_tf50_0 rfl rfl ?_
    refine RL.store1 1 rfl wa_ts23 rfl rfl rfl rfl rfl ?_
    refine RL.nil ?_
    refine NX.end0 () rfl rfl (fun w hw => ?_)
    have h9 : St w (Box b 50 [.slice y.1 (x.l.length + 1) y.2] :: OwnSl 5 1 y.1 (x.l.length + 1) y.2 (bytesV x.l ++ [B8 (x.n % 256)]) :: M) F := hw.drop 0 rfl
    rw [last_byte hn1, ← bytesV_snoc, hx2] at h9
    refine St.wrClose ?_ rfl h9
    rw [← hx2, List.length_append]; rfl

theorem wInt_spec {n : Int} {b : Nat} {l : List UInt8} {M : List HP} {F : List Fact} (h0 : -9223372036854775808 ≤ n) (h1 : n ≤ 9223372036854775807) (hl : l.length ≤ 70368744177664) : Ctr Try.prog 27 [.pointer (some ⟨b, 0, none⟩), I n] (WrB 50 5 b l :: M) F Unit (fun _ => .tuple #[]) (fun _ => WrB 50 5 b (l ++ encU (zz n)) :: M) (fun _ => F) := by
  refine Ctr.body Try.func27 rfl rfl ?_
  refine TR.region ?_
  refine RL.move rfl rfl rfl ?_
  refine RL.move rfl rfl rfl ?_
  refine RL.call rfl rfl Try.call59 rfl (zigzag_spec h0 h1) (fun _ => ?_)
  refine RL.call rfl rfl Try.call37 rfl (wUint_spec (zz_lt h0 h1) hl) (fun _ => ?_)
  refine RL.nil ?_
  exact NX.end0 () rfl rfl (fun w hw => hw)

theorem wText_spec {b : Nat} {l x : List UInt8} {M : List HP} {F : List Fact} (hl : l.length ≤ 35184372088832) (hx : x.length ≤ 35184372088832) : Ctr Try.prog 28 [.pointer (some ⟨b, 0, none⟩), S x] (WrB 50 5 b l :: M) F Unit (fun _ => .tuple #[]) (fun _ => WrB 50 5 b (l ++ encR x) :: M) (fun _ => F) := by
  refine Ctr.body Try.func28 rfl rfl ?_
  refine TR.seq ?_
  refine TR.region ?_
  have h10 := encU_len10 (n := x.length) (by omega)
  refine RL.move rfl rfl rfl ?_
  refine RL.move rfl rfl rfl ?_
  refine RL.lenStr rfl wa_tstr9 rfl rfl ?_
  refine RL.conv rfl rfl (ConvV.iu wa_ti3 wa_ti65 (by omega)) rfl ?_
  refine RL.call rfl rfl Try.call37 rfl (wUint_spec (by omega) (by omega)) (fun _ => ?_)
  refine RL.nil ?_
  refine NX.seq ?_
  refine TR.region ?_
  refine RL.open (fun w hw => St.exOpen hw) (fun i => ?_)
  refine RL.move rfl rfl rfl ?_
  refine RL.move rfl rfl rfl ?_
  refine RL.nilCheck rfl rfl rfl ?_
  refine RL.fieldAddr rfl wa_tf50_0 rfl rfl ?_
  refine RL.load1 0 rfl wa_ts23 rfl rfl rfl rfl ?_
  refine RL.move rfl rfl rfl ?_
  refine RL.ofGV rfl rfl (GV.append (j := 1) wa_tl23 wa_ni9 wa_te5 rfl rfl rfl (src_str x) (by rw [List.length_append]; omega) (by rw [List.length_append]; omega)) (fun y => ?_)
  refine RL.nilCheck rfl rfl rfl ?_
  refine RL.fieldAddr rfl wa_tf50_0 rfl rfl ?_
  refine RL.store1 0 rfl wa_ts23 rfl rfl rfl rfl rfl ?_
  refine RL.nil ?_
  refine NX.end0 () rfl rfl (fun w hw => St.wrClose ?_ ?_ hw)
  · unfold encR; simp only [List.length_append]; omega
  · unfold encR; rw [← List.append_assoc]; simp only [bytesV, List.map_append]

theorem wRaw_spec {b : Nat} {l x : List UInt8} {oa : Option Addr} {c : Nat} {M : List HP} {F : List Fact} (hR : Rd (WrB 50 5 b l :: M) F oa (bytesV x)) (hl : l.length ≤ 35184372088832) (hx : x.length ≤ 35184372088832) : Ctr Try.prog 36 [.pointer (some ⟨b, 0, none⟩), .slice oa x.length c] (WrB 50 5 b l :: M) F Unit (fun _ => .tuple #[]) (fun _ => WrB 50 5 b (l ++ encR x) :: M) (fun _ => F) := by
  refine Ctr.body Try.func36 rfl rfl ?_
  refine TR.region ?_
  refine RL.move rfl rfl rfl ?_
  refine RL.move rfl rfl rfl ?_
  refine RL.convBS rfl wa_tby23 wa_tstr9 rfl rfl hR  rfl ?_
  refine RL.call rfl rfl Try.call28 rfl (wText_spec hl hx) (fun _ => ?_)
  refine RL.nil ?_
  exact NX.end0 () rfl rfl (fun w hw => hw)

theorem wDone_spec {b : Nat} {l : List UInt8} {M : List HP} {F : List Fact} (hl : l.length ≤ 70368744177664) : Ctr Try.prog 30 [.pointer (some ⟨b, 0, none⟩)] (WrB 50 5 b l :: M) F (Option Addr × Nat) (fun z => .slice z.1 l.length z.2) (fun z => OwnSl 5 1 z.1 l.length z.2 (bytesV l) :: WrB 50 5 b l :: M) (fun z => F) := by
  refine Ctr.body Try.func30 rfl rfl ?_
  refine TR.seq ?_
  refine TR.region ?_
  refine RL.assign rfl rfl rfl ?_
  refine RL.nil ?_
  refine NX.seq ?_
  refine TR.seq ?_
  refine TR.region ?_
  refine RL.open (fun w hw => St.exOpen hw) (fun i => ?_)
  refine RL.move rfl rfl rfl ?_
  refine RL.nilCheck rfl rfl rfl ?_
  refine RL.fieldAddr rfl wa_tf50_0 rfl rfl ?_
  refine RL.load1 0 rfl wa_ts23 rfl rfl rfl rfl ?_
  refine RL.call rfl rfl Try.call61 rfl (cloneB_spec (rd_own (i := 1) rfl) hl) (fun z => ?_)
  refine RL.assign rfl rfl rfl ?_
  refine RL.nil ?_
  refine NX.seq ?_
  refine TR.ret ?_
  refine NX.ret1x rfl rfl (fun w hw => ⟨z, rfl, ?_⟩)
  exact (St.wrClose rfl rfl (hw.perm (List.perm_middle (l₁ := [_, _])).symm)).swap

end Go.Proofs.Ytdlpaojkkekdlaa
