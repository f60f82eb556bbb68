/- Walks of functions of the program. Printed by sx.py. -/
import Derived.Test.YtdlpaojkkekdlaaWf
namespace Go.Proofs.Ytdlpaojkkekdlaa
open Go.GL
set_option linter.unusedVariables false
theorem wg_bs22_1_0 (x0 : Int) : BuildSV Try.prog 22 3 1 [(0, .int .i64 x0)] [.int .i64 x0] := fun w => by kernel_rfl
theorem wg_bs23_1_0 (x0 : Int) : BuildSV Try.prog 23 5 1 [(0, .int .u8 x0)] [.int .u8 x0] := fun w => by kernel_rfl
theorem wg_ni22 : noInt Try.prog 22 = true := by kernel_rfl
theorem wg_ni23 : noInt Try.prog 23 = true := by kernel_rfl
theorem wg_tby23 : tyByte Try.prog 23 = true := by kernel_rfl
theorem wg_te3 : tyElem Try.prog 3 1 8 = true := by kernel_rfl
theorem wg_te5 : tyElem Try.prog 5 1 1 = true := by kernel_rfl
theorem wg_ti3 : tyInt Try.prog 3 .i64 = true := by kernel_rfl
theorem wg_ti5 : tyInt Try.prog 5 .u8 = true := by kernel_rfl
theorem wg_ti65 : tyInt Try.prog 65 .u64 = true := by kernel_rfl
theorem wg_tl116 : tySlice Try.prog 116 65 = true := by kernel_rfl
theorem wg_tl22 : tySlice Try.prog 22 3 = true := by kernel_rfl
theorem wg_tl23 : tySlice Try.prog 23 5 = true := by kernel_rfl
theorem wg_ts3 : tyScalar Try.prog 3 = true := by kernel_rfl
theorem wg_ts65 : tyScalar Try.prog 65 = true := by kernel_rfl
theorem wg_tstr9 : tyStr Try.prog 9 = true := by kernel_rfl
theorem wg_tz3 : tySize Try.prog 3 1 = true := by kernel_rfl
theorem wg_tz65 : tySize Try.prog 65 1 = true := by kernel_rfl
theorem rsum_spec {lb : List UInt8} {l : List Int} {oa : Option Addr} {c : Nat} {M : List HP} {F : List Fact} (ha : ArrF oa (ints l) ∈ F) (hlb : lb.length ≤ 70368744177664) (hl : l.length ≤ 4611686018427387904) : Ctr Try.prog 75 [S lb, .slice oa l.length c] M F Unit (fun _ => U (sumN lb l)) (fun _ => M) (fun _ => F) := by
  refine Ctr.body Try.func75 rfl rfl ?_
  refine TR.seq ?_
  refine TR.region ?_
  refine RL.assign rfl rfl rfl ?_
  refine RL.nil ?_
  refine NX.seq ?_
  refine TR.seq ?_
  refine TR.region ?_
  refine RL.assign rfl rfl rfl ?_
  refine RL.nil ?_
  refine NX.seq ?_
  refine TR.seq ?_
  refine TR.region ?_
  have hwl := wordsN_length lb
  refine RL.move rfl rfl rfl ?_
  refine RL.convSB rfl wg_tstr9 wg_tby23 rfl rfl (fun q => ?_)
  refine RL.call rfl rfl Try.call74 rfl (words_spec (b := lb) (.head _) hlb) (fun v => ?_)
  refine RL.weak (fun w hw => hw.keepSl) ?_
  refine RL.assign rfl rfl rfl ?_
  refine RL.nil ?_
  refine NX.seq ?_
  refine TR.seq ?_
  refine TR.seq ?_
  refine TR.region ?_
  refine RL.assign rfl rfl rfl ?_
  refine RL.nil ?_
  refine NX.seq ?_
  refine TR.block ?_
  refine TR.loopP (ι := Nat) (fun k => k ≤ (wordsN lb).length) (fun k => [(0, S lb), (1, .slice oa l.length c), (5, U (((wordsN lb).take k).foldl mixN 0)), (6, .slice v.1 (wordsN lb).length v.2), (7, I k)]) (fun _ => M) (fun _ => ArrF v.1 (wordsV (wordsN lb)) :: ArrF q.1.1 (bytesV lb) :: F) (fun k => (wordsN lb).length - k) 0 (Nat.zero_le _) ⟨rfl, rfl, rfl, rfl, rfl, trivial⟩ (fun w hw => hw) (fun k hk => ?_)
  refine TR.seq ?_
  refine TR.seq ?_
  refine TR.region ?_
  refine RL.move rfl rfl rfl ?_
  refine RL.move rfl rfl rfl ?_
  refine RL.lenSlice rfl wg_tl116 rfl rfl ?_
  refine RL.bin rfl rfl rfl BinV.lss rfl ?_
  refine RL.nil ?_
  refine NX.seq ?_
  refine TR.cond rfl (fun h1 => ?_) (fun h1 => ?_)
  · skip
    have hk1 : k < (wordsN lb).length := by have := of_decide_eq_true h1; omega
    refine TR.openP (open_arr (oa := v.1) (xs := wordsV (wordsN lb)) (.head _) (wordsV_ne hk1)) (fun pq hpa => ?_)
    refine TR.skip ?_
    refine NX.seq ?_
    refine TR.seq ?_
    refine TR.block ?_
    refine TR.region ?_
    refine RL.move rfl rfl rfl ?_
    refine RL.move rfl rfl rfl ?_
    refine RL.move rfl rfl rfl ?_
    refine RL.indexAddr rfl wg_tl116 wg_tz65 (congrArg (fun a => some (Value.slice a _ _)) hpa) rfl (by omega) (by omega) rfl ?_
    refine RL.loadF rfl rfl (fun w K hF => run_loadCell1 (j := (k : Int).toNat * 1) (v := U (wordsN lb)[k]) (hF _ (.head _)) wg_ts65 (wordsV_get hk1)) rfl ?_
    refine RL.call rfl rfl Try.call94 rfl (rmix_spec (foldl_mix_lt (by omega)) (words_mem_lt hk1)) (fun _ => ?_)
    refine RL.assign rfl rfl rfl ?_
    refine RL.nil ?_
    refine NX.off ?_
    refine NX.seq ?_
    refine TR.region ?_
    refine RL.move rfl rfl rfl ?_
    refine RL.bin rfl rfl rfl (BinV.add _ rfl (by omega) (by omega)) rfl ?_
    refine RL.assign rfl rfl rfl ?_
    refine RL.nil ?_
    refine NX.roundP (k + 1) (by omega) (by omega) ⟨rfl, rfl, congrArg (fun z => some (U z)) (by rw [List.take_succ_eq_append_getElem hk1, List.foldl_append, List.foldl_cons, List.foldl_nil]), rfl, rfl, trivial⟩ (fun w hw => hw.facts (fun φ h => .tail _ h))
  · skip
    have hk2 : k = (wordsN lb).length := by have := of_decide_eq_false h1; omega
    rw [hk2, List.take_length]
    refine TR.exit ?_
    refine NX.exitThen ?_
    refine NX.exitThen ?_
    refine NX.exitHere ?_
    refine NX.seq ?_
    refine TR.seq ?_
    refine TR.region ?_
    refine RL.move rfl rfl rfl ?_
    refine RL.move rfl rfl rfl ?_
    refine RL.lenStr rfl wg_tstr9 rfl rfl ?_
    refine RL.conv rfl rfl (ConvV.iu wg_ti3 wg_ti65 (by omega)) rfl ?_
    refine RL.call rfl rfl Try.call94 rfl (rmix_spec (foldl_mix_lt (by omega)) (by omega)) (fun _ => ?_)
    refine RL.assign rfl rfl rfl ?_
    refine RL.nil ?_
    refine NX.seq ?_
    refine TR.seq ?_
    refine TR.region ?_
    refine RL.move rfl rfl rfl ?_
    refine RL.move rfl rfl rfl ?_
    refine RL.lenSlice rfl wg_tl22 rfl rfl ?_
    refine RL.conv rfl rfl (ConvV.iu wg_ti3 wg_ti65 (by omega)) rfl ?_
    refine RL.call rfl rfl Try.call94 rfl (rmix_spec mixN_lt (by omega)) (fun _ => ?_)
    refine RL.assign rfl rfl rfl ?_
    refine RL.nil ?_
    refine NX.seq ?_
    refine TR.seq ?_
    refine TR.seq ?_
    refine TR.region ?_
    refine RL.assign rfl rfl rfl ?_
    refine RL.nil ?_
    refine NX.seq ?_
    refine TR.block ?_
    refine TR.loopP (ι := Nat) (fun k => k ≤ l.length) (fun k => [(1, .slice oa l.length c), (5, U ((l.take k).foldl (fun s n => mixN s (u64of n)) (mixN (mixN ((wordsN lb).foldl mixN 0) lb.length) l.length))), (8, I k)]) (fun _ => M) (fun _ => ArrF v.1 (wordsV (wordsN lb)) :: ArrF q.1.1 (bytesV lb) :: F) (fun k => l.length - k) 0 (Nat.zero_le _) ⟨rfl, congrArg (fun z => some (U z)) (by rw [List.take_zero, List.foldl_nil]), rfl, trivial⟩ (fun w hw => hw) (fun k hk => ?_)
    refine TR.seq ?_
    refine TR.seq ?_
    refine TR.region ?_
    refine RL.move rfl rfl rfl ?_
    refine RL.move rfl rfl rfl ?_
    refine RL.lenSlice rfl wg_tl22 rfl rfl ?_
    refine RL.bin rfl rfl rfl BinV.lss rfl ?_
    refine RL.nil ?_
    refine NX.seq ?_
    refine TR.cond rfl (fun h2 => ?_) (fun h2 => ?_)
    · skip
      have hk1 : k < l.length := by have := of_decide_eq_true h2; omega
      refine TR.openP (open_arr (oa := oa) (xs := ints l) (.tail _ (.tail _ ha)) (ints_ne (by omega))) (fun pq hpa => ?_)
      refine TR.skip ?_
      refine NX.seq ?_
      refine TR.seq ?_
      refine TR.block ?_
      refine TR.region ?_
      refine RL.move rfl rfl rfl ?_
      refine RL.move rfl rfl rfl ?_
      refine RL.move rfl rfl rfl ?_
      refine RL.indexAddr rfl wg_tl22 wg_tz3 (congrArg (fun a => some (Value.slice a _ _)) hpa) rfl (by omega) (by omega) rfl ?_
      refine RL.loadF rfl rfl (fun w K hF => run_loadCell1 (j := (k : Int).toNat * 1) (v := I l[k]) (hF _ (.head _)) wg_ts3 (by simp [hk1])) rfl ?_
      refine RL.conv rfl rfl (ConvV.iu64 wg_ti3 wg_ti65) rfl ?_
      refine RL.call rfl rfl Try.call94 rfl (rmix_spec (foldl_mixI_lt mixN_lt) (u64of_lt _)) (fun _ => ?_)
      refine RL.assign rfl rfl rfl ?_
      refine RL.nil ?_
      refine NX.off ?_
      refine NX.seq ?_
      refine TR.region ?_
      refine RL.move rfl rfl rfl ?_
      refine RL.bin rfl rfl rfl (BinV.add _ rfl (by omega) (by omega)) rfl ?_
      refine RL.assign rfl rfl rfl ?_
      refine RL.nil ?_
      refine NX.roundP (k + 1) (by omega) (by omega) ⟨rfl, congrArg (fun z => some (U z)) (by rw [List.take_succ_eq_append_getElem hk1, List.foldl_append, List.foldl_cons, List.foldl_nil]), rfl, trivial⟩ (fun w hw => hw.facts (fun φ h => .tail _ h))
    · skip
      have hk2 : k = l.length := by have := of_decide_eq_false h2; omega
      refine TR.exit ?_
      refine NX.exitThen ?_
      refine NX.exitThen ?_
      refine NX.exitHere ?_
      refine NX.seq ?_
      refine TR.seq ?_
      refine TR.region ?_
      refine RL.move rfl rfl rfl ?_
      refine RL.call rfl rfl Try.call94 rfl (rmix_spec (w := 0) (foldl_mixI_lt mixN_lt) (by omega)) (fun _ => ?_)
      refine RL.assign rfl rfl rfl ?_
      refine RL.nil ?_
      refine NX.seq ?_
      refine TR.ret ?_
      refine NX.ret1 () rfl rfl ?_ (fun w hw => hw.facts (fun φ h => .tail _ (.tail _ h)))
      rw [hk2, List.take_length, sumN]

structure IsX where
  k : Nat
  oa : Option Addr
  c : Nat

theorem rBytes_spec {lb b : List UInt8} {oa : Option Addr} {c : Nat} {M : List HP} {F : List Fact} (ha : ArrF oa (bytesV b) ∈ F) (hlb : lb.length ≤ 70368744177664) (hl : b.length ≤ 70368744177664) : Ctr Try.prog 48 [S lb, .slice oa b.length c] M F Unit (fun _ => U (hashN lb b)) (fun _ => M) (fun _ => F) := by
  refine Ctr.body Try.func48 rfl rfl ?_
  refine TR.seq ?_
  refine TR.region ?_
  refine RL.assign rfl rfl rfl ?_
  refine RL.nil ?_
  refine NX.seq ?_
  refine TR.seq ?_
  refine TR.region ?_
  refine RL.move rfl rfl rfl ?_
  refine RL.call rfl rfl Try.call74 rfl (words_spec (b := b) ha hl) (fun v => ?_)
  refine RL.assign rfl rfl rfl ?_
  refine RL.weak (fun w hw => hw.keepSl) ?_
  refine RL.nil ?_
  refine NX.seq ?_
  refine TR.seq ?_
  refine TR.region ?_
  have hwl := wordsN_length b
  refine RL.assign rfl rfl rfl ?_
  refine RL.weak (fun w hw => OwnSl.nil_new 3 1 hw) ?_
  refine RL.nil ?_
  refine NX.seq ?_
  refine TR.seq ?_
  refine TR.seq ?_
  refine TR.region ?_
  refine RL.assign rfl rfl rfl ?_
  refine RL.nil ?_
  refine NX.seq ?_
  refine TR.block ?_
  refine TR.loopP (ι := IsX) (fun x => x.k ≤ (wordsN b).length) (fun x => [(0, S lb), (1, .slice oa b.length c), (5, .slice v.1 (wordsN b).length v.2), (6, .slice x.oa x.k x.c), (7, I x.k)]) (fun x => OwnSl 3 1 x.oa x.k x.c (ints (((wordsN b).map i64of).take x.k)) :: M) (fun _ => ArrF v.1 (wordsV (wordsN b)) :: F) (fun x => (wordsN b).length - x.k) ⟨0, none, 0⟩ (Nat.zero_le _) ⟨rfl, rfl, rfl, rfl, rfl, trivial⟩ (fun w hw => hw) (fun x hx => ?_)
  refine TR.seq ?_
  refine TR.seq ?_
  refine TR.region ?_
  refine RL.move rfl rfl rfl ?_
  refine RL.move rfl rfl rfl ?_
  refine RL.lenSlice rfl wg_tl116 rfl rfl ?_
  refine RL.bin rfl rfl rfl BinV.lss rfl ?_
  refine RL.nil ?_
  refine NX.seq ?_
  refine TR.cond rfl (fun h1 => ?_) (fun h1 => ?_)
  · skip
    have hk1 : x.k < (wordsN b).length := by have := of_decide_eq_true h1; omega
    refine TR.openP (open_arr (oa := v.1) (xs := wordsV (wordsN b)) (.head _) (wordsV_ne hk1)) (fun pq hpa => ?_)
    refine TR.skip ?_
    refine NX.seq ?_
    refine TR.seq ?_
    refine TR.block ?_
    refine TR.region ?_
    refine RL.move rfl rfl rfl ?_
    refine RL.move rfl rfl rfl ?_
    refine RL.move rfl rfl rfl ?_
    refine RL.indexAddr rfl wg_tl116 wg_tz65 (congrArg (fun a => some (Value.slice a _ _)) hpa) rfl (by omega) (by omega) rfl ?_
    refine RL.loadF rfl rfl (fun w K hF => run_loadCell1 (j := (x.k : Int).toNat * 1) (v := U (wordsN b)[x.k]) (hF _ (.head _)) wg_ts65 (wordsV_get hk1)) rfl ?_
    refine RL.conv rfl rfl (ConvV.ui64 wg_ti65 wg_ti3) rfl ?_
    refine RL.buildSlice rfl rfl (wg_bs22_1_0 _) rfl (fun b2 => ?_)
    refine RL.ofGV rfl rfl (GV.append (j := 1) wg_tl22 wg_ni22 wg_te3 rfl rfl rfl (src_box (i := 0) rfl rfl rfl) (by omega) (by omega)) (fun y => ?_)
    refine RL.assign rfl rfl rfl ?_
    refine RL.nil ?_
    refine NX.off ?_
    refine NX.seq ?_
    refine TR.region ?_
    refine RL.move rfl rfl rfl ?_
    refine RL.bin rfl rfl rfl (BinV.add _ rfl (by omega) (by omega)) rfl ?_
    refine RL.assign rfl rfl rfl ?_
    refine RL.nil ?_
    refine NX.roundP ⟨x.k + 1, y.1, y.2⟩ (show x.k + 1 ≤ _ from hk1) (by show _ - (x.k + 1) < _ - x.k; omega) ⟨rfl, rfl, rfl, rfl, rfl, trivial⟩ (fun w hw => ?_)
    have e9 : ints (((wordsN b).map i64of).take (x.k + 1)) = ints (((wordsN b).map i64of).take x.k) ++ [I (i64of (wordsN b)[x.k])] := by
      rw [List.take_succ_eq_append_getElem (by rw [List.length_map]; exact hk1)]; simp
    show St w (OwnSl 3 1 y.1 (x.k + 1) y.2 (ints (((wordsN b).map i64of).take (x.k + 1))) :: M) _
    rw [e9]
    exact (hw.drop 0 rfl).facts (fun φ h => .tail _ h)
  · skip
    have hk2 : x.k = (wordsN b).length := by have := of_decide_eq_false h1; omega
    refine TR.exit ?_
    refine NX.exitThen ?_
    refine NX.exitThen ?_
    refine NX.exitHere ?_
    refine NX.seq ?_
    refine TR.seq ?_
    refine TR.region ?_
    have hmt : ((wordsN b).map i64of).take (wordsN b).length = (wordsN b).map i64of := List.take_of_length_le (by rw [List.length_map]; exact Nat.le_refl _)
    refine RL.move rfl rfl rfl ?_
    refine RL.move rfl rfl rfl ?_
    refine RL.move rfl rfl rfl ?_
    refine RL.lenSlice rfl wg_tl23 rfl rfl ?_
    refine RL.buildSlice rfl rfl (wg_bs22_1_0 _) rfl (fun b4 => ?_)
    refine RL.ofGV rfl rfl (GV.append (j := 1) wg_tl22 wg_ni22 wg_te3 rfl rfl rfl (src_box (i := 0) rfl rfl rfl) (by omega) (by omega)) (fun y => ?_)
    refine RL.sub (E' := [(24, S lb), (29, .slice y.1 (((wordsN b).map i64of ++ [(b.length : Int)])).length y.2)]) ⟨rfl, by show some (Value.slice y.1 (x.k + 1) y.2) = _; rw [List.length_append, List.length_map, hk2]; rfl, trivial⟩ ?_
    refine RL.weak (fun w hw => by
      have h9 := (hw.front (i := 1) rfl).keepSl
      rw [hk2, hmt, show ints ((wordsN b).map i64of) ++ [I (b.length : Int)] = ints ((wordsN b).map i64of ++ [(b.length : Int)]) from by simp] at h9
      exact h9) ?_
    refine RL.call rfl rfl Try.call75 rfl (rsum_spec (l := (wordsN b).map i64of ++ [(b.length : Int)]) (.head _) hlb (by rw [List.length_append, List.length_map, wordsN_length]; simp; omega)) (fun _ => ?_)
    refine RL.assign rfl rfl rfl ?_
    refine RL.nil ?_
    refine NX.seq ?_
    refine TR.ret ?_
    exact NX.ret1 () rfl rfl rfl (fun w hw => (hw.drop 0 rfl).facts (fun φ h => .tail _ (.tail _ h)))

structure RuY where
  n : Nat
  l : List UInt8
  oa : Option Addr
  oc : Nat

theorem rEncU_spec {n : Nat} {M : List HP} {F : List Fact} (hn : n < 18446744073709551616) : Ctr Try.prog 47 [U n] M F (Option Addr × Nat) (fun z => .slice z.1 (encU n).length z.2) (fun z => OwnSl 5 1 z.1 (encU n).length z.2 (bytesV (encU n)) :: M) (fun _ => F) := by
  refine Ctr.body Try.func47 rfl rfl ?_
  refine TR.seq ?_
  refine TR.region ?_
  refine RL.assign rfl rfl rfl ?_
  refine RL.nil ?_
  refine NX.seq ?_
  refine TR.seq ?_
  refine TR.region ?_
  refine RL.assign rfl rfl rfl ?_
  refine RL.weak (fun w hw => OwnSl.nil_new 5 1 hw) ?_
  refine RL.nil ?_
  refine NX.seq ?_
  refine TR.seq ?_
  refine TR.block ?_
  refine TR.loopP (ι := RuY) (fun x => x.n < 18446744073709551616 ∧ x.l ++ encU x.n = encU n) (fun x => [(0, U x.n), (3, .slice x.oa x.l.length x.oc)]) (fun x => OwnSl 5 1 x.oa x.l.length x.oc (bytesV x.l) :: M) (fun _ => F) (fun x => x.n) ⟨n, [], none, 0⟩ ⟨hn, rfl⟩ ⟨rfl, rfl, trivial⟩ (fun w hw => hw) (fun x hx => ?_)
  refine TR.seq ?_
  refine TR.seq ?_
  refine TR.region ?_
  refine RL.move rfl rfl rfl ?_
  refine RL.bin rfl rfl rfl BinV.gtr rfl ?_
  refine RL.nil ?_
  refine NX.seq ?_
  refine TR.cond rfl (fun h1 => ?_) (fun h1 => ?_)
  · skip
    have hn1 : ¬ x.n < 128 := by have := of_decide_eq_true h1; omega
    have hx2 := hx.2
    rw [encU_big hn1] at hx2
    have hlen := congrArg List.length hx.2
    simp only [List.length_append] at hlen
    have h10 := encU_len10 hn
    refine TR.skip ?_
    refine NX.seq ?_
    refine TR.block ?_
    refine TR.seq ?_
    refine TR.region ?_
    refine RL.move rfl rfl rfl ?_
    refine RL.move rfl rfl rfl ?_
    refine RL.bin rfl rfl rfl (BinV.remK (b := 128) (by omega)) rfl ?_
    refine RL.bin rfl rfl rfl (BinV.addU (a := 128) (b := x.n % 128) (by omega)) rfl ?_
    refine RL.conv rfl rfl (ConvV.ub wg_ti65 wg_ti5) rfl ?_
    refine RL.buildSlice rfl rfl (wg_bs23_1_0 _) rfl (fun b2 => ?_)
    refine RL.ofGV rfl rfl (GV.append (j := 1) wg_tl23 wg_ni23 wg_te5 rfl rfl rfl (src_box (i := 0) rfl rfl rfl) (by omega) (by omega)) (fun y => ?_)
    refine RL.assign rfl rfl rfl ?_
    refine RL.nil ?_
    refine NX.seq ?_
    refine TR.region ?_
    refine RL.move rfl rfl rfl ?_
    refine RL.bin rfl rfl rfl (BinV.quoU (b := 128) hx.1 (by omega)) rfl ?_
    refine RL.assign rfl rfl rfl ?_
    refine RL.nil ?_
    refine NX.off ?_
    refine NX.roundP ⟨x.n / 128, x.l ++ [UInt8.ofNat (128 + x.n % 128)], y.1, y.2⟩ ⟨Nat.lt_of_le_of_lt (Nat.div_le_self _ _) hx.1, ?_⟩ (by show x.n / 128 < x.n; omega) ⟨rfl, by show some (Value.slice y.1 (x.l.length + 1) y.2) = some (Value.slice y.1 (x.l ++ [UInt8.ofNat (128 + x.n % 128)]).length y.2); rw [List.length_append]; rfl, trivial⟩ (fun w hw => ?_)
    · rw [← hx2, List.append_assoc]; rfl
    · have h9 : St w (OwnSl 5 1 y.1 (x.l.length + 1) y.2 (bytesV x.l ++ [B8 ((128 + x.n % 128) % 256)]) :: M) F := hw.drop 0 rfl
      rw [more_byte2, ← bytesV_snoc] at h9
      show St w (OwnSl 5 1 y.1 (x.l ++ [UInt8.ofNat (128 + x.n % 128)]).length y.2 _ :: M) F
      rw [List.length_append]
      exact h9
  · skip
    have hn1 : x.n < 128 := by have := of_decide_eq_false h1; omega
    have hx2 := hx.2
    rw [encU_small hn1] at hx2
    have hlen := congrArg List.length hx.2
    simp only [List.length_append] at hlen
    have h10 := encU_len10 hn
    refine TR.exit ?_
    refine NX.exitThen ?_
    refine NX.exitThen ?_
    refine NX.exitHere ?_
    refine NX.seq ?_
    refine TR.seq ?_
    refine TR.region ?_
    refine RL.move rfl rfl rfl ?_
    refine RL.move rfl rfl rfl ?_
    refine RL.conv rfl rfl (ConvV.ub wg_ti65 wg_ti5) rfl ?_
    refine RL.buildSlice rfl rfl (wg_bs23_1_0 _) rfl (fun b4 => ?_)
    refine RL.ofGV rfl rfl (GV.append (j := 1) wg_tl23 wg_ni23 wg_te5 rfl rfl rfl (src_box (i := 0) rfl rfl rfl) (by omega) (by omega)) (fun y => ?_)
    refine RL.assign rfl rfl rfl ?_
    refine RL.nil ?_
    refine NX.seq ?_
    refine TR.ret ?_
    refine NX.ret1x rfl rfl (fun w hw => ⟨(y.1, y.2), ?_, ?_⟩)
    · rw [← hx2, List.length_append]; rfl
    · have h9 : St w (OwnSl 5 1 y.1 (x.l.length + 1) y.2 (bytesV x.l ++ [B8 (x.n % 256)]) :: M) F := hw.drop 0 rfl
      rw [last_byte hn1, ← bytesV_snoc, hx2] at h9
      show St w (OwnSl 5 1 y.1 (encU n).length y.2 (bytesV (encU n)) :: M) F
      rw [← hx2, List.length_append]
      rw [hx2]
      exact h9

theorem rZigzag_spec {n : Int} {M : List HP} {F : List Fact} (hlo : -9223372036854775808 ≤ n) (hhi : n ≤ 9223372036854775807) : Ctr Try.prog 93 [I n] M F Unit (fun _ => U (zz n)) (fun _ => M) (fun _ => F) := by
  refine Ctr.body Try.func93 rfl rfl ?_
  refine TR.seq ?_
  refine TR.region ?_
  refine RL.assign rfl rfl rfl ?_
  refine RL.nil ?_
  refine NX.seq ?_
  refine TR.seq ?_
  refine TR.seq ?_
  refine TR.region ?_
  refine RL.move rfl rfl rfl ?_
  refine RL.bin rfl rfl rfl BinV.lss rfl ?_
  refine RL.nil ?_
  refine NX.seq ?_
  refine TR.cond rfl (fun h1 => ?_) (fun h1 => ?_)
  · skip
    have hneg : n < 0 := of_decide_eq_true h1
    refine TR.seq ?_
    refine TR.region ?_
    refine RL.move rfl rfl rfl ?_
    refine RL.bin rfl rfl rfl (BinV.add _ rfl (by omega) (by omega)) rfl ?_
    refine RL.neg rfl rfl (by omega) (by omega) rfl ?_
    refine RL.conv rfl rfl (ConvV.iu64 wg_ti3 wg_ti65) rfl ?_
    refine RL.bin rfl rfl rfl (BinV.mulU (a := 2) (by have := (zz_neg hneg hlo).2; omega)) rfl ?_
    refine RL.bin rfl rfl rfl (BinV.addU (b := 1) (zz_neg hneg hlo).2) rfl ?_
    refine RL.assign rfl rfl rfl ?_
    refine RL.nil ?_
    refine NX.seq ?_
    refine TR.ret ?_
    refine NX.retThen ?_
    exact NX.ret1 () rfl rfl (by rw [← (zz_neg hneg hlo).1]) (fun w hw => hw)
  · skip
    have hneg : ¬ n < 0 := of_decide_eq_false h1
    refine TR.skip ?_
    refine NX.seq ?_
    refine TR.seq ?_
    refine TR.region ?_
    refine RL.move rfl rfl rfl ?_
    refine RL.conv rfl rfl (ConvV.iu64 wg_ti3 wg_ti65) rfl ?_
    refine RL.bin rfl rfl rfl (BinV.mulU (a := 2) (zz_pos hneg hhi).2) rfl ?_
    refine RL.assign rfl rfl rfl ?_
    refine RL.nil ?_
    refine NX.seq ?_
    refine TR.ret ?_
    exact NX.ret1 () rfl rfl (by rw [← (zz_pos hneg hhi).1]) (fun w hw => hw)

theorem rEncI_spec {n : Int} {M : List HP} {F : List Fact} (h0 : -9223372036854775808 ≤ n) (h1 : n ≤ 9223372036854775807) : Ctr Try.prog 73 [I n] M F (Option Addr × Nat) (fun z => .slice z.1 (encU (zz n)).length z.2) (fun z => OwnSl 5 1 z.1 (encU (zz n)).length z.2 (bytesV (encU (zz n))) :: M) (fun _ => F) := by
  refine Ctr.body Try.func73 rfl rfl ?_
  refine TR.seq ?_
  refine TR.region ?_
  refine RL.assign rfl rfl rfl ?_
  refine RL.nil ?_
  refine NX.seq ?_
  refine TR.seq ?_
  refine TR.region ?_
  refine RL.move rfl rfl rfl ?_
  refine RL.call rfl rfl Try.call93 rfl (rZigzag_spec h0 h1) (fun _ => ?_)
  refine RL.call rfl rfl Try.call47 rfl (rEncU_spec (zz_lt h0 h1)) (fun z => ?_)
  refine RL.assign rfl rfl rfl ?_
  refine RL.nil ?_
  refine NX.seq ?_
  refine TR.ret ?_
  exact NX.ret1 z rfl rfl rfl (fun w hw => hw)

theorem rEncR_spec {x : List UInt8} {oa : Option Addr} {c : Nat} {M : List HP} {F : List Fact} (ha : ArrF oa (bytesV x) ∈ F) (hx : x.length ≤ 70368744177664) : Ctr Try.prog 46 [.slice oa x.length c] M F (Option Addr × Nat) (fun z => .slice z.1 (encR x).length z.2) (fun z => OwnSl 5 1 z.1 (encR x).length z.2 (bytesV (encR x)) :: M) (fun _ => F) := by
  refine Ctr.body Try.func46 rfl rfl ?_
  refine TR.seq ?_
  refine TR.region ?_
  refine RL.assign rfl rfl rfl ?_
  refine RL.nil ?_
  refine NX.seq ?_
  refine TR.seq ?_
  refine TR.region ?_
  have h10 := encU_len10 (n := x.length) (by omega)
  refine RL.move rfl rfl rfl ?_
  refine RL.lenSlice rfl wg_tl23 rfl rfl ?_
  refine RL.conv rfl rfl (ConvV.iu wg_ti3 wg_ti65 (by omega)) rfl ?_
  refine RL.call rfl rfl Try.call47 rfl (rEncU_spec (n := x.length) (by omega)) (fun z => ?_)
  refine RL.move rfl rfl rfl ?_
  refine RL.ofGV rfl rfl (GV.append (j := 0) wg_tl23 wg_ni23 wg_te5 rfl rfl rfl (src_fact (xs := bytesV x) ha (by rw [bytesV_length, Nat.mul_one]) (bytesV_one _)) (by omega) (by omega)) (fun y => ?_)
  refine RL.assign rfl rfl rfl ?_
  refine RL.nil ?_
  refine NX.seq ?_
  refine TR.ret ?_
  refine NX.ret1x rfl rfl (fun w hw => ⟨(y.1, y.2), ?_, ?_⟩)
  · unfold encR; rw [List.length_append]
  · show St w (OwnSl 5 1 y.1 (encR x).length y.2 (bytesV (encR x)) :: M) F
    unfold encR
    rw [List.length_append, bytesV_append]
    exact hw

theorem rCore_spec {i : Int} {x : List UInt8} {oa : Option Addr} {c : Nat} {M : List HP} {F : List Fact} (ha : ArrF oa (bytesV x) ∈ F) (h0 : -9223372036854775808 ≤ i) (h1 : i ≤ 9223372036854775807) (hx : x.length ≤ 17592186044416) : Ctr Try.prog 45 [I i, .slice oa x.length c] M F (Option Addr × Nat) (fun z => .slice z.1 (coreJ i x).length z.2) (fun z => OwnSl 5 1 z.1 (coreJ i x).length z.2 (bytesV (coreJ i x)) :: M) (fun _ => F) := by
  refine Ctr.body Try.func45 rfl rfl ?_
  refine TR.seq ?_
  refine TR.region ?_
  refine RL.assign rfl rfl rfl ?_
  refine RL.nil ?_
  refine NX.seq ?_
  refine TR.seq ?_
  refine TR.region ?_
  have h10 := encU_len10 (zz_lt h0 h1)
  have h11 := encU_len10 (n := x.length) (by omega)
  have h12 : (encR x).length = (encU x.length).length + x.length := by unfold encR; rw [List.length_append]
  refine RL.move rfl rfl rfl ?_
  refine RL.call rfl rfl Try.call73 rfl (rEncI_spec h0 h1) (fun z => ?_)
  refine RL.assign rfl rfl rfl ?_
  refine RL.nil ?_
  refine NX.seq ?_
  refine TR.seq ?_
  refine TR.region ?_
  refine RL.move rfl rfl rfl ?_
  refine RL.move rfl rfl rfl ?_
  refine RL.call rfl rfl Try.call46 rfl (rEncR_spec (x := x) ha (by omega)) (fun v => ?_)
  refine RL.weak (fun w hw => hw.keepSl) ?_
  refine RL.ofGV rfl rfl (GV.append (j := 0) wg_tl23 wg_ni23 wg_te5 rfl rfl rfl (src_fact (xs := bytesV (encR x)) (.head _) (by rw [bytesV_length, Nat.mul_one]) (bytesV_one _)) (by omega) (by omega)) (fun y => ?_)
  refine RL.assign rfl rfl rfl ?_
  refine RL.nil ?_
  refine NX.seq ?_
  refine TR.ret ?_
  refine NX.ret1x rfl rfl (fun w hw => ⟨(y.1, y.2), ?_, ?_⟩)
  · unfold coreJ; rw [List.length_append]
  · show St w (OwnSl 5 1 y.1 (coreJ i x).length y.2 (bytesV (coreJ i x)) :: M) F
    unfold coreJ
    rw [List.length_append, bytesV_append]
    exact hw.facts (fun φ h => .tail _ h)

theorem rFrame_spec {i : Int} {x : List UInt8} {oa : Option Addr} {c : Nat} {M : List HP} {F : List Fact} (ha : ArrF oa (bytesV x) ∈ F) (h0 : -9223372036854775808 ≤ i) (h1 : i ≤ 9223372036854775807) (hx : x.length ≤ 17592186044416) : Ctr Try.prog 14 [I i, .slice oa x.length c] M F (Option Addr × Nat) (fun z => .slice z.1 (frameJ i x).length z.2) (fun z => OwnSl 5 1 z.1 (frameJ i x).length z.2 (bytesV (frameJ i x)) :: M) (fun _ => F) := by
  refine Ctr.body Try.func14 rfl rfl ?_
  refine TR.seq ?_
  refine TR.region ?_
  refine RL.assign rfl rfl rfl ?_
  refine RL.nil ?_
  refine NX.seq ?_
  refine TR.seq ?_
  refine TR.region ?_
  have hcl := coreJ_len h0 h1 (x := x) (by omega)
  have h10 := encU_len10 (hashN_lt (label := jl) (b := coreJ i x))
  refine RL.move rfl rfl rfl ?_
  refine RL.move rfl rfl rfl ?_
  refine RL.call rfl rfl Try.call45 rfl (rCore_spec ha h0 h1 hx) (fun z => ?_)
  refine RL.weak (fun w hw => hw.keepSl) ?_
  refine RL.assign rfl rfl rfl ?_
  refine RL.nil ?_
  refine NX.seq ?_
  refine TR.seq ?_
  refine TR.region ?_
  have h11 := encU_len10 (n := (coreJ i x).length) (by omega)
  have h12 : (encR (coreJ i x)).length = (encU (coreJ i x).length).length + (coreJ i x).length := by unfold encR; rw [List.length_append]
  refine RL.move rfl rfl rfl ?_
  refine RL.call rfl rfl Try.call46 rfl (rEncR_spec (x := coreJ i x) (.head _) (by omega)) (fun v => ?_)
  refine RL.assign rfl rfl rfl ?_
  refine RL.nil ?_
  refine NX.seq ?_
  refine TR.seq ?_
  refine TR.region ?_
  refine RL.move rfl rfl rfl ?_
  refine RL.move rfl rfl rfl ?_
  refine RL.call rfl rfl Try.call48 rfl (rBytes_spec (lb := jl) (b := coreJ i x) (.head _) (by decide) (by omega)) (fun _ => ?_)
  refine RL.call rfl rfl Try.call47 rfl (rEncU_spec hashN_lt) (fun q => ?_)
  refine RL.weak (fun w hw => hw.keepSl) ?_
  refine RL.ofGV rfl rfl (GV.append (j := 0) wg_tl23 wg_ni23 wg_te5 rfl rfl rfl (src_fact (xs := bytesV (encU (hashN jl (coreJ i x)))) (.head _) (by rw [bytesV_length, Nat.mul_one]) (bytesV_one _)) (by omega) (by omega)) (fun y => ?_)
  refine RL.assign rfl rfl rfl ?_
  refine RL.nil ?_
  refine NX.seq ?_
  refine TR.ret ?_
  refine NX.ret1x rfl rfl (fun w hw => ⟨(y.1, y.2), ?_, ?_⟩)
  · unfold frameJ; rw [List.length_append]
  · show St w (OwnSl 5 1 y.1 (frameJ i x).length y.2 (bytesV (frameJ i x)) :: M) F
    unfold frameJ
    rw [List.length_append, bytesV_append]
    exact hw.facts (fun φ h => .tail _ (.tail _ h))

end Go.Proofs.Ytdlpaojkkekdlaa
