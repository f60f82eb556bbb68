/- Walks of functions of the program. Printed by sx.py. -/
import Derived.Test.YtdlpaojkkekdlaaWa
namespace Go.Proofs.Ytdlpaojkkekdlaa
open Go.GL
set_option linter.unusedVariables false
theorem wb_bs22_1_0 (x0 : Int) : BuildSV Try.prog 22 3 1 [(0, .int .i64 x0)] [.int .i64 x0] := fun w => by kernel_rfl
theorem wb_ni22 : noInt Try.prog 22 = true := by kernel_rfl
theorem wb_te3 : tyElem Try.prog 3 1 8 = true := by kernel_rfl
theorem wb_ti3 : tyInt Try.prog 3 .i64 = true := by kernel_rfl
theorem wb_ti5 : tyInt Try.prog 5 .u8 = true := by kernel_rfl
theorem wb_ti65 : tyInt Try.prog 65 .u64 = true := by kernel_rfl
theorem wb_tl22 : tySlice Try.prog 22 3 = true := by kernel_rfl
theorem wb_tl23 : tySlice Try.prog 23 5 = true := by kernel_rfl
theorem wb_ts22 : tyScalar Try.prog 22 = true := by kernel_rfl
theorem wb_ts23 : tyScalar Try.prog 23 = true := by kernel_rfl
theorem wb_ts3 : tyScalar Try.prog 3 = true := by kernel_rfl
theorem wb_ts5 : tyScalar Try.prog 5 = true := by kernel_rfl
theorem wb_ts65 : tyScalar Try.prog 65 = true := by kernel_rfl
theorem wb_ts9 : tyScalar Try.prog 9 = true := by kernel_rfl
theorem wb_tstr9 : tyStr Try.prog 9 = true := by kernel_rfl
theorem wb_tz3 : tySize Try.prog 3 1 = true := by kernel_rfl
theorem wb_tz5 : tySize Try.prog 5 1 = true := by kernel_rfl
theorem mix_spec {s w : Nat} {M : List HP} {F : List Fact} (hs : s < 18446744073709551616) (hw : w < 18446744073709551616) : Ctr Try.prog 92 [U s, U w] M F Unit (fun _ => U (mixN s w)) (fun _ => M) (fun _ => F) := by
  refine Ctr.body Try.func92 rfl rfl ?_
  refine TR.seq ?_
  refine TR.region ?_
  refine RL.assign rfl rfl rfl ?_
  refine RL.nil ?_
  refine NX.seq ?_
  refine TR.seq ?_
  refine TR.region ?_
  refine RL.move rfl rfl rfl ?_
  refine RL.move rfl rfl rfl ?_
  refine RL.bin rfl rfl rfl (BinV.xorU hs hw) rfl ?_
  refine RL.bin rfl rfl rfl (BinV.mulUw (b := 11400714819323198485)) rfl ?_
  refine RL.assign rfl rfl rfl ?_
  refine RL.nil ?_
  refine NX.seq ?_
  refine TR.seq ?_
  refine TR.region ?_
  refine RL.move rfl rfl rfl ?_
  refine RL.move rfl rfl rfl ?_
  refine RL.bin rfl rfl rfl (BinV.shrU (s := 32) (by omega)) rfl ?_
  refine RL.bin rfl rfl rfl (BinV.xorU (Nat.mod_lt _ (by omega)) (Nat.lt_of_le_of_lt (Nat.div_le_self _ _) (Nat.mod_lt _ (by omega)))) rfl ?_
  refine RL.assign rfl rfl rfl ?_
  refine RL.nil ?_
  refine NX.seq ?_
  refine TR.ret ?_
  exact NX.ret1 () rfl rfl (by unfold mixN; rfl) (fun w hw => hw)

theorem wordsB_spec {b : List UInt8} {oa : Option Addr} {c : Nat} {M : List HP} {F : List Fact} : Ctr Try.prog 69 [.slice oa b.length c] M F Nat (fun d => .func (.func 90) #[] #[.pointer (some ⟨d, 0, none⟩)]) (fun _ => M) (fun d => CellsF d 0 [.slice oa b.length c] :: F) := by
  refine Ctr.body Try.func69 rfl rfl ?_
  refine TR.seq ?_
  refine TR.region ?_
  refine RL.box1 rfl rfl rfl rfl (fun b1 => ?_)
  refine RL.assign rfl rfl rfl ?_
  refine RL.nil ?_
  refine NX.seq ?_
  refine TR.seq ?_
  refine TR.region ?_
  refine RL.makeFunc rfl rfl rfl rfl ?_
  refine RL.assign rfl rfl rfl ?_
  refine RL.nil ?_
  refine NX.seq ?_
  refine TR.ret ?_
  exact NX.ret1 b1 rfl rfl rfl (fun w hw => hw.keep)

theorem wordsB_iter {b : List UInt8} {oa : Option Addr} {c : Nat} {d : Nat} {F : List Fact} (ha : ArrF oa (bytesV b) ∈ F) (hb : CellsF d 0 [.slice oa b.length c] ∈ F) (hl : b.length ≤ 4611686018427387904) : IterC Try.prog 90 [.pointer (some ⟨d, 0, none⟩)] wordEnc (wordsN b) F := by
  intro l J hY Mi G hG
  refine Ctr.body Try.func90 rfl rfl ?_
  refine TR.seq ?_
  refine TR.region ?_
  refine RL.assign rfl rfl rfl ?_
  refine RL.nil ?_
  refine NX.seq ?_
  refine TR.block ?_
  refine TR.loopP (ι := Nat) (fun k => k ≤ (wordsN b).length) (fun k => [(0, .func (.yield l) #[] #[]), (1, .pointer (some ⟨d, 0, none⟩)), (3, I ((8 * k : Nat) : Int))]) (fun k => J ((wordsN b).take k) ++ Mi) (fun _ => G) (fun k => (wordsN b).length - k) 0 (Nat.zero_le _) ⟨rfl, rfl, rfl, trivial⟩ (fun w hw => by simpa using hw) (fun k hk => ?_)
  refine TR.seq ?_
  refine TR.seq ?_
  refine TR.region ?_
  refine RL.move rfl rfl rfl ?_
  refine RL.loadF rfl rfl (fun w K hF => run_loadCell1 (j := 0) (hF _ (hG _ hb)) wb_ts23 rfl) rfl ?_
  refine RL.lenSlice rfl wb_tl23 rfl rfl ?_
  refine RL.bin rfl rfl rfl BinV.lss rfl ?_
  refine RL.nil ?_
  refine NX.seq ?_
  refine TR.cond rfl (fun h1 => ?_) (fun h1 => ?_)
  · skip
    have h8 : 8 * k < b.length := by have := of_decide_eq_true h1; omega
    have hk1 : k < (wordsN b).length := by rw [wordsN_length]; omega
    refine TR.skip ?_
    refine NX.seq ?_
    refine TR.seq ?_
    refine TR.block ?_
    refine TR.seq ?_
    refine TR.region ?_
    refine RL.assign rfl rfl rfl ?_
    refine RL.nil ?_
    refine NX.seq ?_
    refine TR.seq ?_
    refine TR.seq ?_
    refine TR.region ?_
    refine RL.move rfl rfl rfl ?_
    refine RL.assign rfl rfl rfl ?_
    refine RL.nil ?_
    refine NX.seq ?_
    refine TR.block ?_
    refine TR.loopP (ι := Nat) (fun j => 8 * k + j ≤ b.length ∧ j ≤ 8) (fun j => [(0, .func (.yield l) #[] #[]), (1, .pointer (some ⟨d, 0, none⟩)), (3, I ((8 * k : Nat) : Int)), (4, U (wordN ((b.drop (8 * k)).take j))), (5, I ((8 * k + j : Nat) : Int))]) (fun _ => J ((wordsN b).take k) ++ Mi) (fun _ => G) (fun j => 8 - j) 0 ⟨by omega, by omega⟩ ⟨rfl, rfl, rfl, rfl, rfl, trivial⟩ (fun w hw => hw) (fun j hj => ?_)
    refine TR.seq ?_
    refine TR.seq ?_
    refine TR.region ?_
    refine RL.move rfl rfl rfl ?_
    refine RL.move rfl rfl rfl ?_
    refine RL.bin rfl rfl rfl (BinV.add _ rfl (by omega) (by omega)) rfl ?_
    refine RL.loadF rfl rfl (fun w K hF => run_loadCell1 (j := 0) (hF _ (hG _ hb)) wb_ts23 rfl) rfl ?_
    refine RL.lenSlice rfl wb_tl23 rfl rfl ?_
    refine RL.min rfl rfl rfl rfl ?_
    refine RL.bin rfl rfl rfl BinV.lss rfl ?_
    refine RL.nil ?_
    refine NX.seq ?_
    refine TR.cond rfl (fun h2 => ?_) (fun h2 => ?_)
    · skip
      have hj1 := of_decide_eq_true h2
      have hj2 : 8 * k + j < b.length := by omega
      have hj3 : j < 8 := by omega
      refine TR.openP (open_arr (oa := oa) (xs := bytesV b) (hG _ ha) (bytesV_ne hj2)) (fun pq hpa => ?_)
      refine TR.skip ?_
      refine NX.seq ?_
      refine TR.seq ?_
      refine TR.block ?_
      refine TR.region ?_
      refine RL.move rfl rfl rfl ?_
      refine RL.loadF rfl rfl (fun w K hF => run_loadCell1 (j := 0) (hF _ (.tail _ (hG _ hb))) wb_ts23 rfl) rfl ?_
      refine RL.move rfl rfl rfl ?_
      refine RL.indexAddr rfl wb_tl23 wb_tz5 (congrArg (fun a => some (Value.slice a _ _)) hpa) rfl (by omega) (by omega) rfl ?_
      refine RL.loadF rfl rfl (fun w K hF => run_loadCell1 (j := ((8 * k + j : Nat) : Int).toNat * 1) (v := .int .u8 (b[8 * k + j].toNat : Int)) (hF _ (.head _)) wb_ts5 (bytesV_get hj2)) rfl ?_
      refine RL.conv rfl rfl (ConvV.bu wb_ti5 wb_ti65 (by have := (b[8 * k + j]).toNat_lt; omega)) rfl ?_
      refine RL.move rfl rfl rfl ?_
      refine RL.move rfl rfl rfl ?_
      refine RL.bin rfl rfl rfl (BinV.sub (j : Int) (by omega) (by omega) (by omega)) rfl ?_
      refine RL.bin rfl rfl rfl (BinV.mul ((8 * j : Nat) : Int) (by omega) (by omega) (by omega)) rfl ?_
      refine RL.bin rfl rfl rfl (BinV.shlU (s := 8 * j) (by omega)) rfl ?_
      refine RL.bin rfl rfl rfl (BinV.orU (wordN_lt64 (by rw [List.length_take]; omega)) (Nat.mod_lt _ (by omega))) rfl ?_
      refine RL.assign rfl rfl rfl ?_
      refine RL.nil ?_
      refine NX.off ?_
      refine NX.seq ?_
      refine TR.region ?_
      refine RL.move rfl rfl rfl ?_
      refine RL.bin rfl rfl rfl (BinV.add _ rfl (by omega) (by omega)) rfl ?_
      refine RL.assign rfl rfl rfl ?_
      refine RL.nil ?_
      refine NX.roundP (j + 1) ⟨by omega, by omega⟩ (by omega) ⟨rfl, rfl, rfl, congrArg (fun z => some (U z)) (word_step hj2 (by omega)), congrArg (fun z => some (I z)) (by omega), trivial⟩ (fun w hw => hw.facts (fun φ h => .tail _ h))
    · skip
      have hj1 := of_decide_eq_false h2
      have hall : (b.drop (8 * k)).take j = (b.drop (8 * k)).take 8 := word_all (k := k) (j := j) (by omega) (by omega) (by omega)
      rw [hall]
      refine TR.exit ?_
      refine NX.exitThen ?_
      refine NX.exitThen ?_
      refine NX.exitHere ?_
      refine NX.seq ?_
      refine TR.seq ?_
      refine TR.region ?_
      refine RL.move rfl rfl rfl ?_
      refine RL.move rfl rfl rfl ?_
      refine RL.callYield rfl rfl rfl rfl (hY ((wordsN b).take k) (wordN ((b.drop (8 * k)).take 8)) ((wordsN b).drop (k + 1)) _ (by rw [← wordsN_get hk1, ← List.drop_eq_getElem_cons hk1, List.take_append_drop]) rfl _ _ hG) ?_
      refine RL.not rfl rfl rfl ?_
      refine RL.nil ?_
      refine NX.seq ?_
      refine TR.condF rfl ?_
      refine TR.skip ?_
      refine NX.off ?_
      refine NX.seq ?_
      refine TR.region ?_
      refine RL.move rfl rfl rfl ?_
      refine RL.bin rfl rfl rfl (BinV.add _ rfl (by omega) (by omega)) rfl ?_
      refine RL.assign rfl rfl rfl ?_
      refine RL.nil ?_
      refine NX.roundP (k + 1) (by omega) (by omega) ⟨rfl, rfl, congrArg (fun z => some (I z)) (by omega), trivial⟩ (fun w hw => ?_)
      rw [List.take_succ_eq_append_getElem hk1, wordsN_get hk1]
      exact hw
  · skip
    have h8 : b.length ≤ 8 * k := by have := of_decide_eq_false h1; omega
    have hk2 : k = (wordsN b).length := by have := hk; rw [wordsN_length] at this ⊢; omega
    refine TR.exit ?_
    refine NX.exitThen ?_
    refine NX.exitThen ?_
    refine NX.exitHere ?_
    refine NX.end0 () rfl rfl (fun w hw => ?_)
    rw [hk2, List.take_length] at hw
    exact hw

theorem wordsS_spec {b : List UInt8} {M : List HP} {F : List Fact} : Ctr Try.prog 91 [S b] M F Nat (fun d => .func (.func 103) #[] #[.pointer (some ⟨d, 0, none⟩)]) (fun _ => M) (fun d => CellsF d 0 [S b] :: F) := by
  refine Ctr.body Try.func91 rfl rfl ?_
  refine TR.seq ?_
  refine TR.region ?_
  refine RL.box1 rfl rfl rfl rfl (fun b1 => ?_)
  refine RL.assign rfl rfl rfl ?_
  refine RL.nil ?_
  refine NX.seq ?_
  refine TR.seq ?_
  refine TR.region ?_
  refine RL.makeFunc rfl rfl rfl rfl ?_
  refine RL.assign rfl rfl rfl ?_
  refine RL.nil ?_
  refine NX.seq ?_
  refine TR.ret ?_
  exact NX.ret1 b1 rfl rfl rfl (fun w hw => hw.keep)

theorem wordsS_iter {b : List UInt8} {d : Nat} {F : List Fact} (hb : CellsF d 0 [S b] ∈ F) (hl : b.length ≤ 4611686018427387904) : IterC Try.prog 103 [.pointer (some ⟨d, 0, none⟩)] wordEnc (wordsN b) F := by
  intro l J hY Mi G hG
  refine Ctr.body Try.func103 rfl rfl ?_
  refine TR.seq ?_
  refine TR.region ?_
  refine RL.assign rfl rfl rfl ?_
  refine RL.nil ?_
  refine NX.seq ?_
  refine TR.block ?_
  refine TR.loopP (ι := Nat) (fun k => k ≤ (wordsN b).length) (fun k => [(0, .func (.yield l) #[] #[]), (1, .pointer (some ⟨d, 0, none⟩)), (3, I ((8 * k : Nat) : Int))]) (fun k => J ((wordsN b).take k) ++ Mi) (fun _ => G) (fun k => (wordsN b).length - k) 0 (Nat.zero_le _) ⟨rfl, rfl, rfl, trivial⟩ (fun w hw => by simpa using hw) (fun k hk => ?_)
  refine TR.seq ?_
  refine TR.seq ?_
  refine TR.region ?_
  refine RL.move rfl rfl rfl ?_
  refine RL.loadF rfl rfl (fun w K hF => run_loadCell1 (j := 0) (hF _ (hG _ hb)) wb_ts9 rfl) rfl ?_
  refine RL.lenStr rfl wb_tstr9 rfl rfl ?_
  refine RL.bin rfl rfl rfl BinV.lss rfl ?_
  refine RL.nil ?_
  refine NX.seq ?_
  refine TR.cond rfl (fun h1 => ?_) (fun h1 => ?_)
  · skip
    have h8 : 8 * k < b.length := by have := of_decide_eq_true h1; omega
    have hk1 : k < (wordsN b).length := by rw [wordsN_length]; omega
    refine TR.skip ?_
    refine NX.seq ?_
    refine TR.seq ?_
    refine TR.block ?_
    refine TR.seq ?_
    refine TR.region ?_
    refine RL.assign rfl rfl rfl ?_
    refine RL.nil ?_
    refine NX.seq ?_
    refine TR.seq ?_
    refine TR.seq ?_
    refine TR.region ?_
    refine RL.move rfl rfl rfl ?_
    refine RL.assign rfl rfl rfl ?_
    refine RL.nil ?_
    refine NX.seq ?_
    refine TR.block ?_
    refine TR.loopP (ι := Nat) (fun j => 8 * k + j ≤ b.length ∧ j ≤ 8) (fun j => [(0, .func (.yield l) #[] #[]), (1, .pointer (some ⟨d, 0, none⟩)), (3, I ((8 * k : Nat) : Int)), (4, U (wordN ((b.drop (8 * k)).take j))), (5, I ((8 * k + j : Nat) : Int))]) (fun _ => J ((wordsN b).take k) ++ Mi) (fun _ => G) (fun j => 8 - j) 0 ⟨by omega, by omega⟩ ⟨rfl, rfl, rfl, rfl, rfl, trivial⟩ (fun w hw => hw) (fun j hj => ?_)
    refine TR.seq ?_
    refine TR.seq ?_
    refine TR.region ?_
    refine RL.move rfl rfl rfl ?_
    refine RL.move rfl rfl rfl ?_
    refine RL.bin rfl rfl rfl (BinV.add _ rfl (by omega) (by omega)) rfl ?_
    refine RL.loadF rfl rfl (fun w K hF => run_loadCell1 (j := 0) (hF _ (hG _ hb)) wb_ts9 rfl) rfl ?_
    refine RL.lenStr rfl wb_tstr9 rfl rfl ?_
    refine RL.min rfl rfl rfl rfl ?_
    refine RL.bin rfl rfl rfl BinV.lss rfl ?_
    refine RL.nil ?_
    refine NX.seq ?_
    refine TR.cond rfl (fun h2 => ?_) (fun h2 => ?_)
    · skip
      have hj1 := of_decide_eq_true h2
      have hj2 : 8 * k + j < b.length := by omega
      have hj3 : j < 8 := by omega
      refine TR.skip ?_
      refine NX.seq ?_
      refine TR.seq ?_
      refine TR.block ?_
      refine TR.region ?_
      refine RL.move rfl rfl rfl ?_
      refine RL.loadF rfl rfl (fun w K hF => run_loadCell1 (j := 0) (hF _ (hG _ hb)) wb_ts9 rfl) rfl ?_
      refine RL.move rfl rfl rfl ?_
      refine RL.indexS rfl wb_tstr9 rfl rfl (by omega) (u := b[8 * k + j]) (by rw [Int.toNat_natCast]; exact List.getElem?_eq_getElem hj2) rfl ?_
      refine RL.conv rfl rfl (ConvV.bu wb_ti5 wb_ti65 (by have := (b[8 * k + j]).toNat_lt; omega)) rfl ?_
      refine RL.move rfl rfl rfl ?_
      refine RL.move rfl rfl rfl ?_
      refine RL.bin rfl rfl rfl (BinV.sub (j : Int) (by omega) (by omega) (by omega)) rfl ?_
      refine RL.bin rfl rfl rfl (BinV.mul ((8 * j : Nat) : Int) (by omega) (by omega) (by omega)) rfl ?_
      refine RL.bin rfl rfl rfl (BinV.shlU (s := 8 * j) (by omega)) rfl ?_
      refine RL.bin rfl rfl rfl (BinV.orU (wordN_lt64 (by rw [List.length_take]; omega)) (Nat.mod_lt _ (by omega))) rfl ?_
      refine RL.assign rfl rfl rfl ?_
      refine RL.nil ?_
      refine NX.off ?_
      refine NX.seq ?_
      refine TR.region ?_
      refine RL.move rfl rfl rfl ?_
      refine RL.bin rfl rfl rfl (BinV.add _ rfl (by omega) (by omega)) rfl ?_
      refine RL.assign rfl rfl rfl ?_
      refine RL.nil ?_
      refine NX.roundP (j + 1) ⟨by omega, by omega⟩ (by omega) ⟨rfl, rfl, rfl, congrArg (fun z => some (U z)) (word_step hj2 (by omega)), congrArg (fun z => some (I z)) (by omega), trivial⟩ (fun w hw => hw)
    · skip
      have hj1 := of_decide_eq_false h2
      have hall : (b.drop (8 * k)).take j = (b.drop (8 * k)).take 8 := word_all (k := k) (j := j) (by omega) (by omega) (by omega)
      rw [hall]
      refine TR.exit ?_
      refine NX.exitThen ?_
      refine NX.exitThen ?_
      refine NX.exitHere ?_
      refine NX.seq ?_
      refine TR.seq ?_
      refine TR.region ?_
      refine RL.move rfl rfl rfl ?_
      refine RL.move rfl rfl rfl ?_
      refine RL.callYield rfl rfl rfl rfl (hY ((wordsN b).take k) (wordN ((b.drop (8 * k)).take 8)) ((wordsN b).drop (k + 1)) _ (by rw [← wordsN_get hk1, ← List.drop_eq_getElem_cons hk1, List.take_append_drop]) rfl _ _ hG) ?_
      refine RL.not rfl rfl rfl ?_
      refine RL.nil ?_
      refine NX.seq ?_
      refine TR.condF rfl ?_
      refine TR.skip ?_
      refine NX.off ?_
      refine NX.seq ?_
      refine TR.region ?_
      refine RL.move rfl rfl rfl ?_
      refine RL.bin rfl rfl rfl (BinV.add _ rfl (by omega) (by omega)) rfl ?_
      refine RL.assign rfl rfl rfl ?_
      refine RL.nil ?_
      refine NX.roundP (k + 1) (by omega) (by omega) ⟨rfl, rfl, congrArg (fun z => some (I z)) (by omega), trivial⟩ (fun w hw => ?_)
      rw [List.take_succ_eq_append_getElem hk1, wordsN_get hk1]
      exact hw
  · skip
    have h8 : b.length ≤ 8 * k := by have := of_decide_eq_false h1; omega
    have hk2 : k = (wordsN b).length := by have := hk; rw [wordsN_length] at this ⊢; omega
    refine TR.exit ?_
    refine NX.exitThen ?_
    refine NX.exitThen ?_
    refine NX.exitHere ?_
    refine NX.end0 () rfl rfl (fun w hw => ?_)
    rw [hk2, List.take_length] at hw
    exact hw

theorem sum_spec {lb : List UInt8} {l : List Int} {oa : Option Addr} {c : Nat} {M : List HP} {F : List Fact} (ha : ArrF oa (ints l) ∈ F) (hlb : lb.length ≤ 4611686018427387904) (hl : l.length ≤ 4611686018427387904) : Ctr Try.prog 70 [S lb, .slice oa l.length c] M F Unit (fun _ => U (sumN lb l)) (fun _ => M) (fun _ => F) := by
  refine Ctr.bodyM Try.func70 rfl rfl ?_
  refine TR.seq ?_
  refine TR.region ?_
  refine RL.assign rfl rfl rfl ?_
  refine RL.nil ?_
  refine NX.seq ?_
  refine TR.seq ?_
  refine TR.region ?_
  refine RL.alloc1 rfl (Try.zeroValue65) rfl rfl (fun b1 => ?_)
  refine RL.store1 0 rfl wb_ts65 rfl rfl rfl rfl rfl ?_
  refine RL.nil ?_
  refine NX.seq ?_
  refine TR.seq ?_
  refine TR.seq ?_
  refine TR.region ?_
  refine RL.move rfl rfl rfl ?_
  refine RL.call rfl rfl Try.call91 rfl (wordsS_spec) (fun bc => ?_)
  refine RL.nil ?_
  refine NX.seq ?_
  refine TR.block ?_
  refine TR.rangeFunc (κ := Unit) (xs := (wordsN lb)) rfl Try.call103 (by simp) wordEnc_len (wordsS_iter (.head _) (by omega)) (fun pre => [Box b1 65 [U (pre.foldl mixN 0)]]) M (fun w hw => hw) (fun pre x args b => [(5, .pointer (some ⟨b1, 0, none⟩)), (6, U x)]) (fun pre x args b => [Box b1 65 [U (pre.foldl mixN 0)]]) ?as0 ?bd0 ?ki0
  case as0 =>
    intro l pre x suf args hx he Mi G hG
    obtain rfl : args = [U x] := he
    refine TR.region ?_
    refine RL.assign rfl rfl rfl ?_
    refine RL.nil ?_
    exact NX.meet () ⟨rfl, rfl, trivial⟩ (fun w hw => hw)
  case bd0 =>
    intro l pre x suf args i hx he Mi G hG
    obtain rfl : args = [U x] := he
    refine TR.block ?_
    refine TR.region ?_
    refine RL.load1 0 rfl wb_ts65 rfl rfl rfl rfl ?_
    refine RL.move rfl rfl rfl ?_
    refine RL.call rfl rfl Try.call92 rfl (mix_spec (foldl_mix_lt (by omega)) (words_lt hx)) (fun _ => ?_)
    refine RL.store1 0 rfl wb_ts65 rfl rfl rfl rfl rfl ?_
    refine RL.nil ?_
    refine NX.off ?_
    exact fun aa w _ hw => by
      show St w (Box b1 65 [U ((pre ++ [x]).foldl mixN 0)] :: Mi) G
      rw [List.foldl_append, List.foldl_cons, List.foldl_nil]
      exact hw
  case ki0 =>
    intro D
    refine NX.off ?_
    refine NX.seq ?_
    refine TR.seq ?_
    refine TR.region ?_
    refine RL.load1 1 rfl wb_ts65 rfl rfl rfl rfl ?_
    refine RL.move rfl rfl rfl ?_
    refine RL.lenStr rfl wb_tstr9 rfl rfl ?_
    refine RL.conv rfl rfl (ConvV.iu wb_ti3 wb_ti65 (by omega)) rfl ?_
    refine RL.call rfl rfl Try.call92 rfl (mix_spec (foldl_mix_lt (by omega)) (by omega)) (fun _ => ?_)
    refine RL.move rfl rfl rfl ?_
    refine RL.lenSlice rfl wb_tl22 rfl rfl ?_
    refine RL.conv rfl rfl (ConvV.iu wb_ti3 wb_ti65 (by omega)) rfl ?_
    refine RL.call rfl rfl Try.call92 rfl (mix_spec mixN_lt (by omega)) (fun _ => ?_)
    refine RL.store1 1 rfl wb_ts65 rfl rfl rfl rfl rfl ?_
    refine RL.nil ?_
    refine NX.seq ?_
    refine TR.seq ?_
    refine TR.seq ?_
    refine TR.region ?_
    refine RL.move rfl rfl rfl ?_
    refine RL.lenSlice rfl wb_tl22 rfl rfl ?_
    refine RL.move rfl rfl rfl ?_
    refine RL.nil ?_
    refine NX.seq ?_
    refine TR.block ?_
    refine TR.loopP (ι := Nat) (fun k => k ≤ l.length) (fun k => [(5, .pointer (some ⟨b1, 0, none⟩)), (24, .slice oa l.length c), (25, I l.length), (26, I k)]) (fun k => Pts D (.deferred (some [])) :: Box b1 65 [U ((l.take k).foldl (fun s n => mixN s (u64of n)) (mixN (mixN ((wordsN lb).foldl mixN 0) lb.length) l.length))] :: M) (fun _ => CellsF bc 0 [S lb] :: F) (fun k => l.length - k) 0 (Nat.zero_le _) ⟨rfl, rfl, rfl, rfl, trivial⟩ (fun w hw => (show St w (Pts D (.deferred (some [])) :: Box b1 65 [U ((l.take 0).foldl (fun s n => mixN s (u64of n)) (mixN (mixN ((wordsN lb).foldl mixN 0) lb.length) l.length))] :: M) _ from by rw [List.take_zero, List.foldl_nil]; exact hw)) (fun k hk => ?_)
    refine TR.seq ?_
    refine TR.region ?_
    refine RL.bin rfl rfl rfl BinV.lss rfl ?_
    refine RL.nil ?_
    refine NX.seq ?_
    refine TR.seq ?_
    refine TR.cond rfl (fun h2 => ?_) (fun h2 => ?_)
    · skip
      have hk1 : k < l.length := by have := of_decide_eq_true h2; omega
      refine TR.openP (open_arr (oa := oa) (xs := ints l) (.tail _ ha) (ints_ne (by omega))) (fun pq hpa => ?_)
      refine TR.skip ?_
      refine NX.seq ?_
      refine TR.seq ?_
      refine TR.block ?_
      refine TR.seq ?_
      refine TR.region ?_
      refine RL.indexAddr rfl wb_tl22 wb_tz3 (congrArg (fun a => some (Value.slice a _ _)) hpa) rfl (by omega) (by omega) rfl ?_
      refine RL.loadF rfl rfl (fun w K hF => run_loadCell1 (j := (k : Int).toNat * 1) (v := I l[k]) (hF _ (.head _)) wb_ts3 (by simp [hk1])) rfl ?_
      refine RL.assign rfl rfl rfl ?_
      refine RL.nil ?_
      refine NX.seq ?_
      refine TR.region ?_
      refine RL.load1 1 rfl wb_ts65 rfl rfl rfl rfl ?_
      refine RL.move rfl rfl rfl ?_
      refine RL.conv rfl rfl (ConvV.iu64 wb_ti3 wb_ti65) rfl ?_
      refine RL.call rfl rfl Try.call92 rfl (mix_spec (foldl_mixI_lt mixN_lt) (u64of_lt _)) (fun _ => ?_)
      refine RL.store1 1 rfl wb_ts65 rfl rfl rfl rfl rfl ?_
      refine RL.nil ?_
      refine NX.off ?_
      refine NX.seq ?_
      refine TR.region ?_
      refine RL.bin rfl rfl rfl (BinV.add _ rfl (by omega) (by omega)) rfl ?_
      refine RL.move rfl rfl rfl ?_
      refine RL.nil ?_
      refine NX.roundP (k + 1) (by omega) (by omega) ⟨rfl, rfl, rfl, rfl, trivial⟩ (fun w hw => ?_)
      rw [List.take_succ_eq_append_getElem hk1, List.foldl_append, List.foldl_cons, List.foldl_nil]
      exact hw.facts (fun φ h => .tail _ h)
    · skip
      have hk2 : k = l.length := by have := of_decide_eq_false h2; omega
      refine TR.exit ?_
      refine NX.exitThen ?_
      refine NX.exitThen ?_
      refine NX.exitHere ?_
      refine NX.seq ?_
      refine TR.seq ?_
      refine TR.region ?_
      refine RL.load1 1 rfl wb_ts65 rfl rfl rfl rfl ?_
      refine RL.call rfl rfl Try.call92 rfl (mix_spec (w := 0) (foldl_mixI_lt mixN_lt) (by omega)) (fun _ => ?_)
      refine RL.assign rfl rfl rfl ?_
      refine RL.nil ?_
      refine NX.seq ?_
      refine TR.ret ?_
      refine NX.retM 0 () rfl rfl rfl ?_ (fun w hw => (hw.drop 0 rfl).facts (fun φ h => .tail _ h))
      rw [hk2, List.take_length, sumN]

theorem hBytes_spec {lb b : List UInt8} {oa : Option Addr} {c : Nat} {M : List HP} {F : List Fact} (ha : ArrF oa (bytesV b) ∈ F) (hlb : lb.length ≤ 4611686018427387904) (hl : b.length ≤ 70368744177664) : Ctr Try.prog 40 [S lb, .slice oa b.length c] M F Unit (fun _ => U (hashN lb b)) (fun _ => M) (fun _ => F) := by
  refine Ctr.bodyM Try.func40 rfl rfl ?_
  refine TR.seq ?_
  refine TR.region ?_
  refine RL.assign rfl rfl rfl ?_
  refine RL.nil ?_
  refine NX.seq ?_
  refine TR.seq ?_
  refine TR.region ?_
  refine RL.alloc1 rfl (Try.zeroValue22) rfl rfl (fun b1 => ?_)
  refine RL.weak (fun w hw => St.varNew (e := 3) (size := 1) hw) ?_
  refine RL.nil ?_
  refine NX.seq ?_
  refine TR.seq ?_
  refine TR.seq ?_
  refine TR.region ?_
  refine RL.move rfl rfl rfl ?_
  refine RL.call rfl rfl Try.call69 rfl (wordsB_spec) (fun bc => ?_)
  refine RL.nil ?_
  refine NX.seq ?_
  refine TR.block ?_
  refine TR.rangeFunc (κ := Option Addr × Nat) (xs := (wordsN b)) rfl Try.call90 (by simp) wordEnc_len (wordsB_iter (.tail _ ha) (.head _) (by omega)) (fun pre => [VarB 22 3 1 b1 pre.length (ints (pre.map i64of))]) M (fun w hw => hw) (fun pre x args b => [(5, .pointer (some ⟨b1, 0, none⟩)), (6, U x)]) (fun pre x args b => [Box b1 22 [.slice b.1 pre.length b.2], OwnSl 3 1 b.1 pre.length b.2 (ints (pre.map i64of))]) ?as0 ?bd0 ?ki0
  case as0 =>
    intro l pre x suf args hx he Mi G hG
    obtain rfl : args = [U x] := he
    refine TR.region ?_
    refine RL.open (fun w hw => St.exOpen hw) (fun i0 => ?_)
    refine RL.assign rfl rfl rfl ?_
    refine RL.nil ?_
    exact NX.meet (i0.1, i0.2) ⟨rfl, rfl, trivial⟩ (fun w hw => hw)
  case bd0 =>
    intro l pre x suf args i hx he Mi G hG
    obtain rfl : args = [U x] := he
    have hpl : pre.length < (wordsN b).length := by rw [hx]; simp
    rw [wordsN_length] at hpl
    refine TR.block ?_
    refine TR.region ?_
    refine RL.load1 0 rfl wb_ts22 rfl rfl rfl rfl ?_
    refine RL.move rfl rfl rfl ?_
    refine RL.conv rfl rfl (ConvV.ui64 wb_ti65 wb_ti3) rfl ?_
    refine RL.buildSlice rfl rfl (wb_bs22_1_0 _) rfl (fun b2 => ?_)
    refine RL.ofGV rfl rfl (GV.append (j := 2) wb_tl22 wb_ni22 wb_te3 rfl rfl rfl (src_box (i := 0) rfl rfl rfl) (by omega) (by omega)) (fun y => ?_)
    refine RL.store1 1 rfl wb_ts22 rfl rfl rfl rfl rfl ?_
    refine RL.nil ?_
    refine NX.off ?_
    exact fun aa w _ hw => by
      have h9 := hw.drop 0 rfl
      have e9 : ints ((pre ++ [x]).map i64of) = ints (pre.map i64of) ++ [I (i64of x)] := by simp
      have h8 : St w (VarB 22 3 1 b1 (pre ++ [x]).length (ints ((pre ++ [x]).map i64of)) :: Mi) G := St.exClose (y.1, y.2) (by rw [e9, List.length_append]; exact h9)
      exact h8
  case ki0 =>
    intro D
    refine NX.off ?_
    refine NX.seq ?_
    refine TR.seq ?_
    refine TR.region ?_
    refine RL.open (fun w hw => St.exOpen hw.swap) (fun i0 => ?_)
    refine RL.move rfl rfl rfl ?_
    refine RL.load1 0 rfl wb_ts22 rfl rfl rfl rfl ?_
    refine RL.move rfl rfl rfl ?_
    refine RL.lenSlice rfl wb_tl23 rfl rfl ?_
    refine RL.buildSlice rfl rfl (wb_bs22_1_0 _) rfl (fun b4 => ?_)
    refine RL.ofGV rfl rfl (GV.append (j := 2) wb_tl22 wb_ni22 wb_te3 rfl rfl rfl (src_box (i := 0) rfl rfl rfl) (by rw [wordsN_length]; omega) (by rw [wordsN_length]; omega)) (fun y => ?_)
    refine RL.sub (E' := [(15, S lb), (20, .slice y.1 (((wordsN b).map i64of ++ [(b.length : Int)])).length y.2)]) ⟨rfl, by show some (Value.slice y.1 ((wordsN b).length + 1) y.2) = _; rw [List.length_append, List.length_map]; rfl, trivial⟩ ?_
    refine RL.weak (fun w hw => by
      have h9 := (hw.front (i := 2) rfl).keepSl
      rw [show ints ((wordsN b).map i64of) ++ [I (b.length : Int)] = ints ((wordsN b).map i64of ++ [(b.length : Int)]) from by simp] at h9
      exact h9) ?_
    refine RL.call rfl rfl Try.call70 rfl (sum_spec (l := (wordsN b).map i64of ++ [(b.length : Int)]) (.head _) hlb (by rw [List.length_append, List.length_map, wordsN_length]; simp; omega)) (fun _ => ?_)
    refine RL.assign rfl rfl rfl ?_
    refine RL.nil ?_
    refine NX.seq ?_
    refine TR.ret ?_
    exact NX.retM 2 () rfl rfl rfl rfl (fun w hw => (((hw.drop 0 rfl).drop 0 rfl)).facts (fun φ h => .tail _ (.tail _ h)))

end Go.Proofs.Ytdlpaojkkekdlaa
