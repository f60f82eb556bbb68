/- The law SyntaxTokens holds: whatever the input, it returns true and the input reads as it did; its card: the two tables of the lexer read as the program's own text lays them (the tie is given). Condition: the tables read so when the call begins; the card ties that to the text. -/
import Derived.Shelf.Strings.IndexAnyAll
import Derived.Test.YtnolpmigiboanaaDoorChecked
import Derived.Test.YtnolpmigiboanaaDoorTie
import Derived.Test.YtnolpmigiboanaaDoorCards
import Derived.ProofKit
import Derived.LaidMore
import Derived.OpenShut
import Derived.Stop.Joined
import Derived.SevenTiedAt
import Derived.Test.YtnolpmigiboanaaDoorPtkb
set_option linter.unusedVariables false
set_option linter.unusedSimpArgs false
namespace Go.Proofs
open Go.Shelf
def Tryd.lays153_ren : Go.Shelf.Ren := ⟨fun | 153 => 51 | 152 => 55 | 226 => 56 | 227 => 57 | 228 => 58 | 137 => 61 | 119 => 62 | 224 => 63 | 225 => 64 | 217 => 65 | 266 => 66 | n => n, fun | 9 => 9 | 3 => 3 | 4 => 4 | 5 => 5 | 21 => 21 | 117 => 90 | 116 => 89 | 0 => 0 | 46 => 85 | 124 => 95 | n => n, fun | n => n⟩
theorem Tryd.lays153 : Go.Proofs.Lays.n153 Tryd.prog Tryd.lays153_ren := {
  mixed := by kernel_rfl
  f119 := Tryd.func62.trans (congrArg some (by kernel_rfl))
  f137 := Tryd.func61.trans (congrArg some (by kernel_rfl))
  f152 := Tryd.func55.trans (congrArg some (by kernel_rfl))
  f153 := Tryd.func51.trans (congrArg some (by kernel_rfl))
  f217 := Tryd.func65.trans (congrArg some (by kernel_rfl))
  f224 := Tryd.func63.trans (congrArg some (by kernel_rfl))
  f225 := Tryd.func64.trans (congrArg some (by kernel_rfl))
  f226 := Tryd.func56.trans (congrArg some (by kernel_rfl))
  f227 := Tryd.func57.trans (congrArg some (by kernel_rfl))
  f228 := Tryd.func58.trans (congrArg some (by kernel_rfl))
  f266 := Tryd.func66.trans (congrArg some (by kernel_rfl))
  t0 := Tryd.underlying0
  a0 := Tryd.isAgg0
  z0 := Tryd.sizeOf0
  v0 := Tryd.zeroValue0
  t3 := Tryd.underlying3
  a3 := Tryd.isAgg3
  z3 := Tryd.sizeOf3
  v3 := Tryd.zeroValue3
  t4 := Tryd.underlying4
  a4 := Tryd.isAgg4
  z4 := Tryd.sizeOf4
  v4 := Tryd.zeroValue4
  t5 := Tryd.underlying5
  a5 := Tryd.isAgg5
  z5 := Tryd.sizeOf5
  v5 := Tryd.zeroValue5
  t9 := Tryd.underlying9
  a9 := Tryd.isAgg9
  z9 := Tryd.sizeOf9
  v9 := Tryd.zeroValue9
  t21 := Tryd.underlying21
  a21 := Tryd.isAgg21
  z21 := Tryd.sizeOf21
  v21 := Tryd.zeroValue21
  t46 := Tryd.underlying85
  a46 := Tryd.isAgg85
  z46 := Tryd.sizeOf85
  v46 := Tryd.zeroValue85
  t116 := Tryd.underlying89
  a116 := Tryd.isAgg89
  z116 := Tryd.sizeOf89
  t117 := Tryd.underlying90
  a117 := Tryd.isAgg90
  z117 := Tryd.sizeOf90
  v117 := Tryd.zeroValue90
  t124 := Tryd.underlying95
  a124 := Tryd.isAgg95
  z124 := Tryd.sizeOf95
  v124 := Tryd.zeroValue95 }
end Go.Proofs

namespace Go.Proofs.YtnolpmigiboanaaDoor
open Go.GL
set_option linter.unusedVariables false
theorem ne_tstr9 : tyStr Tryd.prog 9 = true := by kernel_rfl
theorem ci_of_calls3 {P : Program} {f : FuncId} {args : Array Value} {w : World} {R : Ending → World → Prop} (h : Calls P f args w R) : CI P f args w R := (callsIn_wide (n := 0)).2 h
theorem h116 : (Tryd.prog.info? 89).map (fun i => (i.zero, i.size)) = some (some (.agg (Array.replicate 256 (.bool false))), 256) := by kernel_rfl
theorem ixAny_long {l : List UInt8} {M : List HP} {F : List Fact} (h8 : 8 < l.length) (hl : l.length < 4294967281) : Ctr Tryd.prog 51 [S l, S qrL] M F Unit (fun _ => I (qtZ (qtI l))) (fun _ => M) (fun _ => F) := fun w hw => by
  have hs : (⟨l.toArray⟩ : ByteArray).size = l.length := by simp [ByteArray.size]
  refine CallsIn.mono (ci_of_calls3 (Go.Proofs.Any.strings_IndexAny_long Go.Proofs.Tryd.lays153 (Go.zero_of_info h116).1 (Go.zero_of_info h116).2 ⟨l.toArray⟩ ⟨qrL.toArray⟩ w (by decide) (by rw [hs]; exact h8) (by rw [hs]; exact hl) (by decide) (fun j b hj => by
    have : ∀ b, b ∈ qrL → b.toNat < 128 := by decide
    exact this b (List.mem_of_getElem? (by simpa using hj))))) ?_
  rintro e w' ⟨rfl, rfl⟩
  refine ⟨(), ?_, ((hw.alloc _).tail.alloc _).tail⟩
  show Ending.returned (I (Lib.indexAny l qrL)) = _
  rw [show qrL = qrL0 from rfl, indexAny_qt]
theorem useSet_spec {n : Nat} {M : List HP} {F : List Fact} (h8 : n ≤ 8) : Ctr Tryd.prog 56 [I (n : Nat)] M F Unit (fun _ => .bool false) (fun _ => M) (fun _ => F) := by
  refine Ctr.body Tryd.func56 rfl rfl ?_
  refine TR.seq ?_
  refine TR.region ?_
  refine RL.assign rfl rfl rfl ?_
  refine RL.nil ?_
  refine NX.seq ?_
  refine TR.seq ?_
  refine TR.region ?_
  refine RL.move rfl rfl rfl ?_
  refine RL.bin rfl rfl rfl (BinV.to (d := false) BinV.gtr (decide_eq_false (by omega))) rfl ?_
  refine RL.assign rfl rfl rfl ?_
  refine RL.nil ?_
  refine NX.seq ?_
  refine TR.ret ?_
  exact NX.ret1 () rfl rfl rfl (fun w hw => hw)
theorem ixAny_short {l : List UInt8} {M : List HP} {F : List Fact} (h8 : l.length ≤ 8) : Ctr Tryd.prog 51 [S l, S qrL] M F Unit (fun _ => I (qtZ (qtI l))) (fun _ => M) (fun _ => F) := by
  refine Ctr.body Tryd.func51 rfl rfl ?_
  refine TR.seq ?_
  refine TR.region ?_
  refine RL.assign rfl rfl rfl ?_
  refine RL.nil ?_
  refine NX.seq ?_
  refine TR.seq ?_
  refine TR.seq ?_
  refine TR.region ?_
  refine RL.move rfl rfl rfl ?_
  refine RL.bin rfl rfl rfl (BinV.to (d := false) BinV.eqlS (decide_eq_false (by decide))) rfl ?_
  refine RL.nil ?_
  refine NX.seq ?_
  refine TR.condF rfl ?_
  refine TR.skip ?_
  refine NX.seq ?_
  refine TR.seq ?_
  refine TR.seq ?_
  refine TR.region ?_
  refine RL.move rfl rfl rfl ?_
  refine RL.lenStr rfl ne_tstr9 rfl rfl ?_
  refine RL.bin rfl rfl rfl (BinV.to (d := false) BinV.eql (decide_eq_false (by show ¬ ((2 : Nat) : Int) = 1; decide))) rfl ?_
  refine RL.nil ?_
  refine NX.seq ?_
  refine TR.condF rfl ?_
  refine TR.skip ?_
  refine NX.seq ?_
  refine TR.seq ?_
  refine TR.seq ?_
  refine TR.region ?_
  refine RL.move rfl rfl rfl ?_
  refine RL.lenStr rfl ne_tstr9 rfl rfl ?_
  refine RL.call rfl rfl Tryd.call56 rfl (useSet_spec h8) (fun _ => ?_)
  refine RL.nil ?_
  refine NX.seq ?_
  refine TR.condF rfl ?_
  refine TR.skip ?_
  refine NX.seq ?_
  refine TR.seq ?_
  refine TR.seq ?_
  refine TR.region ?_
  refine RL.move rfl rfl rfl ?_
  refine RL.ofGV rfl rfl (GV.rangeS ne_tstr9 rfl) (fun it => ?_)
  refine RL.nil ?_
  refine NX.seq ?_
  refine TR.block ?_
  refine TR.loopP (ι := Nat) (fun z => z ≤ l.length ∧ ∀ (j : Nat) c, j < z → l[j]? = some c → qtB c = false) (fun z => [(1, S qrL), (45, .pointer (some ⟨it, 0, none⟩))]) (fun z => Pts it (.stringIter ⟨l.toArray⟩ z) :: M) (fun z => F) (fun z => (l.length - z)) 0 ⟨Nat.zero_le _, fun j c h => absurd h (by omega)⟩ ⟨rfl, rfl, trivial⟩ (fun w hw => (hw.to 1 [0] 0 [] rfl)) (fun z hz => ?_)
  refine TR.seq ?_
  refine TR.region ?_
  rcases Nat.lt_or_ge z l.length with hk | hk
  · skip
    refine RL.ofGV rfl rfl (GV.nextOn 0 rfl rfl hk) (fun _ => ?_)
    refine RL.extract rfl rfl rfl rfl ?_
    refine RL.nil ?_
    refine NX.seq ?_
    refine TR.seq ?_
    refine TR.condT rfl ?_
    refine TR.skip ?_
    refine NX.seq ?_
    refine TR.block ?_
    refine TR.seq ?_
    obtain ⟨b, hb⟩ : ∃ b, l[z]? = some b := ⟨_, List.getElem?_eq_getElem hk⟩
    have hdq := dec_qt hb
    have hcl := charL_le (l := l.drop z) (by rw [List.length_drop]; omega)
    have hcp := (charL_pos (l.drop z)).1
    rw [List.length_drop] at hcl
    refine TR.region ?_
    refine RL.extract rfl rfl rfl rfl ?_
    refine RL.extract rfl rfl rfl rfl ?_
    refine RL.assign rfl rfl rfl ?_
    refine RL.assign rfl rfl rfl ?_
    refine RL.nil ?_
    refine NX.seq ?_
    refine TR.seq ?_
    refine TR.region ?_
    refine RL.move rfl rfl rfl ?_
    refine RL.move rfl rfl rfl ?_
    refine RL.call rfl rfl Tryd.call55 rfl (indexRune_spec (r := ((Utf8.decode ⟨l.toArray⟩ z).1 : Nat)) (by omega) (by have := (dec_char l z).2.2.2; omega)) (fun _ => ?_)
    refine RL.bin rfl rfl rfl BinV.geq rfl ?_
    refine RL.nil ?_
    refine NX.seq ?_
    refine TR.cond rfl (fun h1 => ?_) (fun h1 => ?_)
    · skip
      have hq : qtB b = true := by
        have h9 := of_decide_eq_true h1
        have h9 : 0 ≤ qrZ ((Utf8.decode ⟨l.toArray⟩ z).1 : Nat) := h9
        rw [qr_ge] at h9
        exact hdq.1 (by omega)
      refine TR.seq ?_
      refine TR.region ?_
      refine RL.move rfl rfl rfl ?_
      refine RL.assign rfl rfl rfl ?_
      refine RL.nil ?_
      refine NX.seq ?_
      refine TR.ret ?_
      refine NX.retBlock ?_
      refine NX.retThen ?_
      refine NX.retBlock ?_
      refine NX.retThen ?_
      exact NX.ret1 () rfl rfl (congrArg I (show ((z : Nat) : Int) = qtZ (qtI l) from by rw [qtI_hit hz.2 hb hq]; rfl)) (fun w hw => (hw.to 1 [] 0 [] rfl))
    · skip
      have hq : qtB b = false := by
        have h9 := of_decide_eq_false h1
        have h9 : ¬ 0 ≤ qrZ ((Utf8.decode ⟨l.toArray⟩ z).1 : Nat) := h9
        rw [qr_ge] at h9
        cases hq : qtB b with
        | false => rfl
        | true => exact absurd (hdq.2 hq) (by omega)
      refine TR.skip ?_
      refine NX.off ?_
      refine NX.roundP (z + (charL (l.drop z)).1) ⟨by omega, dec_skip hz.2 hb hq⟩ (by omega) ⟨rfl, rfl, trivial⟩ (fun w hw => (hw.to 1 [0] 0 [] rfl))
  · skip
    refine RL.ofGV rfl rfl (GV.nextEnd 0 rfl rfl (by omega)) (fun _ => ?_)
    refine RL.extract rfl rfl rfl rfl ?_
    refine RL.nil ?_
    refine NX.seq ?_
    refine TR.seq ?_
    refine TR.condF rfl ?_
    refine TR.exit ?_
    refine NX.exitThen ?_
    refine NX.exitThen ?_
    refine NX.exitHere ?_
    refine NX.seq ?_
    refine TR.seq ?_
    refine TR.region ?_
    refine RL.assign rfl rfl rfl ?_
    refine RL.nil ?_
    refine NX.seq ?_
    refine TR.ret ?_
    exact NX.ret1 () rfl rfl (congrArg I (show (-1 : Int) = qtZ (qtI l) from by rw [qtI_none (fun j c hc => hz.2 j c (by have := (List.getElem?_eq_some_iff.1 hc).1; omega) hc)]; rfl)) (fun w hw => (hw.to 1 [] 0 [] rfl))
theorem ixAny_spec {l : List UInt8} {M : List HP} {F : List Fact} (hl : l.length < 4294967281) : Ctr Tryd.prog 51 [S l, S qrL] M F Unit (fun _ => I (qtZ (qtI l))) (fun _ => M) (fun _ => F) := by
  rcases Nat.lt_or_ge 8 l.length with h | h
  · exact ixAny_long h hl
  · exact ixAny_short h
theorem quoted_spec {l : List UInt8} {M : List HP} {F : List Fact} (h1 : 1 ≤ l.length) (hl : l.length < 4294967281) : Ctr Tryd.prog 47 [S l] M F Unit (fun _ => I (quN l : Nat)) (fun _ => M) (fun _ => F) := by
  refine Ctr.body Tryd.func47 rfl rfl ?_
  refine TR.seq ?_
  refine TR.region ?_
  refine RL.assign rfl rfl rfl ?_
  refine RL.nil ?_
  refine NX.seq ?_
  refine TR.seq ?_
  refine TR.region ?_
  refine RL.move rfl rfl rfl ?_
  refine RL.sliceSfrom rfl ne_tstr9 rfl rfl (by omega) (by omega) rfl ?_
  refine RL.call rfl rfl Tryd.call51 rfl (ixAny_spec (l := l.drop (1 : Int).toNat) (by rw [List.length_drop]; omega)) (fun _ => ?_)
  refine RL.assign rfl rfl rfl ?_
  refine RL.nil ?_
  refine NX.seq ?_
  refine TR.seq ?_
  refine TR.seq ?_
  rw [show l.drop (1 : Int).toNat = l.drop 1 from rfl]
  refine TR.region ?_
  rcases hqi : qtI (l.drop 1) with _ | i
  · skip
    refine RL.move rfl rfl rfl ?_
    skip
    refine RL.bin rfl rfl rfl (BinV.to (d := true) BinV.lss (decide_eq_true (by decide))) rfl ?_
    refine RL.move rfl rfl rfl ?_
    refine RL.skip rfl rfl rfl ?_
    refine RL.skip rfl rfl rfl ?_
    refine RL.skip rfl rfl rfl ?_
    refine RL.skip rfl rfl rfl ?_
    refine RL.skip rfl rfl rfl ?_
    refine RL.pickT rfl rfl rfl rfl ?_
    refine RL.nil ?_
    refine NX.seq ?_
    refine TR.condT rfl ?_
    refine TR.seq ?_
    refine TR.region ?_
    refine RL.assign rfl rfl rfl ?_
    refine RL.nil ?_
    refine NX.seq ?_
    refine TR.ret ?_
    refine NX.retThen ?_
    exact NX.ret1 () rfl rfl (congrArg (fun n : Nat => I (n : Nat)) (show 0 = quN l from by unfold quN; rw [hqi])) (fun w hw => hw)
  · skip
    refine RL.move rfl rfl rfl ?_
    obtain ⟨bq, hb1, hb2⟩ := qtI_lt hqi
    have hil := (List.getElem?_eq_some_iff.1 hb1).1
    rw [List.length_drop] at hil
    have hgd : l[1 + i]? = some (l.getD (1 + i) 0) := by rw [List.getD_eq_getElem?_getD, List.getElem?_eq_getElem (by omega)]; rfl
    refine RL.bin rfl rfl rfl (BinV.to (d := false) BinV.lss (decide_eq_false (by show ¬ ((i : Nat) : Int) < 0; omega))) rfl ?_
    refine RL.move rfl rfl rfl ?_
    refine RL.move rfl rfl rfl ?_
    refine RL.move rfl rfl rfl ?_
    refine RL.bin rfl rfl rfl (BinV.add ((1 + i : Nat) : Int) (by show (1 + ((i : Nat) : Int)) = _; omega) (by omega) (by omega)) rfl ?_
    refine RL.indexS (u := l.getD (1 + i) 0) rfl ne_tstr9 rfl rfl (by omega) (by rw [Int.toNat_natCast]; exact hgd) rfl ?_
    refine RL.bin rfl rfl rfl BinV.eql rfl ?_
    refine RL.pickF rfl rfl rfl rfl ?_
    refine RL.nil ?_
    refine NX.seq ?_
    refine TR.cond rfl (fun h1 => ?_) (fun h1 => ?_)
    · skip
      have h10 : l.getD (1 + i) 0 = 10 := UInt8.toNat_inj.1 (by have h9 := of_decide_eq_true h1; show _ = 10; omega)
      refine TR.seq ?_
      refine TR.region ?_
      refine RL.assign rfl rfl rfl ?_
      refine RL.nil ?_
      refine NX.seq ?_
      refine TR.ret ?_
      refine NX.retThen ?_
      exact NX.ret1 () rfl rfl (congrArg (fun n : Nat => I (n : Nat)) (show 0 = quN l from by unfold quN; rw [hqi]; show _ = if _ then _ else _; rw [if_pos h10])) (fun w hw => hw)
    · skip
      have h10 : ¬ l.getD (1 + i) 0 = 10 := fun e => by have h9 := of_decide_eq_false h1; rw [e] at h9; exact h9 rfl
      refine TR.skip ?_
      refine NX.seq ?_
      refine TR.seq ?_
      refine TR.region ?_
      refine RL.move rfl rfl rfl ?_
      refine RL.bin rfl rfl rfl (BinV.add ((i + 2 : Nat) : Int) (by show ((i : Nat) : Int) + 2 = _; omega) (by omega) (by omega)) rfl ?_
      refine RL.assign rfl rfl rfl ?_
      refine RL.nil ?_
      refine NX.seq ?_
      refine TR.ret ?_
      exact NX.ret1 () rfl rfl (congrArg (fun n : Nat => I (n : Nat)) (show i + 2 = quN l from by unfold quN; rw [hqi]; show _ = if _ then _ else _; rw [if_neg h10])) (fun w hw => hw)
end Go.Proofs.YtnolpmigiboanaaDoor

namespace Go.Proofs.YtnolpmigiboanaaDoor
open Go.GL
set_option linter.unusedVariables false
theorem nf_tstr9 : tyStr Tryd.prog 9 = true := by kernel_rfl
theorem good_spec {l : List UInt8} {M : List HP} {F : List Fact} (hne : 1 ≤ l.length) (hl : l.length < 4294967281) (hkw : CellsF 0 0 (stC kwL) ∈ F) (hsy : CellsF 1 0 (stC syL) ∈ F) : Ctr Tryd.prog 35 [S l] M F Unit (fun _ => .tuple #[I ((gdN Op.bytesLess l).1 : Nat), I ((gdN Op.bytesLess l).2 : Nat)]) (fun _ => M) (fun _ => F) := by
  refine Ctr.body Tryd.func35 rfl rfl ?_
  refine TR.seq ?_
  obtain ⟨c, l1, rfl⟩ : ∃ c l1, l = c :: l1 := by
    cases l with
    | nil => exact absurd hne (by decide)
    | cons c l1 => exact ⟨c, l1, rfl⟩
  refine TR.region ?_
  refine RL.assign rfl rfl rfl ?_
  refine RL.assign rfl rfl rfl ?_
  refine RL.nil ?_
  refine NX.seq ?_
  refine TR.seq ?_
  refine TR.region ?_
  refine RL.move rfl rfl rfl ?_
  refine RL.indexS (u := c) rfl nf_tstr9 rfl rfl (by decide) rfl rfl ?_
  refine RL.assign rfl rfl rfl ?_
  refine RL.nil ?_
  refine NX.seq ?_
  refine TR.seq ?_
  refine TR.block ?_
  refine TR.seq ?_
  refine TR.region ?_
  refine RL.move rfl rfl rfl ?_
  refine RL.call rfl rfl Tryd.call40 rfl (space_spec (c := c)) (fun _ => ?_)
  refine RL.assign rfl rfl rfl ?_
  refine RL.nil ?_
  refine NX.seq ?_
  refine TR.cond rfl (fun h1 => ?_) (fun h1 => ?_)
  · skip
    have hs := h1
    refine TR.seq ?_
    refine TR.region ?_
    refine RL.move rfl rfl rfl ?_
    refine RL.call rfl rfl Tryd.call36 rfl (run_spec (l := (c :: l1)) (cl := spB) cls_space (by omega)) (fun _ => ?_)
    refine RL.assign rfl rfl rfl ?_
    refine RL.assign rfl rfl rfl ?_
    refine RL.nil ?_
    refine NX.seq ?_
    refine TR.ret ?_
    refine NX.retBlock ?_
    refine NX.retThen ?_
    have hg : gdN Op.bytesLess (c :: l1) = (0, rnN spB (c :: l1)) := by
      show (if _ then _ else _ : Nat × Nat) = _
      rw [if_pos hs]
    exact NX.ret2 () rfl rfl rfl (by rw [hg]; rfl) (fun w hw => hw)
  · skip
    have hs := h1
    have hsn : ¬ spB c = true := by rw [hs]; decide
    refine TR.seq ?_
    refine TR.region ?_
    refine RL.move rfl rfl rfl ?_
    refine RL.bin rfl rfl rfl BinV.eql rfl ?_
    refine RL.assign rfl rfl rfl ?_
    refine RL.nil ?_
    refine NX.seq ?_
    refine TR.cond rfl (fun h2 => ?_) (fun h2 => ?_)
    · skip
      have h35 : c.toNat = 35 := by have := of_decide_eq_true h2; omega
      refine TR.seq ?_
      refine TR.region ?_
      refine RL.move rfl rfl rfl ?_
      refine RL.call rfl rfl Tryd.call36 rfl (run_spec (l := (c :: l1)) (cl := lnB) cls_line (by omega)) (fun _ => ?_)
      refine RL.assign rfl rfl rfl ?_
      refine RL.assign rfl rfl rfl ?_
      refine RL.nil ?_
      refine NX.seq ?_
      refine TR.ret ?_
      refine NX.retBlock ?_
      refine NX.retThen ?_
      have hg : gdN Op.bytesLess (c :: l1) = (1, rnN lnB (c :: l1)) := by
        show (if _ then _ else _ : Nat × Nat) = _
        rw [if_neg hsn, if_pos h35]
      exact NX.ret2 () rfl rfl rfl (by rw [hg]; rfl) (fun w hw => hw)
    · skip
      have h35 : ¬ c.toNat = 35 := by have := of_decide_eq_false h2; omega
      refine TR.seq ?_
      refine TR.region ?_
      refine RL.move rfl rfl rfl ?_
      refine RL.call rfl rfl Tryd.call41 rfl (lower_spec (c := c)) (fun _ => ?_)
      refine RL.assign rfl rfl rfl ?_
      refine RL.nil ?_
      refine NX.seq ?_
      refine TR.cond rfl (fun h3 => ?_) (fun h3 => ?_)
      · skip
        have hlo := h3
        refine TR.seq ?_
        refine TR.region ?_
        refine RL.move rfl rfl rfl ?_
        refine RL.call rfl rfl Tryd.call36 rfl (run_spec (l := (c :: l1)) (cl := woB) cls_word (by omega)) (fun _ => ?_)
        refine RL.assign rfl rfl rfl ?_
        refine RL.nil ?_
        refine NX.seq ?_
        refine TR.seq ?_
        refine TR.seq ?_
        refine TR.region ?_
        refine RL.move rfl rfl rfl ?_
        refine RL.move rfl rfl rfl ?_
        refine RL.sliceSto rfl nf_tstr9 rfl rfl (by omega) (by have := rnN_le woB (c :: l1); omega) rfl ?_
        refine RL.call rfl rfl Tryd.call43 rfl (isKw_spec (s := (c :: l1).take (((rnN woB (c :: l1) : Nat) : Int)).toNat) hkw) (fun _ => ?_)
        refine RL.nil ?_
        refine NX.seq ?_
        refine TR.cond rfl (fun h4 => ?_) (fun h4 => ?_)
        · skip
          have hk : kwB Op.bytesLess ((c :: l1).take (rnN woB (c :: l1))) = true := by have h9 := h4; rw [Int.toNat_natCast] at h9; exact h9
          refine TR.seq ?_
          refine TR.region ?_
          refine RL.move rfl rfl rfl ?_
          refine RL.assign rfl rfl rfl ?_
          refine RL.assign rfl rfl rfl ?_
          refine RL.nil ?_
          refine NX.seq ?_
          refine TR.ret ?_
          refine NX.retThen ?_
          refine NX.retBlock ?_
          refine NX.retThen ?_
          have hg : gdN Op.bytesLess (c :: l1) = (7, rnN woB (c :: l1)) := by
            show (if _ then _ else _ : Nat × Nat) = _
            rw [if_neg hsn, if_neg h35, if_pos hlo, if_pos hk]
          exact NX.ret2 () rfl rfl rfl (by rw [hg]; rfl) (fun w hw => hw)
        · skip
          have hk : ¬ kwB Op.bytesLess ((c :: l1).take (rnN woB (c :: l1))) = true := by have h9 := h4; rw [Int.toNat_natCast] at h9; rw [h9]; decide
          refine TR.skip ?_
          refine NX.seq ?_
          refine TR.seq ?_
          refine TR.region ?_
          refine RL.move rfl rfl rfl ?_
          refine RL.assign rfl rfl rfl ?_
          refine RL.assign rfl rfl rfl ?_
          refine RL.nil ?_
          refine NX.seq ?_
          refine TR.ret ?_
          refine NX.retBlock ?_
          refine NX.retThen ?_
          have hg : gdN Op.bytesLess (c :: l1) = (2, rnN woB (c :: l1)) := by
            show (if _ then _ else _ : Nat × Nat) = _
            rw [if_neg hsn, if_neg h35, if_pos hlo, if_neg hk]
          exact NX.ret2 () rfl rfl rfl (by rw [hg]; rfl) (fun w hw => hw)
      · skip
        have hlo := h3
        have hlon : ¬ loB c = true := by rw [hlo]; decide
        refine TR.seq ?_
        refine TR.region ?_
        refine RL.move rfl rfl rfl ?_
        refine RL.call rfl rfl Tryd.call44 rfl (upper_spec (c := c)) (fun _ => ?_)
        refine RL.assign rfl rfl rfl ?_
        refine RL.nil ?_
        refine NX.seq ?_
        refine TR.cond rfl (fun h5 => ?_) (fun h5 => ?_)
        · skip
          have hup := h5
          refine TR.seq ?_
          refine TR.region ?_
          refine RL.move rfl rfl rfl ?_
          refine RL.call rfl rfl Tryd.call36 rfl (run_spec (l := (c :: l1)) (cl := naB) cls_name (by omega)) (fun _ => ?_)
          refine RL.assign rfl rfl rfl ?_
          refine RL.assign rfl rfl rfl ?_
          refine RL.nil ?_
          refine NX.seq ?_
          refine TR.ret ?_
          refine NX.retBlock ?_
          refine NX.retThen ?_
          have hg : gdN Op.bytesLess (c :: l1) = (3, rnN naB (c :: l1)) := by
            show (if _ then _ else _ : Nat × Nat) = _
            rw [if_neg hsn, if_neg h35, if_neg hlon, if_pos hup]
          exact NX.ret2 () rfl rfl rfl (by rw [hg]; rfl) (fun w hw => hw)
        · skip
          have hup := h5
          have hupn : ¬ upB c = true := by rw [hup]; decide
          refine TR.seq ?_
          refine TR.region ?_
          refine RL.move rfl rfl rfl ?_
          refine RL.call rfl rfl Tryd.call46 rfl (digit_spec (c := c)) (fun _ => ?_)
          refine RL.assign rfl rfl rfl ?_
          refine RL.nil ?_
          refine NX.seq ?_
          refine TR.cond rfl (fun h6 => ?_) (fun h6 => ?_)
          · skip
            have hdg := h6
            refine TR.seq ?_
            refine TR.region ?_
            refine RL.move rfl rfl rfl ?_
            refine RL.call rfl rfl Tryd.call36 rfl (run_spec (l := (c :: l1)) (cl := dgB) cls_digit (by omega)) (fun _ => ?_)
            refine RL.assign rfl rfl rfl ?_
            refine RL.assign rfl rfl rfl ?_
            refine RL.nil ?_
            refine NX.seq ?_
            refine TR.ret ?_
            refine NX.retBlock ?_
            refine NX.retThen ?_
            have hg : gdN Op.bytesLess (c :: l1) = (4, rnN dgB (c :: l1)) := by
              show (if _ then _ else _ : Nat × Nat) = _
              rw [if_neg hsn, if_neg h35, if_neg hlon, if_neg hupn, if_pos hdg]
            exact NX.ret2 () rfl rfl rfl (by rw [hg]; rfl) (fun w hw => hw)
          · skip
            have hdg := h6
            have hdgn : ¬ dgB c = true := by rw [hdg]; decide
            refine TR.seq ?_
            refine TR.region ?_
            refine RL.move rfl rfl rfl ?_
            refine RL.bin rfl rfl rfl BinV.eql rfl ?_
            refine RL.assign rfl rfl rfl ?_
            refine RL.nil ?_
            refine NX.seq ?_
            refine TR.cond rfl (fun h7 => ?_) (fun h7 => ?_)
            · skip
              have h34 : c.toNat = 34 := by have := of_decide_eq_true h7; omega
              refine TR.seq ?_
              refine TR.region ?_
              refine RL.move rfl rfl rfl ?_
              refine RL.call rfl rfl Tryd.call47 rfl (quoted_spec (l := (c :: l1)) (by rw [List.length_cons]; omega) (by omega)) (fun _ => ?_)
              refine RL.assign rfl rfl rfl ?_
              refine RL.assign rfl rfl rfl ?_
              refine RL.nil ?_
              refine NX.seq ?_
              refine TR.ret ?_
              refine NX.retBlock ?_
              refine NX.retThen ?_
              have hg : gdN Op.bytesLess (c :: l1) = (5, quN (c :: l1)) := by
                show (if _ then _ else _ : Nat × Nat) = _
                rw [if_neg hsn, if_neg h35, if_neg hlon, if_neg hupn, if_neg hdgn, if_pos h34]
              exact NX.ret2 () rfl rfl rfl (by rw [hg]; rfl) (fun w hw => hw)
            · skip
              have h34 : ¬ c.toNat = 34 := by have := of_decide_eq_false h7; omega
              refine TR.skip ?_
              refine NX.off ?_
              refine NX.seq ?_
              refine TR.seq ?_
              refine TR.region ?_
              refine RL.move rfl rfl rfl ?_
              refine RL.call rfl rfl Tryd.call48 rfl (symbol_spec (l := (c :: l1)) hsy) (fun _ => ?_)
              refine RL.assign rfl rfl rfl ?_
              refine RL.assign rfl rfl rfl ?_
              refine RL.nil ?_
              refine NX.seq ?_
              refine TR.ret ?_
              have hg : gdN Op.bytesLess (c :: l1) = (6, syN (c :: l1) syL) := by
                show (if _ then _ else _ : Nat × Nat) = _
                rw [if_neg hsn, if_neg h35, if_neg hlon, if_neg hupn, if_neg hdgn, if_neg h34]
              exact NX.ret2 () rfl rfl rfl (by rw [hg]; rfl) (fun w hw => hw)
theorem bdN_stop {lt : List UInt8 → List UInt8 → Bool} {s : List UInt8} {f z : Nat} (h : ¬ (z < s.length ∧ s.getD z 0 ≠ 34)) : bdN lt s f z = z := by
  cases f with
  | zero => rfl
  | succ f => rw [bdN, if_neg h]
theorem bdN_go {lt : List UInt8 → List UInt8 → Bool} {s : List UInt8} {f z : Nat} (h : z < s.length ∧ s.getD z 0 ≠ 34) : bdN lt s (f + 1) z = if 0 < (gdN lt (s.drop z)).2 then z else bdN lt s f (z + 1) := by rw [bdN, if_pos h]
theorem getD_is {l : List UInt8} {i : Nat} {b : UInt8} (h : l[i]? = some b) : l.getD i 0 = b := by rw [List.getD_eq_getElem?_getD, h]; rfl
theorem next_spec {l : List UInt8} {M : List HP} {F : List Fact} (hne : 1 ≤ l.length) (hl : l.length < 4294967281) (hkw : CellsF 0 0 (stC kwL) ∈ F) (hsy : CellsF 1 0 (stC syL) ∈ F) : Ctr Tryd.prog 29 [S l] M F Unit (fun _ => .tuple #[I ((nxN Op.bytesLess l).1 : Nat), I ((nxN Op.bytesLess l).2 : Nat)]) (fun _ => M) (fun _ => F) := by
  refine Ctr.body Tryd.func29 rfl rfl ?_
  refine TR.seq ?_
  obtain ⟨c, hc⟩ : ∃ c, l[(0 : Int).toNat]? = some c := ⟨_, List.getElem?_eq_getElem (by show 0 < l.length; omega)⟩
  have hc0 := getD_is hc
  have hgl := gdN_le Op.bytesLess l
  refine TR.region ?_
  refine RL.assign rfl rfl rfl ?_
  refine RL.assign rfl rfl rfl ?_
  refine RL.nil ?_
  refine NX.seq ?_
  refine TR.seq ?_
  refine TR.region ?_
  refine RL.move rfl rfl rfl ?_
  refine RL.call rfl rfl Tryd.call35 rfl (good_spec (l := l) hne hl hkw hsy) (fun _ => ?_)
  refine RL.move rfl rfl rfl ?_
  refine RL.extract rfl rfl rfl rfl ?_
  refine RL.extract rfl rfl rfl rfl ?_
  refine RL.assign rfl rfl rfl ?_
  refine RL.assign rfl rfl rfl ?_
  refine RL.nil ?_
  refine NX.seq ?_
  refine TR.seq ?_
  refine TR.seq ?_
  refine TR.region ?_
  refine RL.move rfl rfl rfl ?_
  refine RL.bin rfl rfl rfl BinV.gtr rfl ?_
  refine RL.nil ?_
  refine NX.seq ?_
  refine TR.cond rfl (fun h1 => ?_) (fun h1 => ?_)
  · skip
    have hg0 : 0 < (gdN Op.bytesLess l).2 := by have := of_decide_eq_true h1; omega
    refine TR.seq ?_
    refine TR.region ?_
    refine RL.move rfl rfl rfl ?_
    refine RL.move rfl rfl rfl ?_
    refine RL.assign rfl rfl rfl ?_
    refine RL.assign rfl rfl rfl ?_
    refine RL.nil ?_
    refine NX.seq ?_
    refine TR.ret ?_
    refine NX.retThen ?_
    exact NX.ret2 () rfl rfl rfl (by rw [show nxN Op.bytesLess l = gdN Op.bytesLess l from if_pos hg0]; rfl) (fun w hw => hw)
  · skip
    have hg0 : ¬ 0 < (gdN Op.bytesLess l).2 := by have := of_decide_eq_false h1; omega
    refine TR.skip ?_
    refine NX.seq ?_
    refine TR.seq ?_
    refine TR.seq ?_
    refine TR.region ?_
    refine RL.move rfl rfl rfl ?_
    refine RL.indexS (u := c) rfl nf_tstr9 rfl rfl (by decide) hc rfl ?_
    refine RL.bin rfl rfl rfl BinV.eql rfl ?_
    refine RL.nil ?_
    refine NX.seq ?_
    refine TR.cond rfl (fun h2 => ?_) (fun h2 => ?_)
    · skip
      have hq : l.getD 0 0 = 34 := by have h9 := of_decide_eq_true h2; exact hc0.trans (UInt8.toNat_inj.1 (by show _ = 34; omega))
      refine TR.seq ?_
      refine TR.region ?_
      refine RL.move rfl rfl rfl ?_
      refine RL.call rfl rfl Tryd.call36 rfl (run_spec (l := l) (cl := lnB) cls_line (by omega)) (fun _ => ?_)
      refine RL.assign rfl rfl rfl ?_
      refine RL.assign rfl rfl rfl ?_
      refine RL.nil ?_
      refine NX.seq ?_
      refine TR.ret ?_
      refine NX.retThen ?_
      exact NX.ret2 () rfl rfl rfl (by rw [show nxN Op.bytesLess l = (8, rnN lnB l) from by unfold nxN; rw [if_neg hg0, if_pos hq]]; rfl) (fun w hw => hw)
    · skip
      have hq : ¬ l.getD 0 0 = 34 := fun e => by have h9 := of_decide_eq_false h2; have h8 : c = 34 := hc0.symm.trans e; rw [h8] at h9; exact h9 rfl
      refine TR.skip ?_
      refine NX.seq ?_
      refine TR.seq ?_
      refine TR.seq ?_
      refine TR.region ?_
      refine RL.assign rfl rfl rfl ?_
      refine RL.nil ?_
      refine NX.seq ?_
      refine TR.block ?_
      refine TR.loopP (ι := (Nat × Nat)) (fun z => 1 ≤ z.2 ∧ z.2 ≤ l.length ∧ z.1 + z.2 = l.length + 1 ∧ bdN Op.bytesLess l z.1 z.2 = bdN Op.bytesLess l l.length 1) (fun z => [(0, S l), (5, I (z.2 : Nat))]) (fun z => M) (fun z => F) (fun z => (l.length - z.2)) (l.length, 1) ⟨Nat.le_refl _, hne, rfl, rfl⟩ ⟨rfl, rfl, trivial⟩ (fun w hw => (hw.to 0 [] 0 [] rfl)) (fun z hz => ?_)
      refine TR.seq ?_
      refine TR.seq ?_
      refine TR.region ?_
      refine RL.move rfl rfl rfl ?_
      refine RL.move rfl rfl rfl ?_
      refine RL.lenStr rfl nf_tstr9 rfl rfl ?_
      refine RL.bin rfl rfl rfl BinV.lss rfl ?_
      refine RL.move rfl rfl rfl ?_
      refine RL.part (fun h3 => ?_) (fun h3 => ?_)
      · skip
        have hzl : z.2 < l.length := by have := of_decide_eq_true h3; omega
        obtain ⟨b, hb⟩ : ∃ b, l[z.2]? = some b := ⟨_, List.getElem?_eq_getElem hzl⟩
        have hb0 := getD_is hb
        refine RL.move rfl rfl rfl ?_
        refine RL.move rfl rfl rfl ?_
        refine RL.indexS (u := b) rfl nf_tstr9 rfl rfl (by omega) (by rw [Int.toNat_natCast]; exact hb) rfl ?_
        refine RL.bin rfl rfl rfl BinV.neq rfl ?_
        refine RL.pickT rfl rfl rfl rfl ?_
        refine RL.nil ?_
        refine NX.seq ?_
        refine TR.cond rfl (fun h4 => ?_) (fun h4 => ?_)
        · skip
          have hz34 : l.getD z.2 0 ≠ 34 := fun e => by have h9 := of_decide_eq_true h4; have h8 : b = 34 := hb0.symm.trans e; rw [h8] at h9; exact h9 rfl
          refine TR.skip ?_
          refine NX.seq ?_
          refine TR.seq ?_
          refine TR.block ?_
          refine TR.seq ?_
          refine TR.region ?_
          refine RL.move rfl rfl rfl ?_
          refine RL.move rfl rfl rfl ?_
          refine RL.sliceSfrom rfl nf_tstr9 rfl rfl (by omega) (by omega) rfl ?_
          refine RL.call rfl rfl Tryd.call35 rfl (good_spec (l := l.drop (((z.2 : Nat) : Int)).toNat) (by rw [Int.toNat_natCast, List.length_drop]; omega) (by rw [List.length_drop]; omega) hkw hsy) (fun _ => ?_)
          refine RL.move rfl rfl rfl ?_
          refine RL.extract rfl rfl rfl rfl ?_
          refine RL.extract rfl rfl rfl rfl ?_
          refine RL.assign rfl rfl rfl ?_
          refine RL.assign rfl rfl rfl ?_
          refine RL.nil ?_
          refine NX.seq ?_
          refine TR.seq ?_
          refine TR.region ?_
          refine RL.move rfl rfl rfl ?_
          refine RL.bin rfl rfl rfl BinV.gtr rfl ?_
          refine RL.nil ?_
          refine NX.seq ?_
          refine TR.cond rfl (fun h5 => ?_) (fun h5 => ?_)
          · skip
            have hgk : 0 < (gdN Op.bytesLess (l.drop z.2)).2 := by have h9 := of_decide_eq_true h5; rw [Int.toNat_natCast] at h9; omega
            refine TR.exit ?_
            refine NX.exitOn rfl ?_
            refine NX.exitThen ?_
            refine NX.exitThen ?_
            refine NX.exitHere ?_
            refine NX.seq ?_
            refine TR.seq ?_
            refine TR.region ?_
            refine RL.move rfl rfl rfl ?_
            refine RL.assign rfl rfl rfl ?_
            refine RL.assign rfl rfl rfl ?_
            refine RL.nil ?_
            refine NX.seq ?_
            refine TR.ret ?_
            have hbd := bdN_go (lt := Op.bytesLess) (s := l) (f := z.1 - 1) (z := z.2) ⟨hzl, hz34⟩
            rw [show z.1 - 1 + 1 = z.1 from by omega, if_pos hgk, hz.2.2.2] at hbd
            exact NX.ret2 () rfl rfl rfl (by rw [show nxN Op.bytesLess l = (8, bdN Op.bytesLess l l.length 1) from by unfold nxN; rw [if_neg hg0, if_neg hq], hbd]; rfl) (fun w hw => hw)
          · skip
            have hgk : ¬ 0 < (gdN Op.bytesLess (l.drop z.2)).2 := by have h9 := of_decide_eq_false h5; rw [Int.toNat_natCast] at h9; omega
            refine TR.skip ?_
            refine NX.off ?_
            refine NX.seq ?_
            refine TR.region ?_
            refine RL.move rfl rfl rfl ?_
            refine RL.bin rfl rfl rfl (BinV.add ((z.2 + 1 : Nat) : Int) (by omega) (by omega) (by omega)) rfl ?_
            refine RL.assign rfl rfl rfl ?_
            refine RL.nil ?_
            have hbg := bdN_go (lt := Op.bytesLess) (s := l) (f := z.1 - 1) (z := z.2) ⟨hzl, hz34⟩
            rw [show z.1 - 1 + 1 = z.1 from by omega, if_neg hgk] at hbg
            refine NX.roundP (z.1 - 1, z.2 + 1) ⟨by show 1 ≤ z.2 + 1; omega, by show z.2 + 1 ≤ _; omega, by show z.1 - 1 + (z.2 + 1) = _; omega, hbg.symm.trans hz.2.2.2⟩ (by show l.length - (z.2 + 1) < l.length - z.2; omega) ⟨rfl, rfl, trivial⟩ (fun w hw => (hw.to 0 [] 0 [] rfl))
        · skip
          have hz34 : l.getD z.2 0 = 34 := by have h9 := of_decide_eq_false h4; exact hb0.trans (UInt8.toNat_inj.1 (by show _ = 34; omega))
          refine TR.exit ?_
          refine NX.exitThen ?_
          refine NX.exitThen ?_
          refine NX.exitHere ?_
          refine NX.seq ?_
          refine TR.seq ?_
          refine TR.region ?_
          refine RL.move rfl rfl rfl ?_
          refine RL.assign rfl rfl rfl ?_
          refine RL.assign rfl rfl rfl ?_
          refine RL.nil ?_
          refine NX.seq ?_
          refine TR.ret ?_
          have hbd := bdN_stop (lt := Op.bytesLess) (s := l) (f := z.1) (z := z.2) (fun e => e.2 hz34)
          rw [hz.2.2.2] at hbd
          exact NX.ret2 () rfl rfl rfl (by rw [show nxN Op.bytesLess l = (8, bdN Op.bytesLess l l.length 1) from by unfold nxN; rw [if_neg hg0, if_neg hq], hbd]; rfl) (fun w hw => hw)
      · skip
        have hzl : ¬ z.2 < l.length := by have := of_decide_eq_false h3; omega
        refine RL.skip rfl rfl rfl ?_
        refine RL.skip rfl rfl rfl ?_
        refine RL.skip rfl rfl rfl ?_
        refine RL.skip rfl rfl rfl ?_
        refine RL.pickF rfl rfl rfl rfl ?_
        refine RL.nil ?_
        refine NX.seq ?_
        refine TR.condF rfl ?_
        refine TR.exit ?_
        refine NX.exitThen ?_
        refine NX.exitThen ?_
        refine NX.exitHere ?_
        refine NX.seq ?_
        refine TR.seq ?_
        refine TR.region ?_
        refine RL.move rfl rfl rfl ?_
        refine RL.assign rfl rfl rfl ?_
        refine RL.assign rfl rfl rfl ?_
        refine RL.nil ?_
        refine NX.seq ?_
        refine TR.ret ?_
        have hbd := bdN_stop (lt := Op.bytesLess) (s := l) (f := z.1) (z := z.2) (fun e => hzl e.1)
        rw [hz.2.2.2] at hbd
        exact NX.ret2 () rfl rfl rfl (by rw [show nxN Op.bytesLess l = (8, bdN Op.bytesLess l l.length 1) from by unfold nxN; rw [if_neg hg0, if_neg hq], hbd]; rfl) (fun w hw => hw)
end Go.Proofs.YtnolpmigiboanaaDoor

namespace Go.Proofs.YtnolpmigiboanaaDoor
open Go.GL
set_option linter.unusedVariables false
theorem ng_bs26_1_0 (x00 : Int) (x01 : List UInt8) (x02 : Int) : BuildSV Tryd.prog 26 42 1 [(0, .agg #[.int .i64 x00, S x01, .int .i64 x02])] [.int .i64 x00, S x01, .int .i64 x02] := fun w => by kernel_rfl
theorem ng_bv42_0_1_2 (x0 : Int) (x1 : List UInt8) (x2 : Int) : BuildV Tryd.prog 42 [(0, .int .i64 x0), (1, S x1), (2, .int .i64 x2)] (.agg #[.int .i64 x0, S x1, .int .i64 x2]) := fun w => by kernel_rfl
theorem ng_ni26 : noInt Tryd.prog 26 = true := by kernel_rfl
theorem ng_ta42 : tyAgg Tryd.prog 42 3 = true := by kernel_rfl
theorem ng_te42 : tyElem Tryd.prog 42 3 32 = true := by kernel_rfl
theorem ng_tl26 : tySlice Tryd.prog 26 42 = true := by kernel_rfl
theorem ng_ts26 : tyScalar Tryd.prog 26 = true := by kernel_rfl
theorem ng_ts9 : tyScalar Tryd.prog 9 = true := by kernel_rfl
theorem ng_tstr9 : tyStr Tryd.prog 9 = true := by kernel_rfl
theorem ng_tz42 : tySize Tryd.prog 42 3 = true := by kernel_rfl
def tkEnc : Tk → List Value → Prop := fun t args => args = [.agg #[I (t.k : Nat), S t.x, I (t.at_ : Nat)]]
theorem tkEnc_len (t : Tk) (args : List Value) (h : tkEnc t args) : args.length = 1 := by rw [h]; rfl
theorem tkC_snoc (l : List Tk) (t : Tk) : tkC (l ++ [t]) = tkC l ++ [I (t.k : Nat), S t.x, I (t.at_ : Nat)] := by
  induction l with
  | nil => rfl
  | cons a l ih => rw [List.cons_append, tkC, ih]; rfl
theorem tkF_go {lt : List UInt8 → List UInt8 → Bool} {s : List UInt8} {f p : Nat} (h : p < s.length) (hf : 0 < f) : tkF lt s f p = ⟨(nxN lt (s.drop p)).1, (s.drop p).take (nxN lt (s.drop p)).2, p⟩ :: tkF lt s (f - 1) (p + (nxN lt (s.drop p)).2) := by
  obtain ⟨g, rfl⟩ : ∃ g, f = g + 1 := ⟨f - 1, by omega⟩
  rw [tkF, if_pos h]; rfl
theorem tkF_end {lt : List UInt8 → List UInt8 → Bool} {s : List UInt8} {f p : Nat} (h : ¬ p < s.length) : tkF lt s f p = [] := by
  cases f with
  | zero => rfl
  | succ f => rw [tkF, if_neg h]
theorem lexAll_spec {l : List UInt8} {M : List HP} {F : List Fact} : Ctr Tryd.prog 13 [S l] M F Nat (fun b => .func (.func 28) #[] #[.pointer (some ⟨b, 0, none⟩)]) (fun _ => M) (fun b => CellsF b 0 [S l] :: F) := by
  refine Ctr.body Tryd.func13 rfl rfl ?_
  refine TR.seq ?_
  refine TR.region ?_
  refine RL.box1 rfl rfl rfl rfl (fun b1 => ?_)
  refine RL.assign rfl rfl rfl ?_
  refine RL.nil ?_
  refine NX.seq ?_
  refine TR.seq ?_
  refine TR.region ?_
  refine RL.makeFunc rfl rfl rfl rfl ?_
  refine RL.assign rfl rfl rfl ?_
  refine RL.nil ?_
  refine NX.seq ?_
  refine TR.ret ?_
  exact NX.ret1 b1 rfl rfl rfl (fun w hw => hw.keep)
theorem lexAll_iter {l : List UInt8} {d : Nat} {F : List Fact} (hb : CellsF d 0 [S l] ∈ F) (hl : l.length < 4294967281) (hkw : CellsF 0 0 (stC kwL) ∈ F) (hsy : CellsF 1 0 (stC syL) ∈ F) : IterC Tryd.prog 28 [.pointer (some ⟨d, 0, none⟩)] tkEnc (tks Op.bytesLess l) F := by
  intro ly J hY Mi G hG
  refine Ctr.body Tryd.func28 rfl rfl ?_
  refine TR.seq ?_
  refine TR.region ?_
  refine RL.assign rfl rfl rfl ?_
  refine RL.nil ?_
  refine NX.seq ?_
  refine TR.block ?_
  refine TR.loopP (ι := (List Tk × Nat × Nat)) (fun z => tks Op.bytesLess l = z.1 ++ tkF Op.bytesLess l z.2.1 z.2.2 ∧ l.length - z.2.2 ≤ z.2.1 ∧ z.2.2 ≤ l.length) (fun z => [(0, .func (.yield ly) #[] #[]), (1, .pointer (some ⟨d, 0, none⟩)), (3, I (z.2.2 : Nat))]) (fun z => J z.1 ++ Mi) (fun _ => G) (fun z => l.length - z.2.2) ([], l.length, 0) ⟨rfl, Nat.le_refl _, Nat.zero_le _⟩ ⟨rfl, rfl, rfl, trivial⟩ (fun w hw => hw) (fun z hz => ?_)
  refine TR.seq ?_
  refine TR.seq ?_
  refine TR.region ?_
  refine RL.move rfl rfl rfl ?_
  refine RL.loadF rfl rfl (fun w K hF => run_loadCell1 (j := 0) (hF (CellsF d 0 [S l]) (hG _ hb)) ng_ts9 rfl) rfl ?_
  refine RL.lenStr rfl ng_tstr9 rfl rfl ?_
  refine RL.bin rfl rfl rfl BinV.lss rfl ?_
  refine RL.nil ?_
  refine NX.seq ?_
  refine TR.cond rfl (fun h1 => ?_) (fun h1 => ?_)
  · skip
    have hp : z.2.2 < l.length := by have := of_decide_eq_true h1; omega
    have hnx := nxN_ok Op.bytesLess (s := l.drop z.2.2) (by rw [List.length_drop]; omega)
    refine TR.skip ?_
    refine NX.seq ?_
    refine TR.block ?_
    refine TR.seq ?_
    refine TR.region ?_
    refine RL.loadF rfl rfl (fun w K hF => run_loadCell1 (j := 0) (hF (CellsF d 0 [S l]) (hG _ hb)) ng_ts9 rfl) rfl ?_
    refine RL.move rfl rfl rfl ?_
    refine RL.sliceSfrom rfl ng_tstr9 rfl rfl (by omega) (by omega) rfl ?_
    refine RL.call rfl rfl Tryd.call29 rfl (next_spec (l := l.drop (((z.2.2 : Nat) : Int)).toNat) (by rw [Int.toNat_natCast, List.length_drop]; omega) (by rw [List.length_drop]; omega) (hG _ hkw) (hG _ hsy)) (fun _ => ?_)
    refine RL.move rfl rfl rfl ?_
    refine RL.extract rfl rfl rfl rfl ?_
    refine RL.extract rfl rfl rfl rfl ?_
    refine RL.assign rfl rfl rfl ?_
    refine RL.assign rfl rfl rfl ?_
    refine RL.nil ?_
    refine NX.seq ?_
    refine TR.seq ?_
    refine TR.seq ?_
    rw [Int.toNat_natCast]
    refine TR.region ?_
    refine RL.move rfl rfl rfl ?_
    refine RL.move rfl rfl rfl ?_
    refine RL.loadF rfl rfl (fun w K hF => run_loadCell1 (j := 0) (hF (CellsF d 0 [S l]) (hG _ hb)) ng_ts9 rfl) rfl ?_
    refine RL.move rfl rfl rfl ?_
    refine RL.move rfl rfl rfl ?_
    refine RL.move rfl rfl rfl ?_
    refine RL.bin rfl rfl rfl (BinV.add ((z.2.2 + (nxN Op.bytesLess (l.drop z.2.2)).2 : Nat) : Int) (by omega) (by have := hnx.2.1; rw [List.length_drop] at this; omega) (by have := hnx.2.1; rw [List.length_drop] at this; omega)) rfl ?_
    refine RL.sliceS rfl ng_tstr9 rfl rfl rfl (by omega) (by omega) (by have := hnx.2.1; rw [List.length_drop] at this; omega) rfl ?_
    refine RL.move rfl rfl rfl ?_
    refine RL.build rfl rfl (ng_bv42_0_1_2 _ _ _) rfl ?_
    refine RL.callYield rfl rfl rfl rfl (hY z.1 (⟨(nxN Op.bytesLess (l.drop z.2.2)).1, (l.drop z.2.2).take (nxN Op.bytesLess (l.drop z.2.2)).2, z.2.2⟩ : Tk) (tkF Op.bytesLess l (z.2.1 - 1) (z.2.2 + (nxN Op.bytesLess (l.drop z.2.2)).2)) _ (by rw [hz.1, tkF_go hp (by omega)]) (by show [_] = [_]; rw [Int.toNat_natCast, Int.toNat_natCast, List.drop_take, Nat.add_sub_cancel_left]) _ _ hG) ?_
    refine RL.not rfl rfl rfl ?_
    refine RL.nil ?_
    refine NX.seq ?_
    refine TR.condF rfl ?_
    refine TR.skip ?_
    refine NX.seq ?_
    refine TR.region ?_
    refine RL.move rfl rfl rfl ?_
    refine RL.move rfl rfl rfl ?_
    refine RL.bin rfl rfl rfl (BinV.add ((z.2.2 + (nxN Op.bytesLess (l.drop z.2.2)).2 : Nat) : Int) (by omega) (by have := hnx.2.1; rw [List.length_drop] at this; omega) (by have := hnx.2.1; rw [List.length_drop] at this; omega)) rfl ?_
    refine RL.assign rfl rfl rfl ?_
    refine RL.nil ?_
    refine NX.off ?_
    refine NX.roundP (z.1 ++ [(⟨(nxN Op.bytesLess (l.drop z.2.2)).1, (l.drop z.2.2).take (nxN Op.bytesLess (l.drop z.2.2)).2, z.2.2⟩ : Tk)], z.2.1 - 1, z.2.2 + (nxN Op.bytesLess (l.drop z.2.2)).2) ⟨by rw [hz.1, tkF_go hp (by omega), List.append_assoc]; rfl, by show l.length - (z.2.2 + (nxN Op.bytesLess (l.drop z.2.2)).2) ≤ z.2.1 - 1; omega, by show z.2.2 + (nxN Op.bytesLess (l.drop z.2.2)).2 ≤ l.length; have := hnx.2.1; rw [List.length_drop] at this; omega⟩ (by show l.length - (z.2.2 + (nxN Op.bytesLess (l.drop z.2.2)).2) < l.length - z.2.2; omega) ⟨rfl, rfl, rfl, trivial⟩ (fun w hw => hw)
  · skip
    have hp : ¬ z.2.2 < l.length := by have := of_decide_eq_false h1; omega
    refine TR.exit ?_
    refine NX.exitThen ?_
    refine NX.exitThen ?_
    refine NX.exitHere ?_
    refine NX.end0 () rfl rfl (fun w hw => ?_)
    rw [hz.1, tkF_end hp, List.append_nil]
    exact hw
theorem tokens_spec {s0 : List UInt8} {M : List HP} {F : List Fact} (hl : s0.length < 4294967281) (hkw : CellsF 0 0 (stC kwL) ∈ F) (hsy : CellsF 1 0 (stC syL) ∈ F) : Ctr Tryd.prog 6 [S s0] M F (Option Addr × Nat) (fun i => .slice i.1 (tks Op.bytesLess s0).length i.2) (fun _ => M) (fun i => ArrF i.1 (tkC (tks Op.bytesLess s0)) :: F) := by
  refine Ctr.bodyM Tryd.func6 rfl rfl ?_
  refine TR.seq ?_
  refine TR.region ?_
  refine RL.assign rfl rfl rfl ?_
  refine RL.nil ?_
  refine NX.seq ?_
  refine TR.seq ?_
  refine TR.region ?_
  refine RL.alloc1 rfl (Tryd.zeroValue26) rfl rfl (fun b1 => ?_)
  refine RL.weak (fun w hw => St.varNew (e := 42) (size := 3) hw) ?_
  refine RL.nil ?_
  refine NX.seq ?_
  refine TR.seq ?_
  refine TR.seq ?_
  refine TR.region ?_
  refine RL.move rfl rfl rfl ?_
  refine RL.call rfl rfl Tryd.call13 rfl (lexAll_spec) (fun bc => ?_)
  refine RL.nil ?_
  refine NX.seq ?_
  refine TR.block ?_
  refine TR.rangeFunc (κ := Nat × Option Addr × Nat) (xs := (tks Op.bytesLess s0)) rfl Tryd.call28 (by simp) tkEnc_len (lexAll_iter (.head _) hl (.tail _ hkw) (.tail _ hsy)) (fun pre => [VarB 26 42 3 b1 pre.length (tkC pre)]) M (fun w hw => hw) (fun pre x args b => [(3, .pointer (some ⟨b1, 0, none⟩)), (4, .pointer (some ⟨b.1, 0, none⟩))]) (fun pre x args b => [Box b.1 42 [I (x.k : Nat), S x.x, I (x.at_ : Nat)], Box b1 26 [.slice b.2.1 pre.length b.2.2], OwnSl 42 3 b.2.1 pre.length b.2.2 (tkC pre)]) ?as0 ?bd0 ?ki0
  case as0 =>
    intro l pre x suf args hx he Mi G hG
    obtain rfl : args = [.agg #[I (x.k : Nat), S x.x, I (x.at_ : Nat)]] := he
    refine TR.region ?_
    refine RL.open (fun w hw => St.exOpen hw) (fun i0 => ?_)
    refine RL.allocA rfl (Tryd.zeroValue42) rfl (fun b2 => ?_)
    refine RL.storeA 0 rfl rfl rfl rfl ng_tz42 rfl rfl ?_
    refine RL.nil ?_
    exact NX.meet (b2, i0.1, i0.2) ⟨rfl, rfl, trivial⟩ (fun w hw => hw)
  case bd0 =>
    intro l pre x suf args i hx he Mi G hG
    obtain rfl : args = [.agg #[I (x.k : Nat), S x.x, I (x.at_ : Nat)]] := he
    have hpl : pre.length < (tks Op.bytesLess s0).length := by rw [hx]; simp
    have hpl2 := tkF_len Op.bytesLess s0 s0.length 0
    have hpl3 : (tks Op.bytesLess s0).length ≤ s0.length := hpl2
    refine TR.block ?_
    refine TR.region ?_
    refine RL.load1 1 rfl ng_ts26 rfl rfl rfl rfl ?_
    refine RL.loadA 0 rfl rfl rfl ng_ta42 rfl ?_
    refine RL.buildSlice rfl rfl (ng_bs26_1_0 _ _ _) rfl (fun b3 => ?_)
    refine RL.ofGV rfl rfl (GV.append (j := 3) ng_tl26 ng_ni26 ng_te42 rfl rfl rfl (src_box (i := 0) rfl rfl rfl) (by omega) (by omega)) (fun y => ?_)
    refine RL.store1 2 rfl ng_ts26 rfl rfl rfl rfl rfl ?_
    refine RL.nil ?_
    refine NX.off ?_
    exact fun aa w _ hw => by
      have h9 := (hw.drop 0 rfl).drop 0 rfl
      have h8 : St w (VarB 26 42 3 b1 (pre ++ [x]).length (tkC (pre ++ [x])) :: Mi) G := St.exClose (y.1, y.2) (by rw [tkC_snoc, List.length_append]; exact h9)
      exact h8
  case ki0 =>
    intro D
    refine NX.off ?_
    refine NX.seq ?_
    refine TR.seq ?_
    refine TR.region ?_
    refine RL.open (fun w hw => St.exOpen hw.swap) (fun i0 => ?_)
    refine RL.load1 0 rfl ng_ts26 rfl rfl rfl rfl ?_
    refine RL.assign rfl rfl rfl ?_
    refine RL.nil ?_
    refine NX.seq ?_
    refine TR.ret ?_
    exact NX.retM 2 i0 rfl rfl rfl rfl (fun w hw => ((hw.drop 0 rfl).keepSl).facts (fun φ h => by
      rcases List.mem_cons.1 h with e | h
      · subst e; exact .head _
      · exact .tail _ (.tail _ h)))
end Go.Proofs.YtnolpmigiboanaaDoor

namespace Go.Proofs.YtnolpmigiboanaaDoor
open Go.GL
set_option linter.unusedVariables false
theorem nh_bs25_24_0_1_2_3_4_5_6_7_8_9_10_11_12_13_14_15_16_17_18_19_20_21_22_23 (x0 : List UInt8) (x1 : List UInt8) (x2 : List UInt8) (x3 : List UInt8) (x4 : List UInt8) (x5 : List UInt8) (x6 : List UInt8) (x7 : List UInt8) (x8 : List UInt8) (x9 : List UInt8) (x10 : List UInt8) (x11 : List UInt8) (x12 : List UInt8) (x13 : List UInt8) (x14 : List UInt8) (x15 : List UInt8) (x16 : List UInt8) (x17 : List UInt8) (x18 : List UInt8) (x19 : List UInt8) (x20 : List UInt8) (x21 : List UInt8) (x22 : List UInt8) (x23 : List UInt8) : BuildSV Tryd.prog 25 9 24 [(0, S x0), (1, S x1), (2, S x2), (3, S x3), (4, S x4), (5, S x5), (6, S x6), (7, S x7), (8, S x8), (9, S x9), (10, S x10), (11, S x11), (12, S x12), (13, S x13), (14, S x14), (15, S x15), (16, S x16), (17, S x17), (18, S x18), (19, S x19), (20, S x20), (21, S x21), (22, S x22), (23, S x23)] [S x0, S x1, S x2, S x3, S x4, S x5, S x6, S x7, S x8, S x9, S x10, S x11, S x12, S x13, S x14, S x15, S x16, S x17, S x18, S x19, S x20, S x21, S x22, S x23] := fun w => by kernel_rfl
theorem nh_bs25_25_0_1_2_3_4_5_6_7_8_9_10_11_12_13_14_15_16_17_18_19_20_21_22_23_24 (x0 : List UInt8) (x1 : List UInt8) (x2 : List UInt8) (x3 : List UInt8) (x4 : List UInt8) (x5 : List UInt8) (x6 : List UInt8) (x7 : List UInt8) (x8 : List UInt8) (x9 : List UInt8) (x10 : List UInt8) (x11 : List UInt8) (x12 : List UInt8) (x13 : List UInt8) (x14 : List UInt8) (x15 : List UInt8) (x16 : List UInt8) (x17 : List UInt8) (x18 : List UInt8) (x19 : List UInt8) (x20 : List UInt8) (x21 : List UInt8) (x22 : List UInt8) (x23 : List UInt8) (x24 : List UInt8) : BuildSV Tryd.prog 25 9 25 [(0, S x0), (1, S x1), (2, S x2), (3, S x3), (4, S x4), (5, S x5), (6, S x6), (7, S x7), (8, S x8), (9, S x9), (10, S x10), (11, S x11), (12, S x12), (13, S x13), (14, S x14), (15, S x15), (16, S x16), (17, S x17), (18, S x18), (19, S x19), (20, S x20), (21, S x21), (22, S x22), (23, S x23), (24, S x24)] [S x0, S x1, S x2, S x3, S x4, S x5, S x6, S x7, S x8, S x9, S x10, S x11, S x12, S x13, S x14, S x15, S x16, S x17, S x18, S x19, S x20, S x21, S x22, S x23, S x24] := fun w => by kernel_rfl
theorem nh_bs25_26_0_1_2_3_4_5_6_7_8_9_10_11_12_13_14_15_16_17_18_19_20_21_22_23_24_25 (x0 : List UInt8) (x1 : List UInt8) (x2 : List UInt8) (x3 : List UInt8) (x4 : List UInt8) (x5 : List UInt8) (x6 : List UInt8) (x7 : List UInt8) (x8 : List UInt8) (x9 : List UInt8) (x10 : List UInt8) (x11 : List UInt8) (x12 : List UInt8) (x13 : List UInt8) (x14 : List UInt8) (x15 : List UInt8) (x16 : List UInt8) (x17 : List UInt8) (x18 : List UInt8) (x19 : List UInt8) (x20 : List UInt8) (x21 : List UInt8) (x22 : List UInt8) (x23 : List UInt8) (x24 : List UInt8) (x25 : List UInt8) : BuildSV Tryd.prog 25 9 26 [(0, S x0), (1, S x1), (2, S x2), (3, S x3), (4, S x4), (5, S x5), (6, S x6), (7, S x7), (8, S x8), (9, S x9), (10, S x10), (11, S x11), (12, S x12), (13, S x13), (14, S x14), (15, S x15), (16, S x16), (17, S x17), (18, S x18), (19, S x19), (20, S x20), (21, S x21), (22, S x22), (23, S x23), (24, S x24), (25, S x25)] [S x0, S x1, S x2, S x3, S x4, S x5, S x6, S x7, S x8, S x9, S x10, S x11, S x12, S x13, S x14, S x15, S x16, S x17, S x18, S x19, S x20, S x21, S x22, S x23, S x24, S x25] := fun w => by kernel_rfl
theorem nh_tl22 : tySlice Tryd.prog 22 3 = true := by kernel_rfl
theorem nh_tl25 : tySlice Tryd.prog 25 9 = true := by kernel_rfl
theorem nh_ts3 : tyScalar Tryd.prog 3 = true := by kernel_rfl
theorem nh_ts9 : tyScalar Tryd.prog 9 = true := by kernel_rfl
theorem nh_tstr9 : tyStr Tryd.prog 9 = true := by kernel_rfl
theorem nh_tz3 : tySize Tryd.prog 3 1 = true := by kernel_rfl
theorem nh_tz9 : tySize Tryd.prog 9 1 = true := by kernel_rfl
def rkL : List (List UInt8) := [[116, 121, 112, 101], [116, 97, 98, 108, 101], [107, 101, 121], [114, 101, 102], [116, 111], [99, 104, 101, 99, 107], [102, 117, 110], [112, 114, 111, 99], [108, 101, 116], [105, 110], [105, 102], [116, 104, 101, 110], [101, 108, 115, 101], [109, 97, 116, 99, 104], [105, 110, 115, 101, 114, 116], [100, 101, 108, 101, 116, 101], [97, 115], [119, 104, 101, 114, 101], [117, 112, 100, 97, 116, 101], [115, 101, 116], [119, 105, 116, 104], [97, 110, 100], [111, 114], [110, 111, 116], [116, 114, 117, 101], [102, 97, 108, 115, 101]]
theorem rkL_len : ∀ x, x ∈ rkL → x.length ≤ 20 := by decide
def rsL : List (List UInt8) := [[61, 61], [33, 61], [60, 61], [60, 45], [45, 62], [43, 43], [60], [62], [61], [43], [45], [42], [40], [41], [123], [125], [91], [93], [44], [46], [58], [124], [59], [63]]
theorem rsL_len : ∀ x, x ∈ rsL → x.length ≤ 20 := by decide
def rpL : List (List UInt8) := [[120], [121, 49], [97, 95, 98], [83, 111, 109, 101], [78, 48, 110, 101], [48], [52, 50], [49, 48, 57, 57, 53, 49, 49, 54, 50, 55, 55, 55, 54], [49, 48, 57, 57, 53, 49, 49, 54, 50, 55, 55, 55, 55], [34, 116, 34], [34, 195, 169, 32, 98, 34], [34, 111, 112, 101, 110], [35, 110, 111, 116, 101], [35], [33], [36], [195, 169], [38, 38], [95], [34], [10], [32], [9, 32], [97, 50, 51, 52, 53, 54, 55, 56, 57, 48, 49, 50, 51, 52, 53, 54, 55], [66, 50, 51, 52, 53, 54, 55, 56, 57, 48, 49, 50, 51, 52, 53, 54]]
theorem rpL_len : ∀ x, x ∈ rpL → x.length ≤ 20 := by decide
theorem rkw_spec {M : List HP} {F : List Fact} : Ctr Tryd.prog 26 [] M F Nat (fun b => .slice (some ⟨b, 0, none⟩) 26 26) (fun _ => M) (fun b => CellsF b 0 (stC rkL) :: F) := by
  refine Ctr.body Tryd.func26 rfl rfl ?_
  refine TR.seq ?_
  refine TR.region ?_
  refine RL.assign rfl rfl rfl ?_
  refine RL.nil ?_
  refine NX.seq ?_
  refine TR.seq ?_
  refine TR.region ?_
  refine RL.buildSlice rfl rfl (nh_bs25_26_0_1_2_3_4_5_6_7_8_9_10_11_12_13_14_15_16_17_18_19_20_21_22_23_24_25 _ _ _ _ _ _ _ _ _ _ _ _ _ _ _ _ _ _ _ _ _ _ _ _ _ _) rfl (fun b1 => ?_)
  refine RL.assign rfl rfl rfl ?_
  refine RL.nil ?_
  refine NX.seq ?_
  refine TR.ret ?_
  exact NX.ret1 b1 rfl rfl rfl (fun w hw => hw.keep)
theorem rsy_spec {M : List HP} {F : List Fact} : Ctr Tryd.prog 27 [] M F Nat (fun b => .slice (some ⟨b, 0, none⟩) 24 24) (fun _ => M) (fun b => CellsF b 0 (stC rsL) :: F) := by
  refine Ctr.body Tryd.func27 rfl rfl ?_
  refine TR.seq ?_
  refine TR.region ?_
  refine RL.assign rfl rfl rfl ?_
  refine RL.nil ?_
  refine NX.seq ?_
  refine TR.seq ?_
  refine TR.region ?_
  refine RL.buildSlice rfl rfl (nh_bs25_24_0_1_2_3_4_5_6_7_8_9_10_11_12_13_14_15_16_17_18_19_20_21_22_23 _ _ _ _ _ _ _ _ _ _ _ _ _ _ _ _ _ _ _ _ _ _ _ _) rfl (fun b1 => ?_)
  refine RL.assign rfl rfl rfl ?_
  refine RL.nil ?_
  refine NX.seq ?_
  refine TR.ret ?_
  exact NX.ret1 b1 rfl rfl rfl (fun w hw => hw.keep)
theorem part_spec {n : Int} {M : List HP} {F : List Fact} (hn : -9223372036854775808 ≤ n ∧ n ≤ 9223372036854775807) : Ctr Tryd.prog 12 [I n] M F {x : List UInt8 // x.length ≤ 20} (fun x => S x.1) (fun _ => M) (fun _ => F) := by
  refine Ctr.body Tryd.func12 rfl rfl ?_
  refine TR.seq ?_
  refine TR.region ?_
  refine RL.assign rfl rfl rfl ?_
  refine RL.nil ?_
  refine NX.seq ?_
  refine TR.seq ?_
  refine TR.region ?_
  refine RL.buildSlice rfl rfl (nh_bs25_25_0_1_2_3_4_5_6_7_8_9_10_11_12_13_14_15_16_17_18_19_20_21_22_23_24 _ _ _ _ _ _ _ _ _ _ _ _ _ _ _ _ _ _ _ _ _ _ _ _ _) rfl (fun b1 => ?_)
  refine RL.assign rfl rfl rfl ?_
  refine RL.nil ?_
  refine NX.seq ?_
  refine TR.seq ?_
  refine TR.weak (fun w hw => St.keep (show St w (Box b1 9 (stC rpL) :: M) F from hw)) ?_
  refine TR.region ?_
  refine RL.move rfl rfl rfl ?_
  refine RL.move rfl rfl rfl ?_
  refine RL.lenSlice rfl nh_tl25 rfl rfl ?_
  refine RL.call rfl rfl Tryd.call26 rfl (rkw_spec) (fun bk1 => ?_)
  refine RL.lenSlice rfl nh_tl25 rfl rfl ?_
  refine RL.bin rfl rfl rfl (BinV.add ((51 : Nat) : Int) (by decide) (by decide) (by decide)) rfl ?_
  refine RL.call rfl rfl Tryd.call27 rfl (rsy_spec) (fun bs1 => ?_)
  refine RL.lenSlice rfl nh_tl25 rfl rfl ?_
  refine RL.bin rfl rfl rfl (BinV.mul ((48 : Nat) : Int) (by decide) (by decide) (by decide)) rfl ?_
  refine RL.bin rfl rfl rfl (BinV.add ((99 : Nat) : Int) (by decide) (by decide) (by decide)) rfl ?_
  refine RL.call rfl rfl Tryd.call25 rfl (around_spec (by decide) hn.1 hn.2) (fun r => ?_)
  obtain ⟨r, hr0, hr1⟩ := r
  obtain ⟨k, rfl⟩ := Int.eq_ofNat_of_zero_le hr0
  dsimp only
  refine RL.assign rfl rfl rfl ?_
  refine RL.nil ?_
  refine NX.seq ?_
  refine TR.seq ?_
  refine TR.seq ?_
  refine TR.region ?_
  refine RL.move rfl rfl rfl ?_
  refine RL.move rfl rfl rfl ?_
  refine RL.lenSlice rfl nh_tl25 rfl rfl ?_
  refine RL.bin rfl rfl rfl BinV.lss rfl ?_
  refine RL.nil ?_
  refine NX.seq ?_
  refine TR.cond rfl (fun h2 => ?_) (fun h2 => ?_)
  · skip
    have hk : k < 25 := by have := of_decide_eq_true h2; omega
    obtain ⟨x, hx⟩ : ∃ x, rpL[k]? = some x := ⟨_, List.getElem?_eq_getElem (by show k < 25; exact hk)⟩
    refine TR.seq ?_
    refine TR.region ?_
    refine RL.move rfl rfl rfl ?_
    refine RL.move rfl rfl rfl ?_
    refine RL.indexAddr rfl nh_tl25 nh_tz9 (congrArg (fun a => some (Value.slice a _ _)) rfl) rfl (by omega) (by omega) rfl ?_
    refine RL.loadF rfl rfl (fun w K hF => run_loadCell1 (j := ((k : Nat) : Int).toNat * 1) (hF (CellsF b1 0 (stC rpL)) (.tail _ (.tail _ (.head _)))) nh_ts9 (by rw [Int.toNat_natCast, Nat.mul_one]; exact stC_get hx)) rfl ?_
    refine RL.assign rfl rfl rfl ?_
    refine RL.nil ?_
    refine NX.seq ?_
    refine TR.ret ?_
    refine NX.retThen ?_
    exact NX.ret1 (⟨x, rpL_len x (List.mem_of_getElem? hx)⟩ : {x : List UInt8 // x.length ≤ 20}) rfl rfl rfl (fun w hw => (hw.to 0 [] 3 [] rfl))
  · skip
    have hk : 25 ≤ k := by have := of_decide_eq_false h2; omega
    refine TR.skip ?_
    refine NX.seq ?_
    refine TR.seq ?_
    refine TR.region ?_
    refine RL.move rfl rfl rfl ?_
    refine RL.move rfl rfl rfl ?_
    refine RL.lenSlice rfl nh_tl25 rfl rfl ?_
    refine RL.bin rfl rfl rfl (BinV.sub ((k - 25 : Nat) : Int) (by omega) (by omega) (by omega)) rfl ?_
    refine RL.assign rfl rfl rfl ?_
    refine RL.nil ?_
    refine NX.seq ?_
    refine TR.seq ?_
    refine TR.seq ?_
    refine TR.region ?_
    refine RL.move rfl rfl rfl ?_
    refine RL.call rfl rfl Tryd.call26 rfl (rkw_spec) (fun bk2 => ?_)
    refine RL.lenSlice rfl nh_tl25 rfl rfl ?_
    refine RL.bin rfl rfl rfl BinV.lss rfl ?_
    refine RL.nil ?_
    refine NX.seq ?_
    refine TR.cond rfl (fun h3 => ?_) (fun h3 => ?_)
    · skip
      have hk2 : k - 25 < 26 := by have := of_decide_eq_true h3; omega
      obtain ⟨x, hx⟩ : ∃ x, rkL[k - 25]? = some x := ⟨_, List.getElem?_eq_getElem (by show k - 25 < 26; exact hk2)⟩
      refine TR.seq ?_
      refine TR.region ?_
      refine RL.call rfl rfl Tryd.call26 rfl (rkw_spec) (fun bk3 => ?_)
      refine RL.move rfl rfl rfl ?_
      refine RL.indexAddr rfl nh_tl25 nh_tz9 (congrArg (fun a => some (Value.slice a _ _)) rfl) rfl (by omega) (by omega) rfl ?_
      refine RL.loadF rfl rfl (fun w K hF => run_loadCell1 (j := (((k - 25) : Nat) : Int).toNat * 1) (hF (CellsF bk3 0 (stC rkL)) (.head _)) nh_ts9 (by rw [Int.toNat_natCast, Nat.mul_one]; exact stC_get hx)) rfl ?_
      refine RL.assign rfl rfl rfl ?_
      refine RL.nil ?_
      refine NX.seq ?_
      refine TR.ret ?_
      refine NX.retThen ?_
      exact NX.ret1 (⟨x, rkL_len x (List.mem_of_getElem? hx)⟩ : {x : List UInt8 // x.length ≤ 20}) rfl rfl rfl (fun w hw => (hw.to 0 [] 5 [] rfl))
    · skip
      have hk2 : 26 ≤ k - 25 := by have := of_decide_eq_false h3; omega
      obtain ⟨x, hx⟩ : ∃ x, rsL[(k - 25 - 26) % 24]? = some x := ⟨_, List.getElem?_eq_getElem (by show (k - 25 - 26) % 24 < 24; omega)⟩
      refine TR.skip ?_
      refine NX.seq ?_
      refine TR.seq ?_
      refine TR.region ?_
      refine RL.call rfl rfl Tryd.call27 rfl (rsy_spec) (fun bs3 => ?_)
      refine RL.move rfl rfl rfl ?_
      refine RL.call rfl rfl Tryd.call26 rfl (rkw_spec) (fun bk4 => ?_)
      refine RL.lenSlice rfl nh_tl25 rfl rfl ?_
      refine RL.bin rfl rfl rfl (BinV.sub ((k - 25 - 26 : Nat) : Int) (by omega) (by omega) (by omega)) rfl ?_
      refine RL.call rfl rfl Tryd.call27 rfl (rsy_spec) (fun bs4 => ?_)
      refine RL.lenSlice rfl nh_tl25 rfl rfl ?_
      refine RL.bin rfl rfl rfl (BinV.remK (a := k - 25 - 26) (b := 24) (by decide)) rfl ?_
      refine RL.indexAddr rfl nh_tl25 nh_tz9 (congrArg (fun a => some (Value.slice a _ _)) rfl) rfl (by omega) (by omega) rfl ?_
      refine RL.loadF rfl rfl (fun w K hF => run_loadCell1 (j := ((((k - 25 - 26) % 24) : Nat) : Int).toNat * 1) (hF (CellsF bs3 0 (stC rsL)) (.tail _ (.tail _ (.head _)))) nh_ts9 (by rw [Int.toNat_natCast, Nat.mul_one]; exact stC_get hx)) rfl ?_
      refine RL.assign rfl rfl rfl ?_
      refine RL.nil ?_
      refine NX.seq ?_
      refine TR.ret ?_
      exact NX.ret1 (⟨x, rsL_len x (List.mem_of_getElem? hx)⟩ : {x : List UInt8 // x.length ≤ 20}) rfl rfl rfl (fun w hw => (hw.to 0 [] 7 [] rfl))
theorem source_spec {xs : List Int} {oa : Option Addr} {ca : Nat} {M : List HP} {F : List Fact} (ha : ArrF oa (ints xs) ∈ F) (hxs : IntsOk xs) : Ctr Tryd.prog 4 [.slice oa xs.length ca] M F {x : List UInt8 // x.length ≤ 400} (fun x => S x.1) (fun _ => M) (fun _ => F) := by
  refine Ctr.body Tryd.func4 rfl rfl ?_
  refine TR.seq ?_
  refine TR.region ?_
  refine RL.assign rfl rfl rfl ?_
  refine RL.nil ?_
  refine NX.seq ?_
  refine TR.seq ?_
  refine TR.region ?_
  refine RL.assign rfl rfl rfl ?_
  refine RL.nil ?_
  refine NX.seq ?_
  refine TR.seq ?_
  refine TR.seq ?_
  refine TR.region ?_
  refine RL.assign rfl rfl rfl ?_
  refine RL.nil ?_
  refine NX.seq ?_
  refine TR.block ?_
  refine TR.loopP (ι := (Nat × List UInt8)) (fun z => z.1 ≤ 20 ∧ z.1 ≤ xs.length ∧ z.2.length ≤ 20 * z.1) (fun z => [(0, .slice oa xs.length ca), (3, S z.2), (4, I (z.1 : Nat))]) (fun z => M) (fun z => F) (fun z => (20 - z.1)) (0, []) ⟨by decide, Nat.zero_le _, by decide⟩ ⟨rfl, rfl, rfl, trivial⟩ (fun w hw => (hw.to 0 [] 0 [] rfl)) (fun z hz => ?_)
  refine TR.seq ?_
  refine TR.seq ?_
  refine TR.region ?_
  refine RL.move rfl rfl rfl ?_
  refine RL.move rfl rfl rfl ?_
  refine RL.lenSlice rfl nh_tl22 rfl rfl ?_
  refine RL.bin rfl rfl rfl BinV.lss rfl ?_
  refine RL.move rfl rfl rfl ?_
  refine RL.part (fun h1 => ?_) (fun h1 => ?_)
  · skip
    have hi : z.1 < xs.length := by have := of_decide_eq_true h1; omega
    refine RL.move rfl rfl rfl ?_
    refine RL.bin rfl rfl rfl BinV.lss rfl ?_
    refine RL.pickT rfl rfl rfl rfl ?_
    refine RL.nil ?_
    refine NX.seq ?_
    refine TR.cond rfl (fun h2 => ?_) (fun h2 => ?_)
    · skip
      have hi2 : z.1 < 20 := by have := of_decide_eq_true h2; omega
      refine TR.openP (open_arr ha (ints_ne (by omega))) (fun x hx => ?_)
      refine TR.skip ?_
      refine NX.seq ?_
      refine TR.seq ?_
      refine TR.block ?_
      refine TR.region ?_
      refine RL.move rfl rfl rfl ?_
      refine RL.move rfl rfl rfl ?_
      refine RL.move rfl rfl rfl ?_
      refine RL.indexAddr rfl nh_tl22 nh_tz3 (congrArg (fun a => some (Value.slice a _ _)) hx) rfl (by omega) (by omega) rfl ?_
      refine RL.loadF rfl rfl (fun w K hF => run_loadCell1 (j := ((z.1 : Nat) : Int).toNat * 1) (v := I xs[z.1]) (hF (CellsF x.1 x.2 (ints xs)) (.head _)) nh_ts3 (by rw [Int.toNat_natCast, Nat.mul_one]; exact ints_get hi)) rfl ?_
      refine RL.call rfl rfl Tryd.call12 rfl (part_spec (n := xs[z.1]) (hxs.2 _ (List.getElem_mem hi))) (fun q => ?_)
      obtain ⟨q, hq⟩ := q
      dsimp only
      refine RL.bin rfl rfl rfl (BinV.addS (by have := hz.2.2; omega)) rfl ?_
      refine RL.assign rfl rfl rfl ?_
      refine RL.nil ?_
      refine NX.off ?_
      refine NX.seq ?_
      refine TR.region ?_
      refine RL.move rfl rfl rfl ?_
      refine RL.bin rfl rfl rfl (BinV.add ((z.1 + 1 : Nat) : Int) (by omega) (by omega) (by omega)) rfl ?_
      refine RL.assign rfl rfl rfl ?_
      refine RL.nil ?_
      refine NX.roundP (z.1 + 1, z.2 ++ q) ⟨by show z.1 + 1 ≤ 20; omega, by show z.1 + 1 ≤ xs.length; omega, by show (z.2 ++ q).length ≤ 20 * (z.1 + 1); rw [List.length_append]; omega⟩ (by show 20 - (z.1 + 1) < 20 - z.1; omega) ⟨rfl, rfl, rfl, trivial⟩ (fun w hw => (hw.to 0 [] 1 [] rfl))
    · skip
      refine TR.exit ?_
      refine NX.exitThen ?_
      refine NX.exitThen ?_
      refine NX.exitHere ?_
      refine NX.seq ?_
      refine TR.seq ?_
      refine TR.region ?_
      refine RL.move rfl rfl rfl ?_
      refine RL.assign rfl rfl rfl ?_
      refine RL.nil ?_
      refine NX.seq ?_
      refine TR.ret ?_
      exact NX.ret1 (⟨z.2, by have := hz.2.2; omega⟩ : {x : List UInt8 // x.length ≤ 400}) rfl rfl rfl (fun w hw => hw)
  · skip
    refine RL.skip rfl rfl rfl ?_
    refine RL.skip rfl rfl rfl ?_
    refine RL.pickF rfl rfl rfl rfl ?_
    refine RL.nil ?_
    refine NX.seq ?_
    refine TR.condF rfl ?_
    refine TR.exit ?_
    refine NX.exitThen ?_
    refine NX.exitThen ?_
    refine NX.exitHere ?_
    refine NX.seq ?_
    refine TR.seq ?_
    refine TR.region ?_
    refine RL.move rfl rfl rfl ?_
    refine RL.assign rfl rfl rfl ?_
    refine RL.nil ?_
    refine NX.seq ?_
    refine TR.ret ?_
    exact NX.ret1 (⟨z.2, by have := hz.2.2; omega⟩ : {x : List UInt8 // x.length ≤ 400}) rfl rfl rfl (fun w hw => hw)
theorem short40_spec {l : List UInt8} {M : List HP} {F : List Fact} : Ctr Tryd.prog 5 [S l, I 40] M F {x : List UInt8 // x.length ≤ 400} (fun x => S x.1) (fun _ => M) (fun _ => F) := by
  refine Ctr.body Tryd.func5 rfl rfl ?_
  refine TR.seq ?_
  refine TR.region ?_
  refine RL.assign rfl rfl rfl ?_
  refine RL.nil ?_
  refine NX.seq ?_
  refine TR.seq ?_
  refine TR.seq ?_
  refine TR.region ?_
  refine RL.move rfl rfl rfl ?_
  refine RL.lenStr rfl nh_tstr9 rfl rfl ?_
  refine RL.move rfl rfl rfl ?_
  refine RL.bin rfl rfl rfl BinV.gtr rfl ?_
  refine RL.nil ?_
  refine NX.seq ?_
  refine TR.cond rfl (fun h1 => ?_) (fun h1 => ?_)
  · skip
    have hsh := h1
    refine TR.seq ?_
    refine TR.region ?_
    refine RL.move rfl rfl rfl ?_
    refine RL.move rfl rfl rfl ?_
    refine RL.sliceSto rfl nh_tstr9 rfl rfl (by omega) (by have := of_decide_eq_true hsh; omega) rfl ?_
    refine RL.assign rfl rfl rfl ?_
    refine RL.nil ?_
    refine NX.seq ?_
    refine TR.ret ?_
    refine NX.retThen ?_
    exact NX.ret1 (⟨_, by rw [List.length_take]; show min (40 : Int).toNat _ ≤ 400; omega⟩ : {x : List UInt8 // x.length ≤ 400}) rfl rfl rfl (fun w hw => hw)
  · skip
    have hsh := h1
    refine TR.skip ?_
    refine NX.seq ?_
    refine TR.seq ?_
    refine TR.region ?_
    refine RL.move rfl rfl rfl ?_
    refine RL.assign rfl rfl rfl ?_
    refine RL.nil ?_
    refine NX.seq ?_
    refine TR.ret ?_
    exact NX.ret1 (⟨_, by have := of_decide_eq_false hsh; omega⟩ : {x : List UInt8 // x.length ≤ 400}) rfl rfl rfl (fun w hw => hw)
end Go.Proofs.YtnolpmigiboanaaDoor

namespace Go.Proofs.YtnolpmigiboanaaDoor
open Go.GL
set_option linter.unusedVariables false
theorem ni_bs28_1_0 (x00 : Int) (x01 : Int) (x02 : List UInt8) (x03 : Option Addr) (x03n x03c : Nat) : BuildSV Tryd.prog 28 30 1 [(0, .agg #[.int .i64 x00, .int .i64 x01, S x02, .slice x03 x03n x03c])] [.int .i64 x00, .int .i64 x01, S x02, .slice x03 x03n x03c] := fun w => by kernel_rfl
theorem ni_bs28_2_0_1 (x00 : Int) (x01 : Int) (x02 : List UInt8) (x03 : Option Addr) (x03n x03c : Nat) (x10 : Int) (x11 : Int) (x12 : List UInt8) (x13 : Option Addr) (x13n x13c : Nat) : BuildSV Tryd.prog 28 30 2 [(0, .agg #[.int .i64 x00, .int .i64 x01, S x02, .slice x03 x03n x03c]), (1, .agg #[.int .i64 x10, .int .i64 x11, S x12, .slice x13 x13n x13c])] [.int .i64 x00, .int .i64 x01, S x02, .slice x03 x03n x03c, .int .i64 x10, .int .i64 x11, S x12, .slice x13 x13n x13c] := fun w => by kernel_rfl
theorem ni_bv30_1 (x1 : Int) : BuildV Tryd.prog 30 [(1, .int .i64 x1)] (.agg #[.int .i64 0, .int .i64 x1, S [], .slice none 0 0]) := fun w => by kernel_rfl
theorem ni_bv30_1_2 (x1 : Int) (x2 : List UInt8) : BuildV Tryd.prog 30 [(1, .int .i64 x1), (2, S x2)] (.agg #[.int .i64 0, .int .i64 x1, S x2, .slice none 0 0]) := fun w => by kernel_rfl
theorem ni_bv30_1_3 (x1 : Int) (x3 : Option Addr) (x3n x3c : Nat) : BuildV Tryd.prog 30 [(1, .int .i64 x1), (3, .slice x3 x3n x3c)] (.agg #[.int .i64 0, .int .i64 x1, S [], .slice x3 x3n x3c]) := fun w => by kernel_rfl
theorem ni_ni28 : noInt Tryd.prog 28 = true := by kernel_rfl
theorem ni_ta30 : tyAgg Tryd.prog 30 4 = true := by kernel_rfl
theorem ni_te30 : tyElem Tryd.prog 30 4 56 = true := by kernel_rfl
theorem ni_tf30_3 : fieldOff Tryd.prog 30 3 3 = true := by kernel_rfl
theorem ni_tf42_0 : fieldOff Tryd.prog 42 0 0 = true := by kernel_rfl
theorem ni_tf42_1 : fieldOff Tryd.prog 42 1 1 = true := by kernel_rfl
theorem ni_tl26 : tySlice Tryd.prog 26 42 = true := by kernel_rfl
theorem ni_tl28 : tySlice Tryd.prog 28 30 = true := by kernel_rfl
theorem ni_ts28 : tyScalar Tryd.prog 28 = true := by kernel_rfl
theorem ni_ts3 : tyScalar Tryd.prog 3 = true := by kernel_rfl
theorem ni_ts9 : tyScalar Tryd.prog 9 = true := by kernel_rfl
theorem ni_tz30 : tySize Tryd.prog 30 4 = true := by kernel_rfl
theorem ni_tz42 : tySize Tryd.prog 42 3 = true := by kernel_rfl
open Go.GL.Tree
set_option maxHeartbeats 1000000 in
theorem grouped_spec {T : List Tk} {xs : List Int} {ot ol : Option Addr} {ct cl : Nat} {M : List HP} {F : List Fact} (hT : ArrF ot (tkC T) ∈ F) (hT8 : ∀ t, t ∈ T → t.k ≤ 8) (hTl : T.length ≤ 1000) (hxa : ArrF ol (ints xs) ∈ F) (hxs : IntsOk xs) : Ctr Tryd.prog 7 [.slice ot T.length ct, .slice ol xs.length cl] M F {x : TX // x.t.lv = T.map lfT ∧ x.t.pre.length ≤ 4 * T.length + 1} (fun x => x.1.v) (fun _ => M) (fun x => TreeF x.1.t x.1.v :: F) := by
  refine Ctr.body Tryd.func7 rfl rfl ?_
  refine TR.seq ?_
  refine TR.region ?_
  refine RL.allocA rfl (Tryd.zeroValue30) rfl (fun b1 => ?_)
  refine RL.nil ?_
  refine NX.seq ?_
  refine TR.seq ?_
  refine TR.region ?_
  refine RL.build rfl rfl (ni_bv30_1 _) rfl ?_
  refine RL.allocA rfl (Tryd.zeroValue30) rfl (fun b2 => ?_)
  refine RL.storeA 0 rfl rfl rfl rfl ni_tz30 rfl rfl ?_
  refine RL.nil ?_
  refine NX.seq ?_
  refine TR.seq ?_
  refine TR.seq ?_
  refine TR.region ?_
  refine RL.assign rfl rfl rfl ?_
  refine RL.nil ?_
  refine NX.seq ?_
  refine TR.block ?_
  refine TR.loopP (ι := (Nat × List Tree × Option Addr × Nat × List Value)) (fun z => z.1 ≤ T.length ∧ z.2.1.flatMap lv = (T.take z.1).map lfT ∧ (preAll z.2.1).length ≤ 4 * z.1 ∧ z.2.1.length ≤ z.1) (fun z => [(0, .slice ot T.length ct), (1, .slice ol xs.length cl), (4, .pointer (some ⟨b1, 0, none⟩)), (5, .pointer (some ⟨b2, 0, none⟩)), (6, I (z.1 : Nat))]) (fun z => Box b1 30 [I 0, I 0, S [], .slice none 0 0] :: Box b2 30 [I 0, I 16, S [], .slice z.2.2.1 z.2.1.length z.2.2.2.1] :: OwnSl 30 4 z.2.2.1 z.2.1.length z.2.2.2.1 z.2.2.2.2 :: M) (fun z => TreesF z.2.1 z.2.2.2.2 :: F) (fun z => (T.length - z.1)) (0, [], none, 0, []) ⟨Nat.zero_le _, rfl, Nat.zero_le _, Nat.zero_le _⟩ ⟨rfl, rfl, rfl, rfl, rfl, trivial⟩ (fun w hw => ((OwnSl.nil_new 30 4 ((hw.to 2 [1, 0] 0 [] rfl))).trees0.to 3 [1, 2, 0] 0 [] rfl)) (fun z hz => ?_)
  refine TR.seq ?_
  refine TR.seq ?_
  refine TR.region ?_
  refine RL.move rfl rfl rfl ?_
  refine RL.move rfl rfl rfl ?_
  refine RL.lenSlice rfl ni_tl26 rfl rfl ?_
  refine RL.bin rfl rfl rfl BinV.lss rfl ?_
  refine RL.nil ?_
  refine NX.seq ?_
  refine TR.cond rfl (fun h3 => ?_) (fun h3 => ?_)
  · skip
    have hi : z.1 < T.length := by have := of_decide_eq_true h3; omega
    refine TR.skip ?_
    refine NX.seq ?_
    refine TR.block ?_
    refine TR.seq ?_
    refine TR.region ?_
    refine RL.move rfl rfl rfl ?_
    refine RL.fieldAddr rfl ni_tf30_3 rfl rfl ?_
    refine RL.load1 1 rfl ni_ts28 rfl rfl rfl rfl ?_
    refine RL.lenSlice rfl ni_tl28 rfl rfl ?_
    refine RL.call rfl rfl Tryd.call14 rfl (pick_spec (i := ((z.2.1.length : Nat) : Int)) (.tail _ hxa) hxs (by decide)) (fun r => ?_)
    obtain ⟨r, hr0, hr1⟩ := r
    obtain ⟨r, rfl⟩ := Int.eq_ofNat_of_zero_le hr0
    dsimp only
    refine RL.assign rfl rfl rfl ?_
    refine RL.nil ?_
    refine NX.seq ?_
    refine TR.seq ?_
    refine TR.region ?_
    refine RL.move rfl rfl rfl ?_
    refine RL.bin rfl rfl rfl (BinV.add (17 + ((r : Nat) : Int)) rfl (by omega) (by omega)) rfl ?_
    refine RL.build rfl rfl (ni_bv30_1 _) rfl ?_
    refine RL.allocA rfl (Tryd.zeroValue30) rfl (fun b4 => ?_)
    refine RL.storeA 0 rfl rfl rfl rfl ni_tz30 rfl rfl ?_
    refine RL.nil ?_
    refine NX.seq ?_
    refine TR.seq ?_
    refine TR.seq ?_
    refine TR.region ?_
    refine RL.assign rfl rfl rfl ?_
    refine RL.nil ?_
    refine NX.seq ?_
    refine TR.block ?_
    refine TR.loopP (ι := (Nat × Nat × Int × List Tree × Option Addr × Nat × List Value)) (fun y => y.1 ≤ r ∧ z.1 + y.1 = y.2.1 ∧ y.2.1 ≤ T.length ∧ y.2.2.2.1.flatMap lv = ((T.drop z.1).take y.1).map lfT ∧ (8 : Int) < y.2.2.1 ∧ (preAll y.2.2.2.1).length ≤ 2 * y.1 ∧ y.2.2.2.1.length ≤ y.1 + 2) (fun y => [(0, .slice ot T.length ct), (1, .slice ol xs.length cl), (4, .pointer (some ⟨b1, 0, none⟩)), (5, .pointer (some ⟨b2, 0, none⟩)), (6, I (y.2.1 : Nat)), (7, I (r : Nat)), (8, .pointer (some ⟨b4, 0, none⟩)), (9, I (y.1 : Nat))]) (fun y => Box b4 30 [I 0, I y.2.2.1, S [], .slice y.2.2.2.2.1 y.2.2.2.1.length y.2.2.2.2.2.1] :: OwnSl 30 4 y.2.2.2.2.1 y.2.2.2.1.length y.2.2.2.2.2.1 y.2.2.2.2.2.2 :: Box b1 30 [I 0, I 0, S [], .slice none 0 0] :: Box b2 30 [I 0, I 16, S [], .slice z.2.2.1 z.2.1.length z.2.2.2.1] :: OwnSl 30 4 z.2.2.1 z.2.1.length z.2.2.2.1 z.2.2.2.2 :: M) (fun y => TreesF y.2.2.2.1 y.2.2.2.2.2.2 :: TreesF z.2.1 z.2.2.2.2 :: F) (fun y => (r - y.1)) (0, z.1, 17 + ((r : Nat) : Int), [], none, 0, []) ⟨Nat.zero_le _, rfl, by show z.1 ≤ _; omega, by simp, by show (8 : Int) < 17 + ((r : Nat) : Int); omega, Nat.zero_le _, Nat.zero_le _⟩ ⟨rfl, rfl, rfl, rfl, rfl, rfl, rfl, rfl, trivial⟩ (fun w hw => ((OwnSl.nil_new 30 4 ((hw.to 4 [0, 1, 2, 3] 1 [0] rfl))).trees0.to 5 [1, 0, 2, 3, 4] 0 [] rfl)) (fun y hy => ?_)
    refine TR.seq ?_
    refine TR.seq ?_
    refine TR.region ?_
    refine RL.move rfl rfl rfl ?_
    refine RL.move rfl rfl rfl ?_
    refine RL.bin rfl rfl rfl BinV.lss rfl ?_
    refine RL.move rfl rfl rfl ?_
    refine RL.part (fun h5 => ?_) (fun h5 => ?_)
    · skip
      have hk : y.1 < r := by have := of_decide_eq_true h5; omega
      refine RL.move rfl rfl rfl ?_
      refine RL.move rfl rfl rfl ?_
      refine RL.lenSlice rfl ni_tl26 rfl rfl ?_
      refine RL.bin rfl rfl rfl BinV.lss rfl ?_
      refine RL.pickT rfl rfl rfl rfl ?_
      refine RL.nil ?_
      refine NX.seq ?_
      refine TR.cond rfl (fun h6 => ?_) (fun h6 => ?_)
      · skip
        have hi2 : y.2.1 < T.length := by have := of_decide_eq_true h6; omega
        obtain ⟨t, ht⟩ : ∃ t, T[y.2.1]? = some t := ⟨_, List.getElem?_eq_getElem hi2⟩
        have ht8 := hT8 t (List.mem_of_getElem? ht)
        have htk : T[z.1 + y.1]? = some t := by rw [hy.2.1]; exact ht
        refine TR.openP (open_arr (.tail _ (.tail _ hT)) (tkC_ne ht)) (fun x hx => ?_)
        refine TR.skip ?_
        refine NX.seq ?_
        refine TR.seq ?_
        refine TR.block ?_
        refine TR.seq ?_
        refine TR.sub (E' := [(0, _), (1, _), (4, _), (5, _), (6, _), (7, _), (8, _), (9, _), (24, _), (25, _), (26, _), (27, _), (28, _), (29, _), (30, _), (31, _), (32, _)]) ⟨rfl, rfl, rfl, rfl, rfl, rfl, rfl, rfl, rfl, rfl, rfl, rfl, rfl, rfl, rfl, rfl, rfl, trivial⟩ ?_
        refine TR.draw mixed ?_
        apply AR.more [(0, _), (1, _), (2, _), (3, _), (4, _), (5, _), (6, _), (7, _), (8, _), (9, _), (10, _)]
        refine AR.eff [0, 1, 2, 3, 4, 5, 6, 7, 8, 9, 10] 11 [0, 1, 2, 3, 4, 5, 6, 7, 8, 9, 10, 11, 12] ⟨QOne.yes rfl rfl rfl (PV.move rfl), QOne.yes rfl rfl rfl (PV.move rfl), QOne.yes rfl rfl rfl (PV.indexAddr ni_tl26 ni_tz42 (congrArg (fun a => some (Value.slice a _ _)) hx) rfl (by omega) (by omega)), QOne.yes rfl rfl rfl (PV.fieldAddr ni_tf42_0 rfl), QOne.yes rfl rfl rfl (PV.loadF rfl (fun w K hF => run_loadCell1 (j := ((y.2.1 : Nat) : Int).toNat * 3 + 0) (hF (CellsF x.1 x.2 (tkC T)) (.head _)) ni_ts3 (by rw [Int.toNat_natCast, Nat.add_zero]; exact (tkC_at ht).1))), QOne.yes rfl rfl rfl (PV.move rfl), QOne.yes rfl rfl rfl (PV.move rfl), QOne.yes rfl rfl rfl (PV.indexAddr ni_tl26 ni_tz42 (congrArg (fun a => some (Value.slice a _ _)) hx) rfl (by omega) (by omega)), QOne.yes rfl rfl rfl (PV.fieldAddr ni_tf42_1 rfl), QOne.yes rfl rfl rfl (PV.loadF rfl (fun w K hF => run_loadCell1 (j := ((y.2.1 : Nat) : Int).toNat * 3 + 1) (hF (CellsF x.1 x.2 (tkC T)) (.head _)) ni_ts9 (by rw [Int.toNat_natCast]; exact (tkC_at ht).2.1))), QOne.yes rfl rfl rfl (PV.build rfl (ni_bv30_1_2 _ _)), trivial⟩ rfl rfl rfl rfl rfl rfl rfl (EV.allocA (Tryd.zeroValue30)) (fun b7 => ?_)
        refine AR.eff [0, 1, 2, 3, 4, 5, 6, 7, 8, 9, 10] 12 [0, 1, 2, 3, 4, 5, 6, 7, 8, 9, 10, 11, 12] ⟨QOne.yes rfl rfl rfl (PV.move rfl), QOne.yes rfl rfl rfl (PV.move rfl), QOne.yes rfl rfl rfl (PV.indexAddr ni_tl26 ni_tz42 (congrArg (fun a => some (Value.slice a _ _)) hx) rfl (by omega) (by omega)), QOne.yes rfl rfl rfl (PV.fieldAddr ni_tf42_0 rfl), QOne.yes rfl rfl rfl (PV.loadF rfl (fun w K hF => run_loadCell1 (j := ((y.2.1 : Nat) : Int).toNat * 3 + 0) (hF (CellsF x.1 x.2 (tkC T)) (.head _)) ni_ts3 (by rw [Int.toNat_natCast, Nat.add_zero]; exact (tkC_at ht).1))), QOne.yes rfl rfl rfl (PV.move rfl), QOne.yes rfl rfl rfl (PV.move rfl), QOne.yes rfl rfl rfl (PV.indexAddr ni_tl26 ni_tz42 (congrArg (fun a => some (Value.slice a _ _)) hx) rfl (by omega) (by omega)), QOne.yes rfl rfl rfl (PV.fieldAddr ni_tf42_1 rfl), QOne.yes rfl rfl rfl (PV.loadF rfl (fun w K hF => run_loadCell1 (j := ((y.2.1 : Nat) : Int).toNat * 3 + 1) (hF (CellsF x.1 x.2 (tkC T)) (.head _)) ni_ts9 (by rw [Int.toNat_natCast]; exact (tkC_at ht).2.1))), QOne.yes rfl rfl rfl (PV.build rfl (ni_bv30_1_2 _ _)), trivial⟩ rfl rfl rfl rfl rfl rfl rfl (EV.storeA 0 rfl rfl rfl ni_tz30 rfl rfl) (fun _ => ?_)
        refine AR.done [10, 0, 1, 2, 3, 4, 5, 6, 7, 8, 9] rfl ?_
        refine AR.last [] [0, 1, 2, 3, 4, 5, 6, 7, 8, 9, 10, 11, 12] trivial rfl rfl rfl ?_
        refine NX.sub (E' := [(0, _), (1, _), (4, _), (5, _), (6, _), (7, _), (8, _), (9, _), (10, _), (24, _), (25, _), (26, _), (27, _), (28, _), (29, _), (30, _), (31, _), (32, _), (35, _), (36, _), (37, _), (38, _), (39, _), (40, _), (41, _), (42, _), (43, _), (44, _), (45, _)]) ⟨rfl, rfl, rfl, rfl, rfl, rfl, rfl, rfl, rfl, rfl, rfl, rfl, rfl, rfl, rfl, rfl, rfl, rfl, rfl, rfl, rfl, rfl, rfl, rfl, rfl, rfl, rfl, rfl, rfl, trivial⟩ ?_
        refine NX.seq ?_
        refine TR.seq ?_
        refine TR.seq ?_
        refine TR.region ?_
        refine RL.move rfl rfl rfl ?_
        refine RL.bin rfl rfl rfl BinV.eql rfl ?_
        refine RL.nil ?_
        refine NX.seq ?_
        refine TR.cond rfl (fun h8 => ?_) (fun h8 => ?_)
        · skip
          refine TR.region ?_
          refine RL.loadA 1 rfl rfl rfl ni_ta30 rfl ?_
          refine RL.loadA 0 rfl rfl rfl ni_ta30 rfl ?_
          refine RL.buildSlice rfl rfl (ni_bs28_2_0_1 _ _ _ _ _ _ _ _ _ _ _ _) rfl (fun b9 => ?_)
          refine RL.build rfl rfl (ni_bv30_1_3 _ _ _ _) rfl ?_
          refine RL.storeA 2 rfl rfl rfl rfl ni_tz30 rfl rfl ?_
          refine RL.nil ?_
          refine NX.seq ?_
          refine TR.region ?_
          refine RL.move rfl rfl rfl ?_
          refine RL.bin rfl rfl rfl (BinV.add ((y.2.1 + 1 : Nat) : Int) (by omega) (by omega) (by omega)) rfl ?_
          refine RL.assign rfl rfl rfl ?_
          refine RL.nil ?_
          refine NX.off ?_
          refine NX.seq ?_
          refine TR.region ?_
          refine RL.move rfl rfl rfl ?_
          refine RL.bin rfl rfl rfl (BinV.add ((y.1 + 1 : Nat) : Int) (by omega) (by omega) (by omega)) rfl ?_
          refine RL.assign rfl rfl rfl ?_
          refine RL.nil ?_
          have hlv : [(Tree.node 0 y.2.2.1 [] y.2.2.2.1), (lfT t)].flatMap lv = ((T.drop z.1).take (y.1 + 1)).map lfT := by
            rw [take_lf htk, ← hy.2.2.2.1]
            simp only [List.flatMap_cons, List.flatMap_nil, List.append_nil]
            rw [inn_lv hy.2.2.2.2.1, lfT_lv ht8]
          have hpr : (preAll [(Tree.node 0 y.2.2.1 [] y.2.2.2.1), (lfT t)]).length ≤ 2 * (y.1 + 1) := by
            have h9 := inn_pre (k := y.2.2.1) (ks := y.2.2.2.1)
            have h8 := hy.2.2.2.2.2.1
            simp only [preAll, List.append_nil, List.length_append]
            rw [h9, lfT_pre]
            simp only [List.length_cons, List.length_nil]; omega
          refine NX.roundP (y.1 + 1, y.2.1 + 1, 30, [(Tree.node 0 y.2.2.1 [] y.2.2.2.1), (lfT t)], some ⟨b9, 0, none⟩, 2, (nodeC (Tree.node 0 y.2.2.1 [] y.2.2.2.1) y.2.2.2.2.1 y.2.2.2.1.length y.2.2.2.2.2.1 ++ (nodeC (lfT t) none 0 0 ++ []))) ⟨by show y.1 + 1 ≤ r; omega, by show z.1 + (y.1 + 1) = y.2.1 + 1; omega, by show y.2.1 + 1 ≤ T.length; omega, hlv, by show (8 : Int) < 30; decide, hpr, by show 2 ≤ y.1 + 1 + 2; omega⟩ (by show r - (y.1 + 1) < r - y.1; omega) ⟨rfl, rfl, rfl, rfl, rfl, rfl, rfl, rfl, trivial⟩ (fun w hw => (by
            have h1 := (hw.to 7 [3, 0, 2, 4, 5, 6] 3 [1, 2] rfl)
            have h2 := (St.treeSl (e := 30) (Tree.node 0 y.2.2.1 [] y.2.2.2.1) (show St w (OwnSl 30 4 y.2.2.2.2.1 y.2.2.2.1.length y.2.2.2.2.2.1 y.2.2.2.2.2.2 :: _) _ from h1) (.head _)).2
            have h3 := St.boxSl (n := 2) (size := 4) rfl (by decide) (show St w (Box b9 30 (nodeC (Tree.node 0 y.2.2.1 [] y.2.2.2.1) y.2.2.2.2.1 y.2.2.2.1.length y.2.2.2.2.2.1 ++ (nodeC (lfT t) none 0 0 ++ [])) :: _) _ from h2)
            have h4 := h3.derive (ψ := TreesF [(Tree.node 0 y.2.2.1 [] y.2.2.2.1), (lfT t)] (nodeC (Tree.node 0 y.2.2.1 [] y.2.2.2.1) y.2.2.2.2.1 y.2.2.2.1.length y.2.2.2.2.2.1 ++ (nodeC (lfT t) none 0 0 ++ []))) (fun K hf => ⟨_, _, _, _, rfl, hf _ (.head _), none, 0, 0, [], rfl, leaf_at _ _ _, rfl⟩)
            have h5 := h4.facts (F' := TreesF [(Tree.node 0 y.2.2.1 [] y.2.2.2.1), (lfT t)] (nodeC (Tree.node 0 y.2.2.1 [] y.2.2.2.1) y.2.2.2.2.1 y.2.2.2.1.length y.2.2.2.2.2.1 ++ (nodeC (lfT t) none 0 0 ++ [])) :: TreesF z.2.1 z.2.2.2.2 :: F) (fun φ hφ => by
              rcases List.mem_cons.1 hφ with e | hφ
              · subst e; exact .head _
              · exact .tail _ (.tail _ (.tail _ hφ)))
            exact h5.to 5 [1, 0, 2, 3, 4] 0 [] rfl))
        · skip
          refine TR.region ?_
          refine RL.fieldAddr rfl ni_tf30_3 rfl rfl ?_
          refine RL.load1 1 rfl ni_ts28 rfl rfl rfl rfl ?_
          refine RL.loadA 0 rfl rfl rfl ni_ta30 rfl ?_
          refine RL.buildSlice rfl rfl (ni_bs28_1_0 _ _ _ _ _ _) rfl (fun b10 => ?_)
          refine RL.ofGV rfl rfl (GV.append (j := 3) ni_tl28 ni_ni28 ni_te30 rfl rfl rfl (src_box (i := 0) rfl rfl rfl) (by omega) (by omega)) (fun yg => ?_)
          refine RL.fieldAddr rfl ni_tf30_3 rfl rfl ?_
          refine RL.store1 2 rfl ni_ts28 rfl rfl rfl rfl rfl ?_
          refine RL.nil ?_
          refine NX.seq ?_
          refine TR.region ?_
          refine RL.move rfl rfl rfl ?_
          refine RL.bin rfl rfl rfl (BinV.add ((y.2.1 + 1 : Nat) : Int) (by omega) (by omega) (by omega)) rfl ?_
          refine RL.assign rfl rfl rfl ?_
          refine RL.nil ?_
          refine NX.off ?_
          refine NX.seq ?_
          refine TR.region ?_
          refine RL.move rfl rfl rfl ?_
          refine RL.bin rfl rfl rfl (BinV.add ((y.1 + 1 : Nat) : Int) (by omega) (by omega) (by omega)) rfl ?_
          refine RL.assign rfl rfl rfl ?_
          refine RL.nil ?_
          have hlv : (y.2.2.2.1 ++ [(lfT t)]).flatMap lv = ((T.drop z.1).take (y.1 + 1)).map lfT := by rw [lv_snoc, take_lf htk, ← hy.2.2.2.1, lfT_lv ht8]
          have hpr : (preAll (y.2.2.2.1 ++ [(lfT t)])).length ≤ 2 * (y.1 + 1) := by rw [preAll_snoc, lfT_pre]; have h8 := hy.2.2.2.2.2.1; simp only [List.length_cons, List.length_nil]; omega
          refine NX.roundP (y.1 + 1, y.2.1 + 1, y.2.2.1, (y.2.2.2.1 ++ [(lfT t)]), yg.1, yg.2, (y.2.2.2.2.2.2 ++ nodeC (lfT t) none 0 0)) ⟨by show y.1 + 1 ≤ r; omega, by show z.1 + (y.1 + 1) = y.2.1 + 1; omega, by show y.2.1 + 1 ≤ T.length; omega, hlv, hy.2.2.2.2.1, hpr, by show (y.2.2.2.1 ++ [_]).length ≤ y.1 + 1 + 2; rw [List.length_append]; have := hy.2.2.2.2.2.2; simp only [List.length_cons, List.length_nil]; omega⟩ (by show r - (y.1 + 1) < r - y.1; omega) ⟨rfl, rfl, rfl, rfl, rfl, rfl, rfl, rfl, trivial⟩ (fun w hw => (by
            have h1 := (hw.to 7 [2, 3, 4, 5, 6] 3 [1, 2] rfl)
            have h4 := h1.derive (ψ := TreesF (y.2.2.2.1 ++ [(lfT t)]) (y.2.2.2.2.2.2 ++ nodeC (lfT t) none 0 0)) (fun K hf => TreesAt.append (hf (TreesF y.2.2.2.1 y.2.2.2.2.2.2) (.head _)) (TreesAt.one (leaf_at _ _ _)))
            have h5 := h4.facts (F' := TreesF (y.2.2.2.1 ++ [(lfT t)]) (y.2.2.2.2.2.2 ++ nodeC (lfT t) none 0 0) :: TreesF z.2.1 z.2.2.2.2 :: F) (fun φ hφ => by
              rcases List.mem_cons.1 hφ with e | hφ
              · subst e; exact .head _
              · exact .tail _ (.tail _ hφ))
            show St w (Box b4 30 [_, _, _, .slice yg.1 (y.2.2.2.1 ++ [_]).length yg.2] :: OwnSl 30 4 yg.1 (y.2.2.2.1 ++ [_]).length yg.2 _ :: _) _
            rw [List.length_append]
            exact h5))
      · skip
        have hi2 : ¬ y.2.1 < T.length := by have := of_decide_eq_false h6; omega
        refine TR.exit ?_
        refine NX.exitThen ?_
        refine NX.exitThen ?_
        refine NX.exitHere ?_
        refine NX.seq ?_
        refine TR.seq ?_
        refine TR.seq ?_
        refine TR.region ?_
        refine RL.move rfl rfl rfl ?_
        refine RL.bin rfl rfl rfl BinV.eql rfl ?_
        refine RL.nil ?_
        refine NX.seq ?_
        refine TR.cond rfl (fun h12 => ?_) (fun h12 => ?_)
        · skip
          have hr00 : r = 0 := by have := of_decide_eq_true h12; omega
          obtain ⟨t, ht⟩ : ∃ t, T[y.2.1]? = some t := ⟨_, List.getElem?_eq_getElem (by omega)⟩
          have ht8 := hT8 t (List.mem_of_getElem? ht)
          refine TR.openP (open_arr (.tail _ (.tail _ hT)) (tkC_ne ht)) (fun x hx => ?_)
          refine TR.seq ?_
          refine TR.sub (E' := [(0, _), (1, _), (4, _), (5, _), (6, _), (7, _), (8, _), (9, _), (24, _), (25, _), (26, _), (27, _), (28, _), (29, _), (30, _), (31, _), (32, _), (60, _), (61, _)]) ⟨rfl, rfl, rfl, rfl, rfl, rfl, rfl, rfl, rfl, rfl, rfl, rfl, rfl, rfl, rfl, rfl, rfl, rfl, rfl, trivial⟩ ?_
          refine TR.draw mixed ?_
          apply AR.more [(0, _), (1, _), (2, _), (3, _), (4, _), (5, _), (6, _), (7, _), (8, _), (9, _), (10, _)]
          refine AR.eff [0, 1, 2, 3, 4, 5, 6, 7, 8, 9, 10] 11 [0, 1, 2, 3, 4, 5, 6, 7, 8, 9, 10, 11] ⟨QOne.yes rfl rfl rfl (PV.move rfl), QOne.yes rfl rfl rfl (PV.move rfl), QOne.yes rfl rfl rfl (PV.indexAddr ni_tl26 ni_tz42 (congrArg (fun a => some (Value.slice a _ _)) hx) rfl (by omega) (by omega)), QOne.yes rfl rfl rfl (PV.fieldAddr ni_tf42_0 rfl), QOne.yes rfl rfl rfl (PV.loadF rfl (fun w K hF => run_loadCell1 (j := ((y.2.1 : Nat) : Int).toNat * 3 + 0) (hF (CellsF x.1 x.2 (tkC T)) (.head _)) ni_ts3 (by rw [Int.toNat_natCast, Nat.add_zero]; exact (tkC_at ht).1))), QOne.yes rfl rfl rfl (PV.move rfl), QOne.yes rfl rfl rfl (PV.move rfl), QOne.yes rfl rfl rfl (PV.indexAddr ni_tl26 ni_tz42 (congrArg (fun a => some (Value.slice a _ _)) hx) rfl (by omega) (by omega)), QOne.yes rfl rfl rfl (PV.fieldAddr ni_tf42_1 rfl), QOne.yes rfl rfl rfl (PV.loadF rfl (fun w K hF => run_loadCell1 (j := ((y.2.1 : Nat) : Int).toNat * 3 + 1) (hF (CellsF x.1 x.2 (tkC T)) (.head _)) ni_ts9 (by rw [Int.toNat_natCast]; exact (tkC_at ht).2.1))), QOne.yes rfl rfl rfl (PV.build rfl (ni_bv30_1_2 _ _)), trivial⟩ rfl rfl rfl rfl rfl rfl rfl (EV.storeA 0 rfl rfl rfl ni_tz30 rfl rfl) (fun _ => ?_)
          refine AR.done [10, 0, 1, 2, 3, 4, 5, 6, 7, 8, 9] rfl ?_
          refine AR.last [] [0, 1, 2, 3, 4, 5, 6, 7, 8, 9, 10, 11] trivial rfl rfl rfl ?_
          refine NX.sub (E' := [(0, _), (1, _), (4, _), (5, _), (6, _), (7, _), (8, _), (9, _), (24, _), (25, _), (26, _), (27, _), (28, _), (29, _), (30, _), (31, _), (32, _), (60, _), (61, _), (62, _), (63, _), (64, _), (65, _), (66, _), (67, _), (68, _), (69, _), (70, _), (71, _), (72, _)]) ⟨rfl, rfl, rfl, rfl, rfl, rfl, rfl, rfl, rfl, rfl, rfl, rfl, rfl, rfl, rfl, rfl, rfl, rfl, rfl, rfl, rfl, rfl, rfl, rfl, rfl, rfl, rfl, rfl, rfl, rfl, trivial⟩ ?_
          refine NX.seq ?_
          refine TR.region ?_
          refine RL.move rfl rfl rfl ?_
          refine RL.bin rfl rfl rfl (BinV.add ((y.2.1 + 1 : Nat) : Int) (by omega) (by omega) (by omega)) rfl ?_
          refine RL.assign rfl rfl rfl ?_
          refine RL.nil ?_
          refine NX.seq ?_
          refine TR.region ?_
          refine RL.fieldAddr rfl ni_tf30_3 rfl rfl ?_
          refine RL.load1 3 rfl ni_ts28 rfl rfl rfl rfl ?_
          refine RL.loadA 0 rfl rfl rfl ni_ta30 rfl ?_
          refine RL.buildSlice rfl rfl (ni_bs28_1_0 _ _ _ _ _ _) rfl (fun b13 => ?_)
          refine RL.ofGV rfl rfl (GV.append (j := 5) ni_tl28 ni_ni28 ni_te30 rfl rfl rfl (src_box (i := 0) rfl rfl rfl) (by omega) (by omega)) (fun yo => ?_)
          refine RL.fieldAddr rfl ni_tf30_3 rfl rfl ?_
          refine RL.store1 4 rfl ni_ts28 rfl rfl rfl rfl rfl ?_
          refine RL.nil ?_
          refine NX.off ?_
          have hy0 : y.1 = 0 := by omega
          have hlv : (z.2.1 ++ [(lfT t)]).flatMap lv = (T.take (y.2.1 + 1)).map lfT := by
            rw [lv_snoc, hz.2.1, lfT_lv ht8, show y.2.1 = z.1 from by omega, List.take_add_one, show T[z.1]? = some t from by rw [show z.1 = y.2.1 from by omega]; exact ht, List.map_append]; rfl
          have hpr : (preAll (z.2.1 ++ [(lfT t)])).length ≤ 4 * (y.2.1 + 1) := by rw [preAll_snoc, lfT_pre]; have h8 := hz.2.2.1; simp only [List.length_cons, List.length_nil]; omega
          refine NX.roundP ((y.2.1 + 1), (z.2.1 ++ [(lfT t)]), yo.1, yo.2, (z.2.2.2.2 ++ nodeC (lfT t) none 0 0)) ⟨by show (y.2.1 + 1) ≤ T.length; omega, hlv, hpr, by show (z.2.1 ++ [_]).length ≤ (y.2.1 + 1); rw [List.length_append]; have := hz.2.2.2; simp only [List.length_cons, List.length_nil]; omega⟩ (by show T.length - (y.2.1 + 1) < T.length - z.1; omega) ⟨rfl, rfl, rfl, rfl, rfl, trivial⟩ (fun w hw => (by
            have h1 := (hw.to 6 [3, 4, 5] 3 [2] rfl)
            have h4 := h1.derive (ψ := TreesF (z.2.1 ++ [(lfT t)]) (z.2.2.2.2 ++ nodeC (lfT t) none 0 0)) (fun K hf => TreesAt.append (hf (TreesF z.2.1 z.2.2.2.2) (.head _)) (TreesAt.one (leaf_at _ _ _)))
            have h5 := h4.facts (F' := TreesF (z.2.1 ++ [(lfT t)]) (z.2.2.2.2 ++ nodeC (lfT t) none 0 0) :: F) (fun φ hφ => by
              rcases List.mem_cons.1 hφ with e | hφ
              · subst e; exact .head _
              · exact .tail _ (.tail _ hφ))
            show St w (_ :: Box b2 30 [_, _, _, .slice yo.1 (z.2.1 ++ [_]).length yo.2] :: OwnSl 30 4 yo.1 (z.2.1 ++ [_]).length yo.2 _ :: _) _
            rw [List.length_append]
            exact h5))
        · skip
          have hr00 : r ≠ 0 := by have := of_decide_eq_false h12; omega
          refine TR.skip ?_
          refine NX.seq ?_
          refine TR.region ?_
          refine RL.fieldAddr rfl ni_tf30_3 rfl rfl ?_
          refine RL.load1 3 rfl ni_ts28 rfl rfl rfl rfl ?_
          refine RL.loadA 0 rfl rfl rfl ni_ta30 rfl ?_
          refine RL.buildSlice rfl rfl (ni_bs28_1_0 _ _ _ _ _ _) rfl (fun b15 => ?_)
          refine RL.ofGV rfl rfl (GV.append (j := 5) ni_tl28 ni_ni28 ni_te30 rfl rfl rfl (src_box (i := 0) rfl rfl rfl) (by omega) (by omega)) (fun yo => ?_)
          refine RL.fieldAddr rfl ni_tf30_3 rfl rfl ?_
          refine RL.store1 4 rfl ni_ts28 rfl rfl rfl rfl rfl ?_
          refine RL.nil ?_
          refine NX.off ?_
          have hy1 : 1 ≤ y.1 := by omega
          have hlv : (z.2.1 ++ [(Tree.node 0 y.2.2.1 [] y.2.2.2.1)]).flatMap lv = (T.take y.2.1).map lfT := by rw [lv_snoc, hz.2.1, inn_lv hy.2.2.2.2.1, hy.2.2.2.1, ← take_grp, hy.2.1]
          have hpr : (preAll (z.2.1 ++ [(Tree.node 0 y.2.2.1 [] y.2.2.2.1)])).length ≤ 4 * y.2.1 := by rw [preAll_snoc, inn_pre]; have h8 := hz.2.2.1; have h9 := hy.2.2.2.2.2.1; omega
          refine NX.roundP (y.2.1, (z.2.1 ++ [(Tree.node 0 y.2.2.1 [] y.2.2.2.1)]), yo.1, yo.2, (z.2.2.2.2 ++ nodeC (Tree.node 0 y.2.2.1 [] y.2.2.2.1) y.2.2.2.2.1 y.2.2.2.1.length y.2.2.2.2.2.1)) ⟨by show y.2.1 ≤ T.length; omega, hlv, hpr, by show (z.2.1 ++ [_]).length ≤ y.2.1; rw [List.length_append]; have := hz.2.2.2; simp only [List.length_cons, List.length_nil]; omega⟩ (by show T.length - y.2.1 < T.length - z.1; omega) ⟨rfl, rfl, rfl, rfl, rfl, trivial⟩ (fun w hw => (by
            have h1 := (hw.to 6 [2, 3, 4, 5] 2 [0, 1] rfl)
            have h2 := (St.treeSl (e := 30) (Tree.node 0 y.2.2.1 [] y.2.2.2.1) (show St w (OwnSl 30 4 y.2.2.2.2.1 y.2.2.2.1.length y.2.2.2.2.2.1 y.2.2.2.2.2.2 :: _) _ from h1) (.head _)).2
            have h4 := h2.derive (ψ := TreesF (z.2.1 ++ [(Tree.node 0 y.2.2.1 [] y.2.2.2.1)]) (z.2.2.2.2 ++ nodeC (Tree.node 0 y.2.2.1 [] y.2.2.2.1) y.2.2.2.2.1 y.2.2.2.1.length y.2.2.2.2.2.1)) (fun K hf => TreesAt.append (hf (TreesF z.2.1 z.2.2.2.2) (.tail _ (.tail _ (.head _)))) (TreesAt.one (hf _ (.head _))))
            have h5 := h4.facts (F' := TreesF (z.2.1 ++ [(Tree.node 0 y.2.2.1 [] y.2.2.2.1)]) (z.2.2.2.2 ++ nodeC (Tree.node 0 y.2.2.1 [] y.2.2.2.1) y.2.2.2.2.1 y.2.2.2.1.length y.2.2.2.2.2.1) :: F) (fun φ hφ => by
              rcases List.mem_cons.1 hφ with e | hφ
              · subst e; exact .head _
              · exact .tail _ (.tail _ (.tail _ (.tail _ hφ))))
            show St w (_ :: Box b2 30 [_, _, _, .slice yo.1 (z.2.1 ++ [_]).length yo.2] :: OwnSl 30 4 yo.1 (z.2.1 ++ [_]).length yo.2 _ :: _) _
            rw [List.length_append]
            exact h5))
    · skip
      have hk : y.1 = r := by have := of_decide_eq_false h5; omega
      refine RL.skip rfl rfl rfl ?_
      refine RL.skip rfl rfl rfl ?_
      refine RL.skip rfl rfl rfl ?_
      refine RL.skip rfl rfl rfl ?_
      refine RL.pickF rfl rfl rfl rfl ?_
      refine RL.nil ?_
      refine NX.seq ?_
      refine TR.condF rfl ?_
      refine TR.exit ?_
      refine NX.exitThen ?_
      refine NX.exitThen ?_
      refine NX.exitHere ?_
      refine NX.seq ?_
      refine TR.seq ?_
      refine TR.seq ?_
      refine TR.region ?_
      refine RL.move rfl rfl rfl ?_
      refine RL.bin rfl rfl rfl BinV.eql rfl ?_
      refine RL.nil ?_
      refine NX.seq ?_
      refine TR.cond rfl (fun h17 => ?_) (fun h17 => ?_)
      · skip
        have hr00 : r = 0 := by have := of_decide_eq_true h17; omega
        obtain ⟨t, ht⟩ : ∃ t, T[y.2.1]? = some t := ⟨_, List.getElem?_eq_getElem (by omega)⟩
        have ht8 := hT8 t (List.mem_of_getElem? ht)
        refine TR.openP (open_arr (.tail _ (.tail _ hT)) (tkC_ne ht)) (fun x hx => ?_)
        refine TR.seq ?_
        refine TR.sub (E' := [(0, _), (1, _), (4, _), (5, _), (6, _), (7, _), (8, _), (9, _), (24, _), (25, _), (26, _), (27, _), (28, _), (29, _), (30, _), (31, _), (32, _), (60, _), (61, _)]) ⟨rfl, rfl, rfl, rfl, rfl, rfl, rfl, rfl, rfl, rfl, rfl, rfl, rfl, rfl, rfl, rfl, rfl, rfl, rfl, trivial⟩ ?_
        refine TR.draw mixed ?_
        apply AR.more [(0, _), (1, _), (2, _), (3, _), (4, _), (5, _), (6, _), (7, _), (8, _), (9, _), (10, _)]
        refine AR.eff [0, 1, 2, 3, 4, 5, 6, 7, 8, 9, 10] 11 [0, 1, 2, 3, 4, 5, 6, 7, 8, 9, 10, 11] ⟨QOne.yes rfl rfl rfl (PV.move rfl), QOne.yes rfl rfl rfl (PV.move rfl), QOne.yes rfl rfl rfl (PV.indexAddr ni_tl26 ni_tz42 (congrArg (fun a => some (Value.slice a _ _)) hx) rfl (by omega) (by omega)), QOne.yes rfl rfl rfl (PV.fieldAddr ni_tf42_0 rfl), QOne.yes rfl rfl rfl (PV.loadF rfl (fun w K hF => run_loadCell1 (j := ((y.2.1 : Nat) : Int).toNat * 3 + 0) (hF (CellsF x.1 x.2 (tkC T)) (.head _)) ni_ts3 (by rw [Int.toNat_natCast, Nat.add_zero]; exact (tkC_at ht).1))), QOne.yes rfl rfl rfl (PV.move rfl), QOne.yes rfl rfl rfl (PV.move rfl), QOne.yes rfl rfl rfl (PV.indexAddr ni_tl26 ni_tz42 (congrArg (fun a => some (Value.slice a _ _)) hx) rfl (by omega) (by omega)), QOne.yes rfl rfl rfl (PV.fieldAddr ni_tf42_1 rfl), QOne.yes rfl rfl rfl (PV.loadF rfl (fun w K hF => run_loadCell1 (j := ((y.2.1 : Nat) : Int).toNat * 3 + 1) (hF (CellsF x.1 x.2 (tkC T)) (.head _)) ni_ts9 (by rw [Int.toNat_natCast]; exact (tkC_at ht).2.1))), QOne.yes rfl rfl rfl (PV.build rfl (ni_bv30_1_2 _ _)), trivial⟩ rfl rfl rfl rfl rfl rfl rfl (EV.storeA 0 rfl rfl rfl ni_tz30 rfl rfl) (fun _ => ?_)
        refine AR.done [10, 0, 1, 2, 3, 4, 5, 6, 7, 8, 9] rfl ?_
        refine AR.last [] [0, 1, 2, 3, 4, 5, 6, 7, 8, 9, 10, 11] trivial rfl rfl rfl ?_
        refine NX.sub (E' := [(0, _), (1, _), (4, _), (5, _), (6, _), (7, _), (8, _), (9, _), (24, _), (25, _), (26, _), (27, _), (28, _), (29, _), (30, _), (31, _), (32, _), (60, _), (61, _), (62, _), (63, _), (64, _), (65, _), (66, _), (67, _), (68, _), (69, _), (70, _), (71, _), (72, _)]) ⟨rfl, rfl, rfl, rfl, rfl, rfl, rfl, rfl, rfl, rfl, rfl, rfl, rfl, rfl, rfl, rfl, rfl, rfl, rfl, rfl, rfl, rfl, rfl, rfl, rfl, rfl, rfl, rfl, rfl, rfl, trivial⟩ ?_
        refine NX.seq ?_
        refine TR.region ?_
        refine RL.move rfl rfl rfl ?_
        refine RL.bin rfl rfl rfl (BinV.add ((y.2.1 + 1 : Nat) : Int) (by omega) (by omega) (by omega)) rfl ?_
        refine RL.assign rfl rfl rfl ?_
        refine RL.nil ?_
        refine NX.seq ?_
        refine TR.region ?_
        refine RL.fieldAddr rfl ni_tf30_3 rfl rfl ?_
        refine RL.load1 3 rfl ni_ts28 rfl rfl rfl rfl ?_
        refine RL.loadA 0 rfl rfl rfl ni_ta30 rfl ?_
        refine RL.buildSlice rfl rfl (ni_bs28_1_0 _ _ _ _ _ _) rfl (fun b18 => ?_)
        refine RL.ofGV rfl rfl (GV.append (j := 5) ni_tl28 ni_ni28 ni_te30 rfl rfl rfl (src_box (i := 0) rfl rfl rfl) (by omega) (by omega)) (fun yo => ?_)
        refine RL.fieldAddr rfl ni_tf30_3 rfl rfl ?_
        refine RL.store1 4 rfl ni_ts28 rfl rfl rfl rfl rfl ?_
        refine RL.nil ?_
        refine NX.off ?_
        have hy0 : y.1 = 0 := by omega
        have hlv : (z.2.1 ++ [(lfT t)]).flatMap lv = (T.take (y.2.1 + 1)).map lfT := by
          rw [lv_snoc, hz.2.1, lfT_lv ht8, show y.2.1 = z.1 from by omega, List.take_add_one, show T[z.1]? = some t from by rw [show z.1 = y.2.1 from by omega]; exact ht, List.map_append]; rfl
        have hpr : (preAll (z.2.1 ++ [(lfT t)])).length ≤ 4 * (y.2.1 + 1) := by rw [preAll_snoc, lfT_pre]; have h8 := hz.2.2.1; simp only [List.length_cons, List.length_nil]; omega
        refine NX.roundP ((y.2.1 + 1), (z.2.1 ++ [(lfT t)]), yo.1, yo.2, (z.2.2.2.2 ++ nodeC (lfT t) none 0 0)) ⟨by show (y.2.1 + 1) ≤ T.length; omega, hlv, hpr, by show (z.2.1 ++ [_]).length ≤ (y.2.1 + 1); rw [List.length_append]; have := hz.2.2.2; simp only [List.length_cons, List.length_nil]; omega⟩ (by show T.length - (y.2.1 + 1) < T.length - z.1; omega) ⟨rfl, rfl, rfl, rfl, rfl, trivial⟩ (fun w hw => (by
          have h1 := (hw.to 6 [3, 4, 5] 3 [2] rfl)
          have h4 := h1.derive (ψ := TreesF (z.2.1 ++ [(lfT t)]) (z.2.2.2.2 ++ nodeC (lfT t) none 0 0)) (fun K hf => TreesAt.append (hf (TreesF z.2.1 z.2.2.2.2) (.head _)) (TreesAt.one (leaf_at _ _ _)))
          have h5 := h4.facts (F' := TreesF (z.2.1 ++ [(lfT t)]) (z.2.2.2.2 ++ nodeC (lfT t) none 0 0) :: F) (fun φ hφ => by
            rcases List.mem_cons.1 hφ with e | hφ
            · subst e; exact .head _
            · exact .tail _ (.tail _ hφ))
          show St w (_ :: Box b2 30 [_, _, _, .slice yo.1 (z.2.1 ++ [_]).length yo.2] :: OwnSl 30 4 yo.1 (z.2.1 ++ [_]).length yo.2 _ :: _) _
          rw [List.length_append]
          exact h5))
      · skip
        have hr00 : r ≠ 0 := by have := of_decide_eq_false h17; omega
        refine TR.skip ?_
        refine NX.seq ?_
        refine TR.region ?_
        refine RL.fieldAddr rfl ni_tf30_3 rfl rfl ?_
        refine RL.load1 3 rfl ni_ts28 rfl rfl rfl rfl ?_
        refine RL.loadA 0 rfl rfl rfl ni_ta30 rfl ?_
        refine RL.buildSlice rfl rfl (ni_bs28_1_0 _ _ _ _ _ _) rfl (fun b20 => ?_)
        refine RL.ofGV rfl rfl (GV.append (j := 5) ni_tl28 ni_ni28 ni_te30 rfl rfl rfl (src_box (i := 0) rfl rfl rfl) (by omega) (by omega)) (fun yo => ?_)
        refine RL.fieldAddr rfl ni_tf30_3 rfl rfl ?_
        refine RL.store1 4 rfl ni_ts28 rfl rfl rfl rfl rfl ?_
        refine RL.nil ?_
        refine NX.off ?_
        have hy1 : 1 ≤ y.1 := by omega
        have hlv : (z.2.1 ++ [(Tree.node 0 y.2.2.1 [] y.2.2.2.1)]).flatMap lv = (T.take y.2.1).map lfT := by rw [lv_snoc, hz.2.1, inn_lv hy.2.2.2.2.1, hy.2.2.2.1, ← take_grp, hy.2.1]
        have hpr : (preAll (z.2.1 ++ [(Tree.node 0 y.2.2.1 [] y.2.2.2.1)])).length ≤ 4 * y.2.1 := by rw [preAll_snoc, inn_pre]; have h8 := hz.2.2.1; have h9 := hy.2.2.2.2.2.1; omega
        refine NX.roundP (y.2.1, (z.2.1 ++ [(Tree.node 0 y.2.2.1 [] y.2.2.2.1)]), yo.1, yo.2, (z.2.2.2.2 ++ nodeC (Tree.node 0 y.2.2.1 [] y.2.2.2.1) y.2.2.2.2.1 y.2.2.2.1.length y.2.2.2.2.2.1)) ⟨by show y.2.1 ≤ T.length; omega, hlv, hpr, by show (z.2.1 ++ [_]).length ≤ y.2.1; rw [List.length_append]; have := hz.2.2.2; simp only [List.length_cons, List.length_nil]; omega⟩ (by show T.length - y.2.1 < T.length - z.1; omega) ⟨rfl, rfl, rfl, rfl, rfl, trivial⟩ (fun w hw => (by
          have h1 := (hw.to 6 [2, 3, 4, 5] 2 [0, 1] rfl)
          have h2 := (St.treeSl (e := 30) (Tree.node 0 y.2.2.1 [] y.2.2.2.1) (show St w (OwnSl 30 4 y.2.2.2.2.1 y.2.2.2.1.length y.2.2.2.2.2.1 y.2.2.2.2.2.2 :: _) _ from h1) (.head _)).2
          have h4 := h2.derive (ψ := TreesF (z.2.1 ++ [(Tree.node 0 y.2.2.1 [] y.2.2.2.1)]) (z.2.2.2.2 ++ nodeC (Tree.node 0 y.2.2.1 [] y.2.2.2.1) y.2.2.2.2.1 y.2.2.2.1.length y.2.2.2.2.2.1)) (fun K hf => TreesAt.append (hf (TreesF z.2.1 z.2.2.2.2) (.tail _ (.tail _ (.head _)))) (TreesAt.one (hf _ (.head _))))
          have h5 := h4.facts (F' := TreesF (z.2.1 ++ [(Tree.node 0 y.2.2.1 [] y.2.2.2.1)]) (z.2.2.2.2 ++ nodeC (Tree.node 0 y.2.2.1 [] y.2.2.2.1) y.2.2.2.2.1 y.2.2.2.1.length y.2.2.2.2.2.1) :: F) (fun φ hφ => by
            rcases List.mem_cons.1 hφ with e | hφ
            · subst e; exact .head _
            · exact .tail _ (.tail _ (.tail _ (.tail _ hφ))))
          show St w (_ :: Box b2 30 [_, _, _, .slice yo.1 (z.2.1 ++ [_]).length yo.2] :: OwnSl 30 4 yo.1 (z.2.1 ++ [_]).length yo.2 _ :: _) _
          rw [List.length_append]
          exact h5))
  · skip
    have hi : z.1 = T.length := by have := of_decide_eq_false h3; omega
    refine TR.exit ?_
    refine NX.exitThen ?_
    refine NX.exitThen ?_
    refine NX.exitHere ?_
    refine NX.seq ?_
    refine TR.seq ?_
    refine TR.region ?_
    refine RL.loadA 1 rfl rfl rfl ni_ta30 rfl ?_
    refine RL.storeA 0 rfl rfl rfl rfl ni_tz30 rfl rfl ?_
    refine RL.nil ?_
    refine NX.seq ?_
    refine TR.ret ?_
    have hlvz : z.2.1.flatMap lv = T.map lfT := by rw [hz.2.1, hi, List.take_length]
    refine NX.retCx (j := 0) rfl rfl rfl ni_ta30 (fun w hw => ?_)
    have h1 := (hw.to 3 [2] 1 [0] rfl)
    have h9 := (St.treeSl (e := 30) (.node 0 16 [] z.2.1) (show St w (OwnSl 30 4 z.2.2.1 z.2.1.length z.2.2.2.1 z.2.2.2.2 :: _) _ from h1) (.head _)).2
    exact ⟨(⟨⟨.node 0 16 [] z.2.1, z.2.2.1, z.2.1.length, z.2.2.2.1⟩, (inn_lv (by decide)).trans hlvz, by have h7 := inn_pre (k := 16) (ks := z.2.1); have h8 := hz.2.2.1; show (Tree.node 0 16 [] z.2.1).pre.length ≤ _; omega⟩ : {x : TX // x.t.lv = T.map lfT ∧ x.t.pre.length ≤ 4 * T.length + 1}), rfl, h9.facts (fun φ h => by
      rcases List.mem_cons.1 h with e | h
      · subst e; exact .head _
      · exact .tail _ (.tail _ h))⟩
end Go.Proofs.YtnolpmigiboanaaDoor

namespace Go.Proofs.YtnolpmigiboanaaDoor
open Go.GL
set_option linter.unusedVariables false
theorem nj_bs25_2_0_1 (x0 : List UInt8) (x1 : List UInt8) : BuildSV Tryd.prog 25 9 2 [(0, S x0), (1, S x1)] [S x0, S x1] := fun w => by kernel_rfl
theorem nj_ta30 : tyAgg Tryd.prog 30 4 = true := by kernel_rfl
theorem nj_tl25 : tySlice Tryd.prog 25 9 = true := by kernel_rfl
theorem nj_ts9 : tyScalar Tryd.prog 9 = true := by kernel_rfl
theorem nj_tz30 : tySize Tryd.prog 30 4 = true := by kernel_rfl
theorem nj_tz9 : tySize Tryd.prog 9 1 = true := by kernel_rfl
open Go.GL.Tree
theorem str_S (ba : ByteArray) : (.string ba : Value) = S ba.data.toList := by
  show _ = Value.string ⟨ba.data.toList.toArray⟩
  rw [Array.toArray_toList]
theorem tks_at {s : List UInt8} : ∀ (i : Nat) t, (tks Op.bytesLess s)[i]? = some t → t.at_ = 0 + (((tks Op.bytesLess s).take i).flatMap Tk.x).length := fun i t h => tkF_at Op.bytesLess s s.length 0 i t (Nat.le_refl _) h
set_option maxHeartbeats 1000000 in
theorem law_tokens {xs ys : List Int} {oa ob : Option Addr} {ca cb : Nat} {ba : ByteArray} {M : List HP} {F : List Fact} (hxa : ArrF oa (ints xs) ∈ F) (hxs : IntsOk xs) (hya : ArrF ob (ints ys) ∈ F) (hys : IntsOk ys) (hkw : CellsF 0 0 (stC kwL) ∈ F) (hsy : CellsF 1 0 (stC syL) ∈ F) : Ctr Tryd.prog 3 [.slice oa xs.length ca, .string ba, .slice ob ys.length cb] M F Unit (fun _ => .bool true) (fun _ => M) (fun _ => F) := by
  refine Ctr.body Tryd.func3 rfl rfl ?_
  refine TR.seq ?_
  rw [str_S]
  refine TR.region ?_
  refine RL.assign rfl rfl rfl ?_
  refine RL.nil ?_
  refine NX.seq ?_
  refine TR.seq ?_
  refine TR.region ?_
  refine RL.move rfl rfl rfl ?_
  refine RL.call rfl rfl Tryd.call4 rfl (source_spec hxa hxs) (fun q1 => ?_)
  refine RL.move rfl rfl rfl ?_
  refine RL.call rfl rfl Tryd.call5 rfl (short40_spec (l := ba.data.toList)) (fun q2 => ?_)
  refine RL.buildSlice rfl rfl (nj_bs25_2_0_1 _ _) rfl (fun b1 => ?_)
  refine RL.assign rfl rfl rfl ?_
  refine RL.nil ?_
  refine NX.seq ?_
  refine TR.seq ?_
  refine TR.seq ?_
  refine TR.weak (fun w hw => St.keep (show St w (Box b1 9 (stC [q1.1, q2.1]) :: M) F from hw)) ?_
  refine TR.region ?_
  refine RL.assign rfl rfl rfl ?_
  refine RL.nil ?_
  refine NX.seq ?_
  refine TR.block ?_
  refine TR.loopP (ι := Nat) (fun z => z ≤ 2) (fun z => [(2, .slice ob ys.length cb), (7, .slice (some ⟨b1, 0, none⟩) 2 2), (8, I (z : Nat))]) (fun z => M) (fun z => CellsF b1 0 (stC [q1.1, q2.1]) :: F) (fun z => (2 - z)) 0 (Nat.zero_le _) ⟨rfl, rfl, rfl, trivial⟩ (fun w hw => (hw.to 0 [] 1 [0] rfl)) (fun z hz => ?_)
  refine TR.seq ?_
  refine TR.seq ?_
  refine TR.region ?_
  refine RL.move rfl rfl rfl ?_
  refine RL.bin rfl rfl rfl BinV.lss rfl ?_
  refine RL.nil ?_
  refine NX.seq ?_
  refine TR.cond rfl (fun h2 => ?_) (fun h2 => ?_)
  · skip
    have hz2 : z < 2 := by have := of_decide_eq_true h2; omega
    obtain ⟨s0, hs⟩ : ∃ s0, [q1.1, q2.1][z]? = some s0 := ⟨_, List.getElem?_eq_getElem (by show z < 2; exact hz2)⟩
    have hsl : s0.length ≤ 400 := by
      have h9 := List.mem_of_getElem? hs
      simp only [List.mem_cons, List.not_mem_nil, or_false] at h9
      rcases h9 with rfl | rfl
      · exact q1.2
      · exact q2.2
    have hTl : (tks Op.bytesLess s0).length ≤ s0.length := tkF_len _ _ _ _
    refine TR.skip ?_
    refine NX.seq ?_
    refine TR.seq ?_
    refine TR.block ?_
    refine TR.seq ?_
    refine TR.region ?_
    refine RL.move rfl rfl rfl ?_
    refine RL.move rfl rfl rfl ?_
    refine RL.indexAddr rfl nj_tl25 nj_tz9 (congrArg (fun a => some (Value.slice a _ _)) rfl) rfl (by omega) (by omega) rfl ?_
    refine RL.loadF rfl rfl (fun w K hF => run_loadCell1 (j := ((z : Nat) : Int).toNat * 1) (hF (CellsF b1 0 (stC [q1.1, q2.1])) (.head _)) nj_ts9 (by rw [Int.toNat_natCast, Nat.mul_one]; exact stC_get hs)) rfl ?_
    refine RL.call rfl rfl Tryd.call6 rfl (tokens_spec (s0 := s0) (by omega) (.tail _ hkw) (.tail _ hsy)) (fun i1 => ?_)
    refine RL.assign rfl rfl rfl ?_
    refine RL.nil ?_
    refine NX.seq ?_
    refine TR.seq ?_
    refine TR.region ?_
    refine RL.move rfl rfl rfl ?_
    refine RL.move rfl rfl rfl ?_
    refine RL.call rfl rfl Tryd.call7 rfl (grouped_spec (T := (tks Op.bytesLess s0)) (xs := ys) (.head _) (fun t ht => (tkF_ok _ _ _ _ t ht).1) (by omega) (.tail _ (.tail _ hya)) hys) (fun x => ?_)
    obtain ⟨⟨t, a, len, cap⟩, hlv, hpr⟩ := x
    dsimp only at hlv hpr ⊢
    have htx : t.text = s0 := by rw [text_lv, hlv, lf_text, tks_text]
    have hwd : t.width = s0.length := by unfold Tree.width; rw [htx]
    have hlen : (tks Op.bytesLess s0).length = t.lv.length := by rw [hlv, List.length_map]
    have htk : tkC (tks Op.bytesLess s0) = toks 0 t.lv := by rw [hlv]; exact (toks_tk _ 0 tks_at).symm
    refine RL.allocA rfl (Tryd.zeroValue30) rfl (fun b3 => ?_)
    refine RL.storeA 0 rfl rfl rfl rfl nj_tz30 rfl rfl ?_
    refine RL.nil ?_
    refine NX.seq ?_
    refine TR.seq ?_
    rw [hlen, htk]
    refine TR.sub (E' := [(2, _), (7, _), (8, _), (9, _), (10, _), (16, _), (17, _), (20, _), (21, _), (22, _), (23, _), (24, _), (25, _), (26, _), (27, _)]) ⟨rfl, rfl, rfl, rfl, rfl, rfl, rfl, rfl, rfl, rfl, rfl, rfl, rfl, rfl, rfl, trivial⟩ ?_
    refine TR.draw mixed ?_
    apply AR.more [(0, _), (2, _), (3, _), (4, _), (5, _)]
    refine AR.eff [0, 2, 3, 4, 5] 1 [0, 1, 2, 3, 4, 5, 6, 7, 8, 9, 10, 11, 12, 13] ⟨QOne.yes rfl rfl rfl (PV.loadA 0 rfl rfl nj_ta30), QOne.yes rfl rfl rfl (PV.move rfl), QOne.yes rfl rfl rfl (PV.move rfl), QOne.yes rfl rfl rfl (PV.indexAddr nj_tl25 nj_tz9 (congrArg (fun a => some (Value.slice a _ _)) rfl) rfl (by omega) (by omega)), QOne.yes rfl rfl rfl (PV.loadF rfl (fun w K hF => run_loadCell1 (j := ((z : Nat) : Int).toNat * 1) (hF (CellsF b1 0 (stC [q1.1, q2.1])) (.tail _ (.tail _ (.head _)))) nj_ts9 (by rw [Int.toNat_natCast, Nat.mul_one]; exact stC_get hs))), trivial⟩ rfl rfl rfl rfl rfl rfl rfl (EV.call rfl Tryd.call8 (text_spec (t := t) (a := a) (len := len) (cap := cap) (.head _) (by omega))) (fun _ => ?_)
    refine AR.done [0] rfl ?_
    apply AR.more [(6, .bool false), (7, .bool false), (8, _), (10, _)]
    refine AR.eff [2, 3, 4, 5, 6, 7, 8, 10] 9 [0, 1, 2, 3, 4, 5, 6, 7, 8, 9, 10, 11, 12, 13] ⟨QOne.yes rfl rfl rfl (PV.move rfl), QOne.yes rfl rfl rfl (PV.move rfl), QOne.yes rfl rfl rfl (PV.indexAddr nj_tl25 nj_tz9 (congrArg (fun a => some (Value.slice a _ _)) rfl) rfl (by omega) (by omega)), QOne.yes rfl rfl rfl (PV.loadF rfl (fun w K hF => run_loadCell1 (j := ((z : Nat) : Int).toNat * 1) (hF (CellsF b1 0 (stC [q1.1, q2.1])) (.tail _ (.tail _ (.head _)))) nj_ts9 (by rw [Int.toNat_natCast, Nat.mul_one]; exact stC_get hs))), QOne.yes rfl rfl rfl (PV.bin rfl rfl (BinV.to (d := false) BinV.neqS (decide_eq_false (by rw [htx]; simp)))), QOne.yes rfl rfl rfl (PV.move rfl), QOne.yes rfl rfl rfl (PV.loadA 0 rfl rfl nj_ta30), QOne.yes rfl rfl rfl (PV.move rfl), trivial⟩ rfl rfl rfl rfl rfl rfl rfl (EV.call rfl Tryd.call10 (leavesB_spec (t := t) (a := a) (len := len) (cap := cap) (by omega) (by omega) (.head _))) (fun i2 => ?_)
    refine AR.done [8, 7, 6, 5, 4, 2, 3] rfl ?_
    refine AR.eff [10] 11 [0, 1, 2, 3, 4, 5, 6, 7, 8, 9, 10, 11, 12, 13] ⟨QOne.yes rfl rfl rfl (PV.move rfl), trivial⟩ rfl rfl rfl rfl rfl rfl rfl (EV.call rfl Tryd.call9 (sameToks_spec (l := t.lv) (q := 0) (.head _) (.tail _ (.tail _ (.head _))) (by omega))) (fun _ => ?_)
    refine AR.done [10] rfl ?_
    refine AR.more [(12, .bool false), (13, .bool false)] ?_
    refine AR.last [12, 13] [0, 1, 2, 3, 4, 5, 6, 7, 8, 9, 10, 11, 12, 13] ⟨QOne.yes rfl rfl rfl (PV.not (b := true) rfl), QOne.yes rfl rfl rfl (PV.pickF rfl rfl), trivial⟩ rfl rfl rfl ?_
    refine NX.sub (E' := [(2, _), (7, _), (8, _), (9, _), (10, _), (16, _), (17, _), (20, _), (21, _), (22, _), (23, _), (24, _), (25, _), (26, _), (27, _), (28, _), (29, _), (30, _), (31, _), (32, _), (33, _), (34, _), (35, _), (36, _), (37, _), (38, _), (39, _), (40, _), (41, _)]) ⟨rfl, rfl, rfl, rfl, rfl, rfl, rfl, rfl, rfl, rfl, rfl, rfl, rfl, rfl, rfl, rfl, rfl, rfl, rfl, rfl, rfl, rfl, rfl, rfl, rfl, rfl, rfl, rfl, rfl, trivial⟩ ?_
    refine NX.seq ?_
    refine TR.condF rfl ?_
    refine TR.skip ?_
    refine NX.off ?_
    refine NX.seq ?_
    refine TR.region ?_
    refine RL.move rfl rfl rfl ?_
    refine RL.bin rfl rfl rfl (BinV.add ((z + 1 : Nat) : Int) (by omega) (by omega) (by omega)) rfl ?_
    refine RL.assign rfl rfl rfl ?_
    refine RL.nil ?_
    refine NX.roundP (z + 1) (by omega) (by omega) ⟨rfl, rfl, rfl, trivial⟩ (fun w hw => (hw.to 1 [] 4 [3] rfl))
  · skip
    refine TR.exit ?_
    refine NX.exitThen ?_
    refine NX.exitThen ?_
    refine NX.exitHere ?_
    refine NX.seq ?_
    refine TR.seq ?_
    refine TR.region ?_
    refine RL.call rfl rfl Tryd.call11 rfl (lives_spec) (fun _ => ?_)
    refine RL.assign rfl rfl rfl ?_
    refine RL.nil ?_
    refine NX.seq ?_
    refine TR.ret ?_
    exact NX.ret1 () rfl rfl rfl (fun w hw => (hw.to 0 [] 1 [] rfl))
end Go.Proofs.YtnolpmigiboanaaDoor

namespace Go.Proofs.YtnolpmigiboanaaDoor
open Go.ChangeShapes Go.WideShapes Go.ChangeAt Go.WideMaps Go.WideElems Go.RowKit Go.GL Go.GL.Tree
theorem own_ : ownKnob Tryd.prog.godebug = none := by kernel_rfl
theorem laidOut_ : laidOutB Tryd.prog = true := by kernel_rfl
theorem sl22 : isSl Tryd.prog 22 3 = true := by kernel_rfl
theorem i64_3 : isI64 Tryd.prog 3 = true := by kernel_rfl
theorem one3 : Nat.beq (Tryd.prog.cellsOf 3) 1 = true := by kernel_rfl
theorem params_ : Tryd.f3.params = #[22, 9, 22] := by kernel_rfl
theorem gKw : Tryd.prog.globalNamed "schemalens/lexer.keywords" = some 0 := by kernel_rfl
theorem gSy : Tryd.prog.globalNamed "schemalens/lexer.symbols" = some 1 := by kernel_rfl
theorem tKw : (Tryd.prog.globals[0]?).map (·.type) = some 81 := by kernel_rfl
theorem tSy : (Tryd.prog.globals[1]?).map (·.type) = some 83 := by kernel_rfl
theorem c9 : Tryd.prog.cellsOf 9 = 1 := by kernel_rfl
theorem uKw : Tryd.prog.underlying 81 = some (.array 26 9) := by kernel_rfl
theorem uSy : Tryd.prog.underlying 83 = some (.array 24 9) := by kernel_rfl
theorem u9 : Tryd.prog.underlying 9 = some .string := by kernel_rfl
def laidL {H : Type} : List (String × DataW H) := [("schemalens/lexer.keywords", Rows.laid_schemalens_lexer_keywords), ("schemalens/lexer.symbols", Rows.laid_schemalens_lexer_symbols)]
theorem cells_of_strs {enc : TypeId × Value → Unit} {W : World} {base : Nat} {spare : Nat → Bool} {held : Bool} {fuel t n : Nat} {cs : List Value} {m : List MemPlace} {ls : List (List UInt8)} (hu : Tryd.prog.underlying t = some (.array n 9)) (hn : ls.length = n) (h : DataW.trod enc Tryd.prog W base spare held fuel t cs = some (.agg (ls.map fun l => .lit (.string l)), m)) : ∀ (j : Nat) v, (stC ls)[j]? = some v → cs[j]? = some v := by
  obtain ⟨xs, f, _, hx, hlen, hxn, hel⟩ := DataW.trod_array hu h
  intro j v hv
  have hj : j < ls.length := by have := (List.getElem?_eq_some_iff.1 hv).1; unfold stC at this; rwa [List.length_map] at this
  have h1 := hel j (by omega)
  have hxj : j < xs.length := by omega
  rw [c9, Nat.mul_one, List.getElem?_eq_getElem hxj] at h1
  obtain ⟨s, e1, e2, _⟩ := DataW.trod_string u9 h1
  have hx1 : ls.map (fun l => (DataW.lit (.string l) : DataW Unit)) = xs.map (·.1) := by
    have := congrArg Prod.fst hx
    simpa using this
  have h2 : (ls.map fun l => (DataW.lit (.string l) : DataW Unit))[j]? = (xs.map (·.1))[j]? := by rw [hx1]
  rw [List.getElem?_map, List.getElem?_map, List.getElem?_eq_getElem hj, List.getElem?_eq_getElem hxj] at h2
  have h3 : (DataW.lit (.string ls[j]) : DataW Unit) = xs[j].1 := by simpa using h2
  rw [e2] at h3
  have h4 : ls[j] = s.data.toList := by simpa using h3
  have h5 : v = S ls[j] := by
    unfold stC at hv
    rw [List.getElem?_map, List.getElem?_eq_getElem hj] at hv
    simpa using hv.symm
  have h6 : cs[j]? = some (.string s) := by
    have := congrArg (fun l : List Value => l[0]?) e1
    simp only [List.getElem?_take, List.getElem?_drop] at this
    simpa using this
  rw [h6, h5, h4, str_S]
theorem heap_of_cell {w : World} {b o : Nat} {v : Value} (h : w.cell? ⟨b, o, none⟩ = some v) : b < w.heap.size := by
  rcases Nat.lt_or_ge b w.heap.size with hb | hb
  · exact hb
  · exfalso; simp [World.cell?, Array.getElem?_eq_none hb] at h
theorem of_laid {W : World} (h : laidMetH Tryd.prog laidL W) : CellsAt W [] 0 0 (stC kwL) ∧ CellsAt W [] 1 0 (stC syL) := by
  rw [MakeChecks.laidMetH_plain _ _ _ (by kernel_rfl)] at h
  obtain ⟨ps, ⟨g0, t0, cs0, f0, p0, q0, hg0, ht0, hv0, hd0, ⟨g1, t1, cs1, f1, p1, q1, hg1, ht1, hv1, hd1, _, _⟩, _⟩, _, _⟩ := h
  obtain rfl := Option.some.inj (gKw.symm.trans hg0)
  obtain rfl := Option.some.inj (gSy.symm.trans hg1)
  obtain rfl := Option.some.inj (tKw.symm.trans ht0)
  obtain rfl := Option.some.inj (tSy.symm.trans ht1)
  have k0 := cells_of_strs (ls := kwL) uKw rfl hd0
  have k1 := cells_of_strs (ls := syL) uSy rfl hd1
  have e0 : ∀ (j : Nat) v, (stC kwL)[j]? = some v → W.cell? ⟨0, 0 + j, none⟩ = some v := fun j v hv => by
    rw [Nat.zero_add, World.var?_cell gKw hv0 j, ← Array.getElem?_toList]; exact k0 j v hv
  have e1 : ∀ (j : Nat) v, (stC syL)[j]? = some v → W.cell? ⟨1, 0 + j, none⟩ = some v := fun j v hv => by
    rw [Nat.zero_add, World.var?_cell gSy hv1 j, ← Array.getElem?_toList]; exact k1 j v hv
  exact ⟨⟨by simp, heap_of_cell (e0 0 _ rfl), e0⟩, ⟨by simp, heap_of_cell (e1 0 _ rfl), e1⟩⟩
theorem door_met (os : Os) (args : Array Value) : laidMetH Tryd.prog laidL ((World.doorLaid Tryd.prog 19 os).forCall (fun _ _ => 0) ⟨#[], args, []⟩).memory :=
  laidMetH_of_parts3 (fuel := 8) (laidMet_of_run' 8 (by kernel_rfl) (by kernel_rfl)) (by kernel_rfl) (by kernel_rfl)
set_option maxRecDepth 100000 in
theorem lifted (os : Os) (started : os.Started) (H : Type) (enc : TypeId × Value → H) :
    ReturnsInHanded {} Tryd.checked os 3 .any (fun w args => (Rows.syntaxTokensSpec.pre enc Tryd.prog Tryd.f3 [] false w args ∧ laidMetH Tryd.prog laidL w) ∧ sizedMet enc Tryd.prog Tryd.f3 (OpenSpec.ofChange Rows.syntaxTokensSpec) false w args)
      (Rows.syntaxTokensSpec.post enc Tryd.prog Tryd.f3 false true false false) := by
  refine returnsInHanded_of_change_and (C := Tryd.checked) (X := fun w _ => laidMetH Tryd.prog laidL w) (fun _ _ _ hh h => h.of_heap hh) own_ started (by kernel_rfl) Tryd.func3
    (ChangeSpec.witness_shaped (enc := enc) (C := Tryd.checked) (os := os) (X := fun w _ => laidMetH Tryd.prog laidL w) false (World.doorLaid Tryd.prog 19 os) #[.slice none 0 0, .string .empty, .slice none 0 0] 8 rfl (World.shaped_of_RefB (by kernel_rfl) (by kernel_rfl)) (by kernel_rfl) (by kernel_rfl) (by kernel_rfl) (door_met os _)) ?_
  intro W base args ds gs before hval0 hW _ _ hL _
  have hval : ∀ (j : Nat) t v, Tryd.f3.params[j]? = some t → args[j]? = some v → Value.okWide Tryd.prog W .any base t v := hval0
  have hW' := hW
  obtain ⟨p, q, hA0, hV, rfl, hfz, hnd⟩ := hW
  have hA : DataW.TrodAll enc Tryd.prog W 0 (fun _ => true) true Tryd.f3.params.toList args.toList ds p := hA0
  rw [params_] at hA hval
  obtain ⟨v0, vs0, d0, ds0, p0, q0, hargs, rfl, rfl, h0, r0⟩ := trodAll_cons hA
  obtain ⟨v1, vs1, d1, ds1, p1, q1, rfl, rfl, rfl, h1, r1⟩ := trodAll_cons r0
  obtain ⟨v2, vs2, d2, ds2, p2, q2, rfl, rfl, rfl, h2, r2⟩ := trodAll_cons r1
  obtain ⟨rfl, rfl, rfl⟩ := trodAll_nil r2
  obtain rfl : args = #[v0, v1, v2] := by cases args; simp_all
  obtain ⟨oa0, ca0, xs0, rfl, hxa0, hxl0, hxm0, hxr0⟩ := in_ints1 sl22 i64_3 one3 (hval 0 22 v0 rfl rfl) h0
  have hok0 : IntsOk xs0 := ⟨by simp [maxLen] at hxm0; omega, hxr0⟩
  obtain ⟨ba1, rfl⟩ := okWide_string u9 (hval 1 9 v1 rfl rfl)
  obtain ⟨oa2, ca2, xs2, rfl, hxa2, hxl2, hxm2, hxr2⟩ := in_ints1 sl22 i64_3 one3 (hval 2 22 v2 rfl rfl) h2
  have hok2 : IntsOk xs2 := ⟨by simp [maxLen] at hxm2; omega, hxr2⟩
  obtain ⟨hkw, hsy⟩ := of_laid hL
  have hwalk := law_run (W := W) (law_tokens (xs := xs0) (ys := xs2) (oa := oa0) (ob := oa2) (ca := ca0) (cb := ca2) (ba := ba1) (M := []) (F := [OldF W, ArrF oa0 (ints xs0), ArrF oa2 (ints xs2), CellsF 0 0 (stC kwL), CellsF 1 0 (stC syL)]) (.tail _ (.head _)) hok0 (.tail _ (.tail _ (.head _))) hok2 (.tail _ (.tail _ (.tail _ (.head _)))) (.tail _ (.tail _ (.tail _ (.tail _ (.head _)))))) (fun φ hφ => by
      rcases List.mem_cons.1 hφ with e | hφ
      · subst e; exact hxa0
      rcases List.mem_cons.1 hφ with e | hφ
      · subst e; exact hxa2
      rcases List.mem_cons.1 hφ with e | hφ
      · subst e; exact hkw
      rcases List.mem_cons.1 hφ with e | hφ
      · subst e; exact hsy
      cases hφ)
  exact hwalk.mono fun e W' ⟨he, hb⟩ => ⟨_, he, law_post (tb := 4) laidOut_ (by kernel_rfl) rfl (by kernel_rfl) (by kernel_rfl) rfl hW' hb⟩
theorem syntaxTokens_said : Rows.SyntaxTokensSaid :=
  OpenClaim.holds_of_wide 3 Tryd.f3 rfl rfl rfl rfl rfl rfl rfl ⟨rfl, rfl, rfl, rfl, rfl⟩ rfl rfl rfl rfl rfl (by kernel_rfl) Tryd.func3 (by kernel_rfl)
    (of_decide_eq_true (by kernel_rfl)) (by unfold Func.isWrapper; first | (rw [if_pos (by decide +kernel)]; kernel_rfl) | (rw [if_neg (by decide +kernel)]; exact ⟨rfl, rfl⟩))
    (fun os started H enc _ => lifted os started H enc)
theorem syntaxTokens_holds : Rows.SyntaxTokensCardSaid :=
  Claim7.holds_tied_plain_at .later [] [.widerDeep, .data] true (true, "57db3a25e46d080ebd0f9b42ec1ae0efc824ce010aaf62cbe7211372d8a36248") false
    syntaxTokens_said (fun _ h => by cases h) (by kernel_rfl) (fun _ h => by cases h) syntaxTokens_row_tie rfl ⟨rfl, rfl⟩ (by kernel_rfl) rfl
    (fun f fn hf hfn => by
      obtain rfl : f = 3 := Option.some.inj ((show Tryd.prog.funcNamed "schemalens/schemalenslaw07.SyntaxTokens" = some 3 by kernel_rfl).symm.trans hf) |>.symm
      obtain rfl : fn = Tryd.f3 := (Option.some.inj (Tryd.func3.symm.trans hfn)).symm
      exact ⟨by kernel_rfl, fun j t ht => by
        rw [params_] at ht
        have hm : t ∈ [22, 9, 22] := by simpa using Array.mem_of_getElem? ht
        have hall : ([22, 9, 22].all fun u => !Tryd.prog.wantsStandIn u) = true := by kernel_rfl
        exact (show Tryd.prog.wantsStandIn t = false by simpa using List.all_eq_true.1 hall t hm)⟩)
    (by kernel_rfl)
end Go.Proofs.YtnolpmigiboanaaDoor
