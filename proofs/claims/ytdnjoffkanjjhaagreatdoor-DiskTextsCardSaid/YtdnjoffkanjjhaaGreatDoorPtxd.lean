/- Lemmas and walks for the proof of TexJ: texts one behind the other. No condition. -/
import Derived.Sort.EveryDepth
import Derived.Sort.OwnSortedInts
import Derived.Shelf.Sort.AssemblyIn
import Derived.Test.YtdnjoffkanjjhaaGreatDoorChecked
import Derived.Shelf.SlMaps.Clone
import Derived.Test.YtdnjoffkanjjhaaGreatDoorPtxc
set_option linter.unusedVariables false
set_option linter.unusedSimpArgs false
namespace Go.GL
open Go.Shelf Go.Sort Go.Proofs
theorem ci_of_calls {P : Program} {f : FuncId} {args : Array Value} {w : World} {R : Ending → World → Prop} (h : Calls P f args w R) : CI P f args w R := (callsIn_wide (n := 0)).2 h
def srt (l : List Int) : List Int := l.mergeSort fun x y => decide (x ≤ y)
theorem srt_perm (l : List Int) : (srt l).Perm l := List.mergeSort_perm _ _
theorem srt_len (l : List Int) : (srt l).length = l.length := (srt_perm l).length_eq
theorem srt_nil : srt [] = [] := by unfold srt; simp
theorem srt_sorted (l : List Int) : (srt l).Pairwise (· ≤ ·) := by
  have h := List.pairwise_mergeSort (le := fun x y : Int => decide (x ≤ y)) (fun a b c h1 h2 => by simp only [decide_eq_true_eq] at *; omega) (fun a b => by simp only [Bool.or_eq_true, decide_eq_true_eq]; omega) l
  exact h.imp fun {a b} h => by simpa using h
theorem srt_of_perm {l l' : List Int} (h : l.Perm l') : srt l = srt l' := by
  refine List.Perm.eq_of_pairwise (le := fun a b : Int => a ≤ b) (fun a b _ _ h1 h2 => by omega) (srt_sorted l) (srt_sorted l') (((srt_perm l).trans h).trans (srt_perm l').symm)
theorem sortG {P : Program} {ρ : Ren} (Ly : Lays.n189 P ρ) {e g c : Nat} {l : List Int} {M : List HP} {F : List Fact} (hl : l.length < 4611686018427387904) :
    Ctr P (ρ.f 189) [.slice (some ⟨g, 0, none⟩) l.length c] (OwnSl e 1 (some ⟨g, 0, none⟩) l.length c (ints l) :: M) F Unit (fun _ => .tuple #[]) (fun _ => OwnSl e 1 (some ⟨g, 0, none⟩) l.length c (ints (srt l)) :: M) (fun _ => F) := fun w hw => by
  obtain ⟨K, ⟨K1, K2, eK, h1, h2⟩, hn, hf⟩ := hw
  rcases h1.1.2 with ⟨h0, _⟩ | ⟨g', cap', cur, hv, hbase, hb, r1, r2, r3, r4⟩
  · cases h0
  simp only [Value.slice.injEq, Option.some.injEq, Addr.mk.injEq] at hv
  obtain ⟨⟨rfl, _⟩, _, rfl⟩ := hv
  have hg : g < w.heap.size := (Array.getElem?_eq_some_iff.1 hb).1
  rw [Nat.mul_one] at r4
  have hc := calls_of_every_depth fun D => AnyS.slices_Sort_int_in Ly D g 0 c l w (holds_of_blockI hb r4) hg hl
  refine CallsIn.mono (ci_of_calls hc) ?_
  rintro e' w' ⟨rfl, n, os, rfl⟩
  refine ⟨(), rfl, ?_⟩
  obtain ⟨g1, g2, g3, g4, g5⟩ := grownBy_sortedI (w := w) (g := g) (n := n) (os := os) (srt l).toArray
  have hst : St w (OwnSl e 1 (some ⟨g, 0, none⟩) l.length c (ints l) :: M) F := ⟨K, ⟨K1, K2, eK, h1, h2⟩, hn, hf⟩
  refine hst.turn g1 g2 g3 g4 fun K' hp => ?_
  have hK' : K' = [g] := hp.2
  refine ⟨[g], ⟨?_, rfl⟩, by simp, fun b hbm => .inl (by rw [hK']; exact hbm), fun b hbl hbn => ?_⟩
  · have h9 := ownsRow_sortedI (w := w) (base := 0) (g := g) (cap := c) (n := n) (e := e) (os := os) (cur := cur) (ss := l) (ts := srt l) (srt_len l) (Nat.zero_le _) hb r1 r2 r3
    exact h9
  · refine g5 b hbl fun e2 => hbn ?_
    rw [hK']; simp at e2; simp [e2]
theorem lenG {P : Program} {ρ : Ren} (Ly : Lays.n125 P ρ) {n : Nat} {M : List HP} {F : List Fact} (hn : n < 4611686018427387904) :
    Ctr P (ρ.f 125) [U n] M F Int (fun z => I z) (fun _ => M) (fun _ => F) := fun w hw => by
  refine CallsIn.mono (ci_of_calls (calls_of_every_depth fun D => Any.lenWalkInAll Ly D n w hn)) ?_
  rintro e w' ⟨rfl, rfl⟩
  exact ⟨_, rfl, hw⟩
end Go.GL

namespace Go.Proofs.YtdnjoffkanjjhaaGreatDoor
open Go.GL
set_option linter.unusedVariables false
theorem yd_bs22_1_0 (x0 : Int) : BuildSV Tryz.prog 22 3 1 [(0, .int .i64 x0)] [.int .i64 x0] := fun w => by kernel_rfl
theorem yd_ni22 : noInt Tryz.prog 22 = true := by kernel_rfl
theorem yd_te3 : tyElem Tryz.prog 3 1 8 = true := by kernel_rfl
theorem yd_tl22 : tySlice Tryz.prog 22 3 = true := by kernel_rfl
theorem yd_tm55 : tyMap Tryz.prog 55 3 69 = true := by kernel_rfl
theorem yd_ts22 : tyScalar Tryz.prog 22 = true := by kernel_rfl
theorem yd_ts55 : tyScalar Tryz.prog 55 = true := by kernel_rfl
def keyEnc : Int → List Value → Prop := fun n args => args = [I n]
theorem keyEnc_len (x : Int) (args : List Value) (h : keyEnc x args) : args.length = 1 := by rw [show args = [I x] from h]; rfl
theorem keys_step {keys pre left : List Int} {nk : Int} (hn : keys.Nodup) (h : (pre ++ left).Perm keys) (hm : nk ∈ left) : (pre ++ nk :: left.filter fun y => !decide (y = nk)).Perm keys ∧ ((pre ++ [nk]) ++ left.filter fun y => !decide (y = nk)).Perm keys := by
  have n2 := (List.nodup_append.1 (h.nodup_iff.2 hn)).2.1
  have h1 : (pre ++ nk :: left.filter fun y => !decide (y = nk)).Perm keys := by
    refine List.Perm.trans (List.Perm.append_left pre ?_) h
    refine (List.perm_ext_iff_of_nodup ?_ n2).2 fun a => ?_
    · rw [List.nodup_cons]
      exact ⟨fun h => by simp at h, n2.sublist List.filter_sublist⟩
    · by_cases e : a = nk
      · subst e; simp [hm]
      · simp [e]
  exact ⟨h1, by rw [List.append_assoc]; exact h1⟩
theorem keys_iter {bm m : Nat} {kvs : KV} {F : List Fact} (hk : (kvs.map Prod.fst).Nodup) : IterG Tryz.prog 61 [.pointer (some ⟨bm, 0, none⟩)] keyEnc (fun pre x => ∃ suf, (pre ++ x :: suf).Perm (kvs.map Prod.fst)) (fun xs => xs.Perm (kvs.map Prod.fst)) [Box bm 55 [.map (some m)], MpB m kvs] F := by
  intro l J hY Mi G hG
  refine Ctr.weak (M := [Box bm 55 [.map (some m)], MpB m kvs] ++ (J [] ++ Mi)) (M' := fun xs : {xs : List Int // xs.Perm (kvs.map Prod.fst)} => [Box bm 55 [.map (some m)], MpB m kvs] ++ (J xs.1 ++ Mi)) (F := G) (F' := fun _ => G) ?_ (fun w hw => hw.perm (perm_mid _ _ _)) id (fun _ => rfl) (fun i w hw => hw.perm (perm_mid _ _ _))
  refine Ctr.body Tryz.func61 rfl rfl ?_
  refine TR.seq ?_
  refine TR.region ?_
  refine RL.load1 0 rfl yd_ts55 rfl rfl rfl rfl ?_
  refine RL.ofGV rfl rfl (GV.range 1 yd_tm55 rfl rfl) (fun q => ?_)
  refine RL.nil ?_
  refine NX.seq ?_
  refine TR.block ?_
  refine TR.loopP (ι := (List Int × List Int × Option Int)) (fun x => (x.1 ++ x.2.1).Perm (kvs.map Prod.fst)) (fun x => [(0, .func (.yield l) #[] #[]), (5, .pointer (some ⟨q, 0, none⟩))]) (fun x => Box bm 55 [.map (some m)] :: RgB m q kvs x.2.1 x.2.2 :: (J x.1 ++ Mi)) (fun _ => G) (fun x => x.2.1.length) ([], kvs.map Prod.fst, none) (List.Perm.refl _) ⟨rfl, rfl, trivial⟩ (fun w hw => hw) (fun x hx => ?_)
  refine TR.seq ?_
  refine TR.region ?_
  refine RL.ofGV rfl rfl (GV.next 1 rfl rfl) (fun nx => ?_)
  obtain ⟨_ | nx, hnx⟩ := nx
  · skip
    refine RL.extract rfl rfl rfl rfl ?_
    refine RL.nil ?_
    refine NX.seq ?_
    refine TR.seq ?_
    refine TR.condF rfl ?_
    refine TR.exit ?_
    refine NX.exitThen ?_
    refine NX.exitThen ?_
    refine NX.exitHere ?_
    have hl : x.2.1 = [] := hnx
    exact NX.end0 (⟨x.1, by have h9 := hx; rw [hl, List.append_nil] at h9; exact h9⟩ : {xs : List Int // xs.Perm (kvs.map Prod.fst)}) rfl rfl (fun w hw => hw)
  · skip
    refine RL.extract rfl rfl rfl rfl ?_
    refine RL.nil ?_
    refine NX.seq ?_
    refine TR.seq ?_
    refine TR.condT rfl ?_
    refine TR.skip ?_
    refine NX.seq ?_
    refine TR.block ?_
    refine TR.seq ?_
    refine TR.region ?_
    obtain ⟨nk, nv⟩ := nx
    have hst := keys_step hk hx hnx.1
    refine RL.entry 1 rfl rfl rfl hnx.2 rfl ?_
    refine RL.extract rfl rfl rfl rfl ?_
    refine RL.assign rfl rfl rfl ?_
    refine RL.nil ?_
    refine NX.seq ?_
    refine TR.seq ?_
    refine TR.region ?_
    refine RL.move rfl rfl rfl ?_
    refine RL.move rfl rfl rfl ?_
    refine RL.callYield rfl rfl rfl rfl (YSpec.frame [_, _] (hY x.1 nk _ ⟨_, hst.1⟩ rfl ([_, _] ++ Mi) G hG)) ?_
    refine RL.not rfl rfl rfl ?_
    refine RL.nil ?_
    refine NX.seq ?_
    refine TR.condF rfl ?_
    refine TR.skip ?_
    refine NX.off ?_
    exact NX.roundP (x.1 ++ [nk], x.2.1.filter fun y => !decide (y = nk), some nk) hst.2 (left_lt hnx.1) ⟨rfl, rfl, trivial⟩ (fun w hw => hw)
theorem mkeys_spec {m : Nat} {M : List HP} {F : List Fact} : Ctr Tryz.prog 51 [.map (some m)] M F Nat (fun bm => .func (.func 61) #[] #[.pointer (some ⟨bm, 0, none⟩)]) (fun bm => Box bm 55 [.map (some m)] :: M) (fun _ => F) := by
  refine Ctr.body Tryz.func51 rfl rfl ?_
  refine TR.seq ?_
  refine TR.region ?_
  refine RL.box1 rfl rfl rfl rfl (fun b1 => ?_)
  refine RL.assign rfl rfl rfl ?_
  refine RL.nil ?_
  refine NX.seq ?_
  refine TR.seq ?_
  refine TR.region ?_
  refine RL.makeFunc rfl rfl rfl rfl ?_
  refine RL.assign rfl rfl rfl ?_
  refine RL.nil ?_
  refine NX.seq ?_
  refine TR.ret ?_
  exact NX.ret1 b1 rfl rfl rfl (fun w hw => hw)
def IntB (b1 : Nat) (xs : List Int) : HP := Ex (ι := Option Addr × Nat) fun i => [Box b1 22 [.slice i.1 xs.length i.2], OwnSl 3 1 i.1 xs.length i.2 (ints xs)]
theorem apseq_spec {gf : FuncId} {cap : List Value} {step : List Int → Int → Prop} {fin : List Int → Prop} {L0 M : List HP} {F : List Fact} (hcall : ∀ args w, (callFunc gf args).run Tryz.prog w = .ok (.enter gf args) w) (hit : IterG Tryz.prog gf cap keyEnc step fin L0 F) (hst : ∀ pre x, step pre x → pre.length < 1000) : Ctr Tryz.prog 67 [.slice none 0 0, .func (.func gf) #[] cap.toArray] (L0 ++ M) F {z : List Int × Option Addr × Nat // fin z.1} (fun z => .slice z.1.2.1 z.1.1.length z.1.2.2) (fun z => OwnSl 3 1 z.1.2.1 z.1.1.length z.1.2.2 (ints z.1.1) :: (L0 ++ M)) (fun _ => F) := by
  refine Ctr.bodyM Tryz.func67 rfl rfl ?_
  refine TR.seq ?_
  refine TR.region ?_
  refine RL.box1 rfl rfl rfl rfl (fun b1 => ?_)
  refine RL.assign rfl rfl rfl ?_
  refine RL.nil ?_
  refine NX.seq ?_
  refine TR.seq ?_
  refine TR.seq ?_
  refine TR.region ?_
  refine RL.move rfl rfl rfl ?_
  refine RL.nil ?_
  refine NX.seq ?_
  refine TR.block ?_
  refine TR.rangeFuncG (κ := Unit) rfl hcall (by simp) keyEnc_len hit (fun pre => [IntB b1 pre]) M (fun w hw => (by have h9 := hw.tail; exact St.exClose (M0 := fun i : Option Addr × Nat => [Box b1 22 [.slice i.1 ([] : List Int).length i.2], OwnSl 3 1 i.1 ([] : List Int).length i.2 (ints [])]) (none, 0) (show St w ([_, _] ++ (L0 ++ M)) F from (OwnSl.nil_new 3 1 hw).swap))) (fun pre x args _ => [(2, .pointer (some ⟨b1, 0, none⟩)), (5, I x)]) (fun pre x args _ => [IntB b1 pre]) ?as0 ?bd0 ?ki0
  case as0 =>
    intro l pre x args hx he Mi G hG
    obtain rfl : args = [I x] := he
    have hpl := hst pre x hx
    refine TR.region ?_
    refine RL.assign rfl rfl rfl ?_
    refine RL.nil ?_
    exact NX.meet () ⟨rfl, rfl, trivial⟩ (fun w hw => hw)
  case bd0 =>
    intro l pre x args i hx he Mi G hG
    obtain rfl : args = [I x] := he
    have hpl := hst pre x hx
    refine TR.open (fun w hw => (St.exOpen (show St w (Ex _ :: _) G from hw))) (fun oc => ?_)
    refine TR.block ?_
    refine TR.region ?_
    refine RL.load1 0 rfl yd_ts22 rfl rfl rfl rfl ?_
    refine RL.move rfl rfl rfl ?_
    refine RL.buildSlice rfl rfl (yd_bs22_1_0 _) rfl (fun b2 => ?_)
    refine RL.ofGV rfl rfl (GV.append (j := 2) yd_tl22 yd_ni22 yd_te3 rfl rfl rfl (src_box (i := 0) rfl rfl rfl) (by omega) (by omega)) (fun z => ?_)
    refine RL.store1 1 rfl yd_ts22 rfl rfl rfl rfl rfl ?_
    refine RL.nil ?_
    refine NX.off ?_
    exact fun aa w _ hw => by
      have h9 : St w (Box b1 22 [.slice z.1 (pre.length + 1) z.2] :: OwnSl 3 1 z.1 (pre.length + 1) z.2 (ints pre ++ [I x]) :: Mi) G := hw.drop 0 rfl
      refine St.exClose (M0 := fun i : Option Addr × Nat => [Box b1 22 [.slice i.1 (pre ++ [x]).length i.2], OwnSl 3 1 i.1 (pre ++ [x]).length i.2 (ints (pre ++ [x]))]) z ?_
      rw [List.length_append, show ints (pre ++ [x]) = ints pre ++ [I x] from List.map_append]
      exact h9
  case ki0 =>
    intro xs hfin D
    refine NX.off ?_
    refine NX.seq ?_
    refine TR.seq ?_
    refine TR.pick 2 [1, 0] rfl ?_
    refine TR.open (fun w hw => (St.exOpen (show St w (Ex _ :: _) F from hw))) (fun oc => ?_)
    refine TR.region ?_
    refine RL.load1 0 rfl yd_ts22 rfl rfl rfl rfl ?_
    refine RL.assign rfl rfl rfl ?_
    refine RL.nil ?_
    refine NX.seq ?_
    refine TR.ret ?_
    refine NX.retM 2 (⟨(xs, oc), hfin⟩ : {z : List Int × Option Addr × Nat // fin z.1}) rfl rfl rfl rfl (fun w hw => ?_)
    exact hw.drop 0 rfl
end Go.Proofs.YtdnjoffkanjjhaaGreatDoor

namespace Go.Proofs
open Go.Shelf
def Tryz.lays189_ren : Go.Shelf.Ren := ⟨fun | 189 => 60 | 125 => 69 | 257 => 68 | 128 => 88 | 129 => 89 | 294 => 79 | 295 => 80 | 296 => 81 | 297 => 82 | 298 => 83 | 299 => 84 | 216 => 85 | 300 => 86 | 301 => 87 | 328 => 94 | 329 => 95 | 330 => 96 | 331 => 97 | 332 => 98 | 215 => 99 | 343 => 107 | n => n, fun | 28 => 22 | 3 => 3 | 46 => 97 | 0 => 0 | 51 => 130 | 53 => 64 | 4 => 4 | 183 => 122 | 182 => 121 | 131 => 127 | 5 => 5 | 9 => 9 | 218 => 137 | 222 => 140 | 228 => 147 | 229 => 103 | n => n, fun | n => n⟩
theorem Tryz.lays189 : Go.Proofs.Lays.n189 Tryz.prog Tryz.lays189_ren := {
  mixed := by kernel_rfl
  f125 := Tryz.func69.trans (congrArg some (by kernel_rfl))
  f128 := Tryz.func88.trans (congrArg some (by kernel_rfl))
  f129 := Tryz.func89.trans (congrArg some (by kernel_rfl))
  f189 := Tryz.func60.trans (congrArg some (by kernel_rfl))
  f215 := Tryz.func99.trans (congrArg some (by kernel_rfl))
  f216 := Tryz.func85.trans (congrArg some (by kernel_rfl))
  f257 := Tryz.func68.trans (congrArg some (by kernel_rfl))
  f294 := Tryz.func79.trans (congrArg some (by kernel_rfl))
  f295 := Tryz.func80.trans (congrArg some (by kernel_rfl))
  f296 := Tryz.func81.trans (congrArg some (by kernel_rfl))
  f297 := Tryz.func82.trans (congrArg some (by kernel_rfl))
  f298 := Tryz.func83.trans (congrArg some (by kernel_rfl))
  f299 := Tryz.func84.trans (congrArg some (by kernel_rfl))
  f300 := Tryz.func86.trans (congrArg some (by kernel_rfl))
  f301 := Tryz.func87.trans (congrArg some (by kernel_rfl))
  f328 := Tryz.func94.trans (congrArg some (by kernel_rfl))
  f329 := Tryz.func95.trans (congrArg some (by kernel_rfl))
  f330 := Tryz.func96.trans (congrArg some (by kernel_rfl))
  f331 := Tryz.func97.trans (congrArg some (by kernel_rfl))
  f332 := Tryz.func98.trans (congrArg some (by kernel_rfl))
  f343 := Tryz.func107.trans (congrArg some (by kernel_rfl))
  t0 := Tryz.underlying0
  a0 := Tryz.isAgg0
  z0 := Tryz.sizeOf0
  v0 := Tryz.zeroValue0
  t3 := Tryz.underlying3
  a3 := Tryz.isAgg3
  z3 := Tryz.sizeOf3
  v3 := Tryz.zeroValue3
  t4 := Tryz.underlying4
  a4 := Tryz.isAgg4
  z4 := Tryz.sizeOf4
  v4 := Tryz.zeroValue4
  t5 := Tryz.underlying5
  a5 := Tryz.isAgg5
  z5 := Tryz.sizeOf5
  v5 := Tryz.zeroValue5
  t9 := Tryz.underlying9
  a9 := Tryz.isAgg9
  z9 := Tryz.sizeOf9
  v9 := Tryz.zeroValue9
  t28 := Tryz.underlying22
  a28 := Tryz.isAgg22
  z28 := Tryz.sizeOf22
  v28 := Tryz.zeroValue22
  t46 := Tryz.underlying97
  a46 := Tryz.isAgg97
  z46 := Tryz.sizeOf97
  v46 := Tryz.zeroValue97
  t51 := Tryz.underlying130
  a51 := Tryz.isAgg130
  z51 := Tryz.sizeOf130
  v51 := Tryz.zeroValue130
  t53 := Tryz.underlying64
  a53 := Tryz.isAgg64
  z53 := Tryz.sizeOf64
  v53 := Tryz.zeroValue64
  t131 := Tryz.underlying127
  a131 := Tryz.isAgg127
  z131 := Tryz.sizeOf127
  v131 := Tryz.zeroValue127
  t182 := Tryz.underlying121
  a182 := Tryz.isAgg121
  z182 := Tryz.sizeOf121
  v182 := Tryz.zeroValue121
  t183 := Tryz.underlying122
  a183 := Tryz.isAgg122
  z183 := Tryz.sizeOf122
  v183 := Tryz.zeroValue122
  t218 := Tryz.underlying137
  a218 := Tryz.isAgg137
  z218 := Tryz.sizeOf137
  v218 := Tryz.zeroValue137
  t222 := Tryz.underlying140
  a222 := Tryz.isAgg140
  z222 := Tryz.sizeOf140
  v222 := Tryz.zeroValue140
  t228 := Tryz.underlying147
  a228 := Tryz.isAgg147
  z228 := Tryz.sizeOf147
  v228 := Tryz.zeroValue147
  t229 := Tryz.underlying103
  a229 := Tryz.isAgg103
  z229 := Tryz.sizeOf103
  v229 := Tryz.zeroValue103 }
end Go.Proofs

namespace Go.Proofs.YtdnjoffkanjjhaaGreatDoor
open Go.GL
set_option linter.unusedVariables false
theorem ye_tf57_0 : fieldOff Tryz.prog 57 0 0 = true := by kernel_rfl
theorem ye_ti3 : tyInt Tryz.prog 3 .i64 = true := by kernel_rfl
theorem ye_ti97 : tyInt Tryz.prog 97 .u64 = true := by kernel_rfl
theorem ye_tl22 : tySlice Tryz.prog 22 3 = true := by kernel_rfl
theorem ye_ts55 : tyScalar Tryz.prog 55 = true := by kernel_rfl
theorem collect_spec {gf : FuncId} {cap : List Value} {step : List Int → Int → Prop} {fin : List Int → Prop} {L0 M : List HP} {F : List Fact} (hcall : ∀ args w, (callFunc gf args).run Tryz.prog w = .ok (.enter gf args) w) (hit : IterG Tryz.prog gf cap keyEnc step fin L0 F) (hst : ∀ pre x, step pre x → pre.length < 1000) : Ctr Tryz.prog 59 [.func (.func gf) #[] cap.toArray] (L0 ++ M) F {z : List Int × Option Addr × Nat // fin z.1} (fun z => .slice z.1.2.1 z.1.1.length z.1.2.2) (fun z => OwnSl 3 1 z.1.2.1 z.1.1.length z.1.2.2 (ints z.1.1) :: (L0 ++ M)) (fun _ => F) := by
  refine Ctr.body Tryz.func59 rfl rfl ?_
  refine TR.seq ?_
  refine TR.region ?_
  refine RL.assign rfl rfl rfl ?_
  refine RL.nil ?_
  refine NX.seq ?_
  refine TR.seq ?_
  refine TR.region ?_
  refine RL.move rfl rfl rfl ?_
  refine RL.call rfl rfl Tryz.call67 rfl (apseq_spec hcall hit hst) (fun z => ?_)
  refine RL.assign rfl rfl rfl ?_
  refine RL.nil ?_
  refine NX.seq ?_
  refine TR.ret ?_
  exact NX.ret1 z rfl rfl rfl (fun w hw => hw)
theorem sort_nil {M : List HP} {F : List Fact} : Ctr Tryz.prog 60 [.slice none 0 0] (OwnSl 3 1 none 0 0 (ints []) :: M) F Unit (fun _ => .tuple #[]) (fun _ => OwnSl 3 1 none 0 0 (ints []) :: M) (fun _ => F) := by
  refine Ctr.body Tryz.func60 rfl rfl ?_
  refine TR.seq ?_
  refine TR.region ?_
  refine RL.move rfl rfl rfl ?_
  refine RL.lenSlice rfl ye_tl22 rfl rfl ?_
  refine RL.assign rfl rfl rfl ?_
  refine RL.nil ?_
  refine NX.seq ?_
  refine TR.region ?_
  refine RL.move rfl rfl rfl ?_
  refine RL.move rfl rfl rfl ?_
  refine RL.move rfl rfl rfl ?_
  refine RL.conv rfl rfl (ConvV.iu (n := 0) ye_ti3 ye_ti97 (by decide)) rfl ?_
  refine RL.call rfl rfl Tryz.call69 rfl (lenG (ρ := Tryz.lays189_ren) { Tryz.lays189 with } (n := 0) (by decide)) (fun zl => ?_)
  refine RL.call rfl rfl Tryz.call68 rfl (pdq_spec (l0 := []) (by decide) (by decide)) (fun z => ?_)
  refine RL.nil ?_
  exact NX.end0 () rfl rfl (fun w hw => by have h9 := List.perm_nil.1 z.2.1; rw [h9] at hw; exact hw)
theorem sort_spec {l : List Int} {oa : Option Addr} {c : Nat} {M : List HP} {F : List Fact} (hl : l.length < 4611686018427387904) :
    Ctr Tryz.prog 60 [.slice oa l.length c] (OwnSl 3 1 oa l.length c (ints l) :: M) F Unit (fun _ => .tuple #[]) (fun _ => OwnSl 3 1 oa l.length c (ints (srt l)) :: M) (fun _ => F) := by
  have key : ∀ w, St w (OwnSl 3 1 oa l.length c (ints l) :: M) F → (oa = none ∧ l = [] ∧ c = 0) ∨ ∃ g, oa = some ⟨g, 0, none⟩ := by
    intro w hw
    obtain ⟨K, ⟨K1, K2, eK, h1, h2⟩, hn, hf⟩ := hw
    rcases h1.1.2 with ⟨h0, h0'⟩ | ⟨g', cap', cur, hv, _⟩
    · simp only [Value.slice.injEq] at h0
      exact .inl ⟨h0.1, List.length_eq_zero_iff.1 h0.2.1, h0.2.2⟩
    · simp only [Value.slice.injEq] at hv
      exact .inr ⟨g', hv.1⟩
  intro w hw
  rcases key w hw with ⟨rfl, rfl, rfl⟩ | ⟨g, rfl⟩
  · rw [srt_nil]; exact sort_nil w hw
  · exact sortG Tryz.lays189 hl w hw
theorem sorted_spec {gf : FuncId} {cap : List Value} {step : List Int → Int → Prop} {fin : List Int → Prop} {L0 M : List HP} {F : List Fact} (hcall : ∀ args w, (callFunc gf args).run Tryz.prog w = .ok (.enter gf args) w) (hit : IterG Tryz.prog gf cap keyEnc step fin L0 F) (hst : ∀ pre x, step pre x → pre.length < 1000) (hfl : ∀ xs, fin xs → xs.length ≤ 1000) : Ctr Tryz.prog 50 [.func (.func gf) #[] cap.toArray] (L0 ++ M) F {z : List Int × Option Addr × Nat // fin z.1} (fun z => .slice z.1.2.1 z.1.1.length z.1.2.2) (fun z => OwnSl 3 1 z.1.2.1 z.1.1.length z.1.2.2 (ints (srt z.1.1)) :: (L0 ++ M)) (fun _ => F) := by
  refine Ctr.body Tryz.func50 rfl rfl ?_
  refine TR.seq ?_
  refine TR.region ?_
  refine RL.assign rfl rfl rfl ?_
  refine RL.nil ?_
  refine NX.seq ?_
  refine TR.seq ?_
  refine TR.region ?_
  refine RL.move rfl rfl rfl ?_
  refine RL.call rfl rfl Tryz.call59 rfl (collect_spec hcall hit hst) (fun z => ?_)
  refine RL.assign rfl rfl rfl ?_
  refine RL.nil ?_
  refine NX.seq ?_
  refine TR.seq ?_
  refine TR.region ?_
  refine RL.move rfl rfl rfl ?_
  refine RL.call rfl rfl Tryz.call60 rfl (sort_spec (by have := hfl z.1.1 z.2; omega)) (fun _ => ?_)
  refine RL.nil ?_
  refine NX.seq ?_
  refine TR.seq ?_
  refine TR.region ?_
  refine RL.move rfl rfl rfl ?_
  refine RL.assign rfl rfl rfl ?_
  refine RL.nil ?_
  refine NX.seq ?_
  refine TR.ret ?_
  exact NX.ret1 z rfl rfl rfl (fun w hw => hw)
theorem fs_few {fs : Fs} (h : OkF fs) : fs.length ≤ 64 := by
  have h1 : (fs.map fun p => p.1.toNat).Nodup := by
    have h2 := h.keys
    unfold List.Nodup at h2 ⊢
    rw [List.pairwise_map] at h2 ⊢
    refine h2.imp_of_mem fun {a b} ha hb hne e => hne ?_
    have := h.fits a ha; have := h.fits b hb; omega
  obtain ⟨js, hp⟩ := nodup_subperm (k := 64) h1 fun a ha => by
    obtain ⟨p, hp, rfl⟩ := List.mem_map.1 ha
    have := h.fits p hp
    omega
  have h4 := hp.length_eq
  rw [List.length_append, List.length_map, List.length_range] at h4
  omega
theorem files_spec {b : Nat} {s : Ds} {M : List HP} {F : List Fact} (hok : OkF s.fs) : Ctr Tryz.prog 35 [.pointer (some ⟨b, 0, none⟩)] (Box b 57 (dkC s) :: MpB s.m (fsV s.fs) :: M) F (Option Addr × Nat) (fun z => .slice z.1 (srt (s.fs.map Prod.fst)).length z.2) (fun z => OwnSl 3 1 z.1 (srt (s.fs.map Prod.fst)).length z.2 (ints (srt (s.fs.map Prod.fst))) :: Box b 57 (dkC s) :: MpB s.m (fsV s.fs) :: M) (fun _ => F) := by
  refine Ctr.body Tryz.func35 rfl rfl ?_
  refine TR.seq ?_
  refine TR.region ?_
  refine RL.assign rfl rfl rfl ?_
  refine RL.nil ?_
  refine NX.seq ?_
  refine TR.seq ?_
  refine TR.region ?_
  refine RL.move rfl rfl rfl ?_
  refine RL.nilCheck rfl rfl rfl ?_
  refine RL.fieldAddr rfl ye_tf57_0 rfl rfl ?_
  refine RL.load1 0 rfl ye_ts55 rfl rfl rfl rfl ?_
  refine RL.call rfl rfl Tryz.call51 rfl (mkeys_spec) (fun bm => ?_)
  refine RL.call rfl rfl Tryz.call50 rfl (Ctr.pick 3 [0, 2, 1] rfl (sorted_spec (L0 := [Box bm 55 [.map (some s.m)], MpB s.m (fsV s.fs)]) Tryz.call61 (keys_iter (by rw [fsV_keys]; exact hok.keys)) (fun pre x ⟨suf, hp⟩ => by have h9 := hp.length_eq; rw [fsV_keys, List.length_append, List.length_cons, List.length_map] at h9; have := fs_few hok; omega) (fun xs hp => by have h9 := hp.length_eq; rw [fsV_keys, List.length_map] at h9; have := fs_few hok; omega))) (fun z => ?_)
  refine RL.assign rfl rfl rfl ?_
  refine RL.nil ?_
  refine NX.seq ?_
  refine TR.ret ?_
  have hz : srt z.1.1 = srt (s.fs.map Prod.fst) := srt_of_perm (z.2.trans (List.Perm.of_eq (fsV_keys _)))
  have hzl : z.1.1.length = (srt (s.fs.map Prod.fst)).length := by rw [← hz, srt_len]
  refine NX.ret1 (z.1.2.1, z.1.2.2) rfl rfl (by rw [hzl]) (fun w hw => ?_)
  have h9 := (hw.to 4 [0, 3, 2] 0 [] rfl)
  rw [hz, hzl] at h9
  exact h9
end Go.Proofs.YtdnjoffkanjjhaaGreatDoor

namespace Go.GL
set_option linter.unusedVariables false
theorem nodup_inj {α : Type} {l : List α} (h : l.Nodup) {i j : Nat} (hi : i < l.length) (hj : j < l.length) (e : l[i] = l[j]) : i = j := by
  have h1 := List.pairwise_iff_getElem.1 h
  rcases Nat.lt_trichotomy i j with h2 | h2 | h2
  · exact absurd e (h1 i j hi hj h2)
  · exact h2
  · exact absurd e.symm (h1 j i hj hi h2)
theorem filesB_mem {B : Nat → List UInt8} {n : Nat} : n ∈ filesB B ↔ n < 64 ∧ B n ≠ [] := by
  unfold filesB
  rw [List.mem_filter, List.mem_range]
  simp
theorem filesB_nodup (B : Nat → List UInt8) : (filesB B).Nodup := List.nodup_range.sublist List.filter_sublist
theorem filesB_len (B : Nat → List UInt8) : (filesB B).length ≤ 64 := by
  have := List.length_filter_le (fun n => !(B n).isEmpty) (List.range 64)
  simpa [filesB] using this
theorem vB_empty {fs : Fs} {n : Nat} (h : ∀ p, p ∈ fs → p.1 ≠ n) : fget fs n = fl0 := by
  rcases fget_in (fs := fs) (k := (n : Int)) with e | e
  · exact e
  · exact absurd rfl (h _ e)
theorem key_file {fs : Fs} (h : OkF fs) {n : Nat} : (n : Int) ∈ fs.map Prod.fst ↔ n ∈ filesB (vB fs) := by
  rw [filesB_mem]
  constructor
  · intro hm
    obtain ⟨p, hp, e⟩ := List.mem_map.1 hm
    have h1 := h.fits p hp
    have h2 : fget fs n = p.2 := fget_mem h.keys (by rw [← e]; exact hp)
    exact ⟨by omega, by unfold vB; rw [h2]; exact h.some p hp⟩
  · rintro ⟨h1, h2⟩
    rcases fget_in (fs := fs) (k := (n : Int)) with e | e
    · exact absurd (by unfold vB; rw [e]; rfl) h2
    · exact List.mem_map_of_mem (f := Prod.fst) e
theorem files_srt {fs : Fs} (h : OkF fs) : srt (fs.map Prod.fst) = (filesB (vB fs)).map fun n : Nat => (n : Int) := by
  have h1 : ((filesB (vB fs)).map fun n : Nat => (n : Int)).Pairwise (· ≤ ·) := by
    rw [List.pairwise_map]
    have h3 : (filesB (vB fs)).Pairwise (· < ·) := List.pairwise_lt_range.sublist List.filter_sublist
    exact h3.imp fun {a b} h => by omega
  have hnd : ((filesB (vB fs)).map fun n : Nat => (n : Int)).Nodup := by
    unfold List.Nodup
    rw [List.pairwise_map]
    exact (filesB_nodup (vB fs)).imp fun {a b} h => by omega
  have h2 : (fs.map Prod.fst).Perm ((filesB (vB fs)).map fun n : Nat => (n : Int)) := by
    refine (List.perm_ext_iff_of_nodup h.keys hnd).2 fun a => ?_
    constructor
    · intro ha
      obtain ⟨p, hp, e⟩ := List.mem_map.1 ha
      have h3 := h.fits p hp
      obtain ⟨n, hn⟩ : ∃ n : Nat, a = n := ⟨a.toNat, by omega⟩
      subst hn
      exact List.mem_map_of_mem ((key_file h).1 ha)
    · intro ha
      obtain ⟨n, hn, rfl⟩ := List.mem_map.1 ha
      exact (key_file h).2 hn
  exact List.Perm.eq_of_pairwise (le := fun a b : Int => a ≤ b) (fun a b _ _ h1 h2 => by omega) (srt_sorted _) h1 ((srt_perm _).trans h2)
theorem CrSt.init {s : Ds} {keep : List Int} (h : OkF s.fs) : CrSt s keep 0 s.fs [] := ⟨h, rfl, rfl, fun r hr => absurd hr (by simp), fun r hr => absurd hr (by simp), fun _ _ => rfl⟩
theorem CrSt.fresh {s : Ds} {keep : List Int} {i : Nat} {fs : Fs} {rs : List CrR} (h : CrSt s keep i fs rs) (hi : i < (filesB (vB s.fs)).length) : (filesB (vB s.fs))[i] ∉ rs.map CrR.n := by
  rw [h.n]
  intro hm
  obtain ⟨j, hj, e⟩ := List.getElem_of_mem hm
  rw [List.length_take] at hj
  rw [List.getElem_take] at e
  have h1 := nodup_inj (filesB_nodup (vB s.fs)) _ _ e
  omega
theorem fget_setF {fs : Fs} {n k : Int} {f : Fl} (hk : (fs.map Prod.fst).Nodup) : fget (setF fs n f) k = if k = n then (if f.b = [] then fl0 else f) else fget fs k := by
  have hdel : ∀ (l : Fs), (l.map Prod.fst).Nodup → ∀ k, fget (fdel l n) k = if k = n then fl0 else fget l k := by
    intro l
    induction l with
    | nil => intro _ k; simp [fdel, fget]
    | cons p l ih =>
      intro hn k
      rw [List.map_cons, List.nodup_cons] at hn
      rw [fdel]
      by_cases e : p.1 = n
      · rw [if_pos e]
        by_cases e2 : k = n
        · rw [if_pos e2]
          rcases fget_in (fs := l) (k := k) with e3 | e3
          · exact e3
          · exact absurd (by rw [e, ← e2]; exact List.mem_map_of_mem (f := Prod.fst) e3) hn.1
        · rw [if_neg e2, fget, if_neg (fun e3 => e2 (by rw [← e3, e]))]
      · rw [if_neg e, fget, fget]
        by_cases e2 : p.1 = k
        · rw [if_pos e2, if_pos e2, if_neg (fun e3 => e (by rw [e2, e3]))]
        · rw [if_neg e2, if_neg e2, ih hn.2]
  have hset : fget (fset fs n f) k = if k = n then f else fget fs k := by
    by_cases e : k = n
    · rw [if_pos e, e, fget_set]
    · rw [if_neg e, fget_other _ _ _ _ e]
  unfold Go.GL.setF
  by_cases h0 : f.b.length = 0
  · rw [if_pos h0, hdel _ (fset_keys hk), if_pos (List.eq_nil_of_length_eq_zero h0)]
    by_cases e : k = n
    · rw [if_pos e, if_pos e]
    · rw [if_neg e, if_neg e, hset, if_neg e]
  · rw [if_neg h0, hset]
    by_cases e : k = n
    · rw [if_pos e, if_pos e, if_neg (fun e => h0 (by rw [e]; rfl))]
    · rw [if_neg e, if_neg e]
theorem CrSt.step {s : Ds} {keep : List Int} {i : Nat} {fs : Fs} {rs : List CrR} (h : CrSt s keep i fs rs) (hok : OkF s.fs) (hi : i < (filesB (vB s.fs)).length) {r : CrR} (hn : r.n = (filesB (vB s.fs))[i]) (hb : r.b = cutB (vB s.fs) (vD s.fs) keep r.n)
    (hd : r.d = vD s.fs r.n) (hl : r.d ≤ r.b.length) (hc : r.b.length ≤ r.c) : CrSt s keep (i + 1) (setF fs r.n r.f) (rs ++ [r]) := by
  have hf := h.fresh hi
  have hm := (filesB_mem.1 (List.getElem_mem hi)).1
  have hrn : r.n < 64 := by rw [hn]; exact hm
  have hth : there (r.n : Int) := ⟨by omega, by omega⟩
  refine ⟨h.ok.setF hth ⟨hc, hl⟩, by rw [List.length_append, h.len]; rfl, ?_, ?_, ?_, ?_⟩
  · rw [List.map_append, h.n, List.map_singleton, hn, List.take_succ_eq_append_getElem hi]
  · intro q hq
    rcases List.mem_append.1 hq with hq | hq
    · exact h.b q hq
    · rw [List.mem_singleton.1 hq]; exact ⟨hb, hd, hl, hc⟩
  · intro q hq
    rw [fget_setF h.ok.keys]
    rcases List.mem_append.1 hq with hq | hq
    · have hne : q.n ≠ r.n := fun e => hf (by rw [← hn, ← e]; exact List.mem_map_of_mem hq)
      rw [if_neg (fun e => hne (by omega))]
      exact h.done q hq
    · rw [List.mem_singleton.1 hq, if_pos rfl]; rfl
  · intro k hk
    rw [List.map_append, List.map_singleton, List.mem_append, not_or] at hk
    rw [fget_setF h.ok.keys, if_neg (fun e => hk.2 (by rw [List.mem_singleton]; omega))]
    exact h.rest k hk.1
theorem idx_files {B : Nat → List UInt8} {i : Nat} (hi : i < (filesB B).length) : (filesB B).idxOf (filesB B)[i] = i := List.Nodup.idxOf_getElem (filesB_nodup B) i hi
theorem cut_at {s : Ds} {keep : List Int} {i : Nat} (hi : i < (filesB (vB s.fs)).length) : cutB (vB s.fs) (vD s.fs) keep (filesB (vB s.fs))[i] = (vB s.fs (filesB (vB s.fs))[i]).take (vD s.fs (filesB (vB s.fs))[i] + keepK keep i ((vB s.fs (filesB (vB s.fs))[i]).length - vD s.fs (filesB (vB s.fs))[i])) := by
  unfold cutB; rw [idx_files hi]
structure CrFin (s : Ds) (keep : List Int) (fs : Fs) (rs : List CrR) : Prop where
  ok : OkF fs
  n : rs.map CrR.n = filesB (vB s.fs)
  b : ∀ r, r ∈ rs → r.b = cutB (vB s.fs) (vD s.fs) keep r.n ∧ r.d = vD s.fs r.n ∧ r.d ≤ r.b.length ∧ r.b.length ≤ r.c
  mem : ∀ p, p ∈ fs → ∃ r, r ∈ rs ∧ (r.n : Int) = p.1 ∧ p.2 = r.f
  at_ : ∀ n, n < 64 → vB fs n = cutB (vB s.fs) (vD s.fs) keep n
theorem CrSt.fin {s : Ds} {keep : List Int} {fs : Fs} {rs : List CrR} (h : CrSt s keep (filesB (vB s.fs)).length fs rs) (hok : OkF s.fs) : CrFin s keep fs rs := by
  have hn : rs.map CrR.n = filesB (vB s.fs) := by rw [h.n, List.take_length]
  refine ⟨h.ok, hn, h.b, fun p hp => ?_, fun n hn64 => ?_⟩
  · have h1 := h.ok.fits p hp
    obtain ⟨k, hk⟩ : ∃ k : Nat, p.1 = k := ⟨p.1.toNat, by omega⟩
    have h2 : fget fs k = p.2 := fget_mem h.ok.keys (by rw [← hk]; exact hp)
    by_cases hm : k ∈ rs.map CrR.n
    · obtain ⟨r, hr, e⟩ := List.mem_map.1 hm
      have h3 := h.done r hr
      rw [e, h2] at h3
      refine ⟨r, hr, by omega, ?_⟩
      by_cases e2 : r.b = []
      · rw [if_pos e2] at h3
        exact absurd (by rw [h3]; rfl) (h.ok.some p hp)
      · rw [if_neg e2] at h3; exact h3
    · have h3 := h.rest k hm
      rw [hn] at hm
      exfalso
      refine hm (filesB_mem.2 ⟨by omega, ?_⟩)
      unfold vB
      rw [← h3, h2]
      exact h.ok.some p hp
  · by_cases hm : n ∈ rs.map CrR.n
    · obtain ⟨r, hr, e⟩ := List.mem_map.1 hm
      have h3 := h.done r hr
      rw [e] at h3
      show (fget fs n).b = _
      rw [h3]
      have h4 := (h.b r hr).1
      rw [e] at h4
      by_cases e2 : r.b = []
      · rw [if_pos e2]; show [] = _; rw [← h4, e2]
      · rw [if_neg e2]; exact h4
    · have h3 := h.rest n hm
      rw [hn] at hm
      have h4 : vB s.fs n = [] := by
        by_cases e : vB s.fs n = []
        · exact e
        · exact absurd (filesB_mem.2 ⟨hn64, e⟩) hm
      show (fget fs n).b = _
      rw [h3]
      show vB s.fs n = _
      unfold cutB; rw [h4, List.take_nil]
theorem crLoose_eq {s : Ds} {keep : List Int} {fs : Fs} {rs : List CrR} (h : CrFin s keep fs rs) : (crLoose rs).map (fun x => (x.1.n, x.2)) = looseB (vB s.fs) (vD s.fs) keep := by
  unfold crLoose looseB
  rw [← h.n, List.map_flatMap, List.flatMap_map]
  have h1 : ∀ (l : List CrR), (∀ r, r ∈ l → r ∈ rs) → l.flatMap (fun a => List.map (fun x : CrR × Nat => (x.1.n, x.2)) (List.map (fun j => (a, j)) (List.range' a.d (a.b.length - a.d)))) = l.flatMap fun a => List.map (fun j => (a.n, j)) (List.range' (vD s.fs a.n) ((cutB (vB s.fs) (vD s.fs) keep a.n).length - vD s.fs a.n)) := by
    intro l
    induction l with
    | nil => intro _; rfl
    | cons r l ih =>
      intro hl
      rw [List.flatMap_cons, List.flatMap_cons, ih (fun q hq => hl q (.tail _ hq))]
      have h2 := h.b r (hl r (.head _))
      rw [List.map_map, ← h2.1, ← h2.2.1]
      rfl
  exact h1 rs fun r hr => hr
def flipF (fs : Fs) (n j r : Nat) : Fs := fs.map fun p => if p.1 = (n : Int) then (p.1, { p.2 with b := turnB p.2.b j r }) else p
theorem flipF_fsV (fs : Fs) (n j r : Nat) : fsV (flipF fs n j r) = fsV fs := by
  unfold fsV flipF
  rw [List.map_map]
  refine List.map_congr_left fun p _ => ?_
  show ((if p.1 = (n : Int) then (p.1, { p.2 with b := turnB p.2.b j r }) else p).1, flV (if p.1 = (n : Int) then (p.1, { p.2 with b := turnB p.2.b j r }) else p).2) = _
  split
  · show (p.1, flV { p.2 with b := turnB p.2.b j r }) = _
    unfold flV flC; simp only [turnB_len]
  · rfl
theorem fget_flipF (n j r : Nat) : ∀ (fs : Fs) (k : Nat), vB (flipF fs n j r) k = if k = n then turnB (vB fs k) j r else vB fs k
  | [], k => by
    show [] = if k = n then turnB [] j r else []
    unfold turnB; simp
  | p :: l, k => by
    have e0 : flipF (p :: l) n j r = (if p.1 = (n : Int) then (p.1, { p.2 with b := turnB p.2.b j r }) else p) :: flipF l n j r := rfl
    have e1 : (if p.1 = (n : Int) then (p.1, { p.2 with b := turnB p.2.b j r }) else p).1 = p.1 := by split <;> rfl
    unfold vB
    rw [e0, fget, e1, fget]
    by_cases e : p.1 = (k : Int)
    · rw [if_pos e, if_pos e]
      by_cases e2 : k = n
      · rw [if_pos e2, if_pos (by rw [e, e2])]
      · rw [if_neg e2, if_neg (by rw [e]; omega)]
    · rw [if_neg e, if_neg e]; exact fget_flipF n j r l k
theorem OkF.flip {fs : Fs} {n j r : Nat} (h : OkF fs) : OkF (flipF fs n j r) := by
  have e1 : ∀ p : Int × Fl, (if p.1 = (n : Int) then (p.1, { p.2 with b := turnB p.2.b j r }) else p).1 = p.1 := fun p => by split <;> rfl
  have hk : (flipF fs n j r).map Prod.fst = fs.map Prod.fst := by
    unfold flipF; rw [List.map_map]; exact List.map_congr_left fun p _ => e1 p
  refine ⟨by rw [hk]; exact h.keys, fun p hp => ?_, fun p hp => ?_, fun p hp => ?_⟩ <;> obtain ⟨q, hq, rfl⟩ := List.mem_map.1 hp
  · rw [e1]; exact h.fits q hq
  · split
    · show (turnB q.2.b j r).length ≤ q.2.c ∧ q.2.dur ≤ (turnB q.2.b j r).length
      rw [turnB_len]; exact h.each q hq
    · exact h.each q hq
  · split
    · intro e
      have := congrArg List.length e
      rw [turnB_len] at this
      exact h.some q hq (List.eq_nil_of_length_eq_zero this)
    · exact h.some q hq
structure CrEnd (s : Ds) (keep : List Int) (flip : Int) (fs : Fs) : Prop where
  ok : OkF fs
  b : ∀ n, n < 64 → vB fs n = crashB (vB s.fs) (vD s.fs) keep flip n
theorem CrFin.noFlip {s : Ds} {keep : List Int} {fs : Fs} {rs : List CrR} {flip : Int} (h : CrFin s keep fs rs) (hf : flip < 0 ∨ (crLoose rs).length = 0) : CrEnd s keep flip fs := by
  refine ⟨h.ok, fun n hn => ?_⟩
  rw [h.at_ n hn]
  unfold crashB
  split
  · rfl
  · rename_i h0
    have h1 := hf.resolve_left h0
    have h2 := congrArg List.length (crLoose_eq h)
    rw [List.length_map, h1] at h2
    rw [List.eq_nil_of_length_eq_zero h2.symm]
    rfl
theorem CrFin.flip {s : Ds} {keep : List Int} {fs : Fs} {rs : List CrR} {flip : Int} (h : CrFin s keep fs rs) (hf : ¬ flip < 0) (q : Nat) (hq : q = flip.toNat % (8 * (crLoose rs).length)) (h1 : q / 8 < (crLoose rs).length) :
    CrEnd s keep flip (flipF fs (crLoose rs)[q / 8].1.n (crLoose rs)[q / 8].2 (q % 8)) := by
  have h2 := crLoose_eq h
  have hl : (looseB (vB s.fs) (vD s.fs) keep).length = (crLoose rs).length := by rw [← h2, List.length_map]
  refine ⟨h.ok.flip, fun n hn => ?_⟩
  rw [fget_flipF, h.at_ n hn]
  unfold crashB
  rw [if_neg hf, hl, ← hq]
  have h3 : (looseB (vB s.fs) (vD s.fs) keep)[q / 8]? = some ((crLoose rs)[q / 8].1.n, (crLoose rs)[q / 8].2) := by
    rw [← h2, List.getElem?_map, List.getElem?_eq_getElem h1]; rfl
  rw [h3]
theorem CrEnd.crash {s : Ds} {keep : List Int} {flip : Int} {fs : Fs} (h : CrEnd s keep flip fs) : CrashR s keep flip ⟨s.m, hard fs, s.room, false, false, s.left⟩ :=
  ⟨rfl, rfl, rfl, rfl, rfl, h.ok.hard, fun n hn => by
    show vB (hard fs) n = _
    unfold vB; rw [fget_hard]; exact h.b n hn, fun n _ => by
    show vD (hard fs) n = (vB (hard fs) n).length
    unfold vD vB; rw [fget_hard]; rfl⟩
theorem St.crKeep {w : World} {e : Nat} : ∀ {rs : List CrR} {M : List HP} {F : List Fact}, St w (rs.map (crOwn e) ++ M) F → ∃ G : List Fact, (∀ φ, φ ∈ F → φ ∈ G) ∧ (∀ r, r ∈ rs → ArrF r.oa (bytesV r.b) ∈ G) ∧ St w M G
  | [], M, F, h => ⟨F, fun _ h => h, fun r hr => absurd hr (by simp), h⟩
  | r :: rs, M, F, h => by
    have h1 : St w (rs.map (crOwn e) ++ M) (ArrF r.oa (bytesV r.b) :: F) := St.keepSl (M := rs.map (crOwn e) ++ M) h
    obtain ⟨G, g1, g2, g3⟩ := St.crKeep h1
    refine ⟨G, fun φ hφ => g1 φ (.tail _ hφ), fun q hq => ?_, g3⟩
    rcases List.mem_cons.1 hq with e1 | hq
    · rw [e1]; exact g1 _ (.head _)
    · exact g2 q hq
theorem St.crAll {w : World} {e : Nat} {rs : List CrR} {M : List HP} {F : List Fact} {fs : Fs} (h : St w (Al (rs.map (crOwn e)) :: M) F) (hm : ∀ p, p ∈ fs → ∃ r, r ∈ rs ∧ p.2.oa = r.oa ∧ p.2.b = r.b) : St w M (AllF fs :: F) := by
  obtain ⟨G, g1, g2, g3⟩ := St.crKeep h.alOpen
  have h1 := g3.derive (ψ := AllF fs) fun K hf p hp => by
    obtain ⟨r, hr, e1, e2⟩ := hm p hp
    rw [e1, e2]
    exact hf _ (g2 r hr)
  refine h1.facts fun φ hφ => ?_
  rcases List.mem_cons.1 hφ with e | hφ
  · exact e ▸ .head _
  · exact .tail _ (g1 φ hφ)
def CrR.turn (r : CrR) (j q : Nat) : CrR := { r with b := turnB r.b j q }
theorem turn_mem {s : Ds} {keep : List Int} {fs : Fs} {rs : List CrR} (h : CrFin s keep fs rs) {i j q : Nat} (hi : i < rs.length) : ∀ p, p ∈ flipF fs rs[i].n j q → ∃ r, r ∈ rs.take i ++ rs[i].turn j q :: rs.drop (i + 1) ∧ p.2.oa = r.oa ∧ p.2.b = r.b := by
  intro p hp
  obtain ⟨p0, hp0, rfl⟩ := List.mem_map.1 hp
  obtain ⟨r, hr, e1, e2⟩ := h.mem p0 hp0
  have hnd : (rs.map CrR.n).Nodup := by rw [h.n]; exact filesB_nodup _
  by_cases e : p0.1 = (rs[i].n : Int)
  · rw [if_pos e]
    have hrr : r = rs[i] := by
      obtain ⟨k, hk, ek⟩ := List.getElem_of_mem hr
      have h3 : (rs.map CrR.n)[k]'(by simpa using hk) = (rs.map CrR.n)[i]'(by simpa using hi) := by
        rw [List.getElem_map, List.getElem_map, ek]; omega
      have := nodup_inj hnd _ _ h3
      subst this
      exact ek.symm
    refine ⟨rs[i].turn j q, by simp, ?_, ?_⟩
    · show p0.2.oa = _; rw [e2, hrr]; rfl
    · show turnB p0.2.b j q = _; rw [e2, hrr]; rfl
  · rw [if_neg e]
    refine ⟨r, ?_, by rw [e2]; rfl, by rw [e2]; rfl⟩
    obtain ⟨k, hk, ek⟩ := List.getElem_of_mem hr
    have hki : k ≠ i := fun e3 => e (by subst e3; rw [ek]; omega)
    rw [List.mem_append, List.mem_cons]
    rcases Nat.lt_or_gt_of_ne hki with h4 | h4
    · refine .inl ?_
      rw [← ek]
      exact List.mem_take_iff_getElem.2 ⟨k, by omega, rfl⟩
    · refine .inr (.inr ?_)
      rw [← ek]
      exact List.mem_drop_iff_getElem.2 ⟨k - (i + 1), by omega, by congr 1; omega⟩
theorem crPtrs_len (rs : List CrR) : (crPtrs rs).length = (crLoose rs).length := by unfold crPtrs; rw [List.length_map]
theorem keepK_some {keep : List Int} {i room : Nat} {v : Int} (h : keep[i]? = some v) : ((keepK keep i room : Nat) : Int) = max 0 (min v (room : Int)) := by
  unfold keepK; rw [h]; show (((max 0 (min v (room : Int))).toNat : Nat) : Int) = _; omega
theorem keepK_none {keep : List Int} {i room : Nat} (h : keep.length ≤ i) : keepK keep i room = 0 := by
  unfold keepK; rw [List.getElem?_eq_none h]
theorem crLoose_bound {m : Nat} : ∀ {rs : List CrR}, (∀ r, r ∈ rs → r.b.length ≤ m) → (crLoose rs).length ≤ rs.length * m
  | [], _ => by simp [crLoose]
  | r :: rs, h => by
    have e : crLoose (r :: rs) = (List.range' r.d (r.b.length - r.d)).map (fun j => (r, j)) ++ crLoose rs := rfl
    rw [e, List.length_append, List.length_map, List.length_range', List.length_cons, Nat.succ_mul]
    have h1 := h r (.head _)
    have h2 := crLoose_bound (rs := rs) fun q hq => h q (.tail _ hq)
    omega
def crPL (rs : List CrR) (r : CrR) (j : Nat) : List Value := crPtrs rs ++ (List.range' r.d (j - r.d)).map (crPtr r)
theorem crPL_start (rs : List CrR) (r : CrR) : crPL rs r r.d = crPtrs rs := by unfold crPL; rw [Nat.sub_self]; simp
theorem crPL_step {rs : List CrR} {r : CrR} {j : Nat} (h : r.d ≤ j) : crPL rs r (j + 1) = crPL rs r j ++ [crPtr r j] := by
  unfold crPL
  rw [show j + 1 - r.d = (j - r.d) + 1 from by omega, List.range'_concat, List.map_append, List.append_assoc]
  congr 2
  simp only [List.map_singleton, Nat.one_mul]
  rw [show r.d + (j - r.d) = j from by omega]
theorem crPL_end (rs : List CrR) (r : CrR) : crPL rs r r.b.length = crPtrs (rs ++ [r]) := by
  unfold crPL crPtrs
  rw [crLoose_snoc, List.map_append, List.map_map]; rfl
theorem crPL_len {rs : List CrR} {r : CrR} {j : Nat} (h : r.d ≤ j) : (crPL rs r j).length = (crLoose rs).length + (j - r.d) := by
  unfold crPL; rw [List.length_append, crPtrs_len, List.length_map, List.length_range']
theorem crPtr_at {r : CrR} {g : Nat} (h : r.oa = some ⟨g, 0, none⟩) (j : Nat) : crPtr r j = .pointer (some ⟨g, 0 + j * 1, none⟩) := by
  unfold crPtr; rw [h]; show Value.pointer (some (Addr.add ⟨g, 0, none⟩ (j * 1))) = _; rw [addr_add]
theorem CrSt.few {s : Ds} {keep : List Int} {i : Nat} {fs : Fs} {rs : List CrR} (h : CrSt s keep i fs rs) (hi : i ≤ (filesB (vB s.fs)).length) {m : Nat} (hu : used s.fs ≤ m) : (crLoose rs).length ≤ 64 * m := by
  refine Nat.le_trans (crLoose_bound (m := m) fun r hr => ?_) (Nat.mul_le_mul_right m ?_)
  · rw [(h.b r hr).1]
    exact Nat.le_trans (cutB_len _ _ _ _) (Nat.le_trans (fget_used s.fs r.n) hu)
  · rw [h.len]; exact Nat.le_trans hi (filesB_len _)
theorem St.crPick {w : World} {M : List HP} {F : List Fact} {e : Nat} {rs : List CrR} {i : Nat} (hi : i < rs.length) (hne : rs[i].b ≠ []) (h : St w (Al (rs.map (crOwn e)) :: M) F) :
    ∃ g, rs[i].oa = some ⟨g, 0, none⟩ ∧ St w (crOwn e rs[i] :: Al ((rs.take i).map (crOwn e)) :: Al ((rs.drop (i + 1)).map (crOwn e)) :: M) F := by
  have h1 := St.alCut i (by simpa using hi) h
  rw [List.getElem_map, ← List.map_take, ← List.map_drop] at h1
  refine own_at (i := 0) (M := crOwn e rs[i] :: _) rfl ?_ h1
  intro e0
  exact hne (List.eq_nil_of_length_eq_zero (by have := congrArg List.length e0; rwa [bytesV_length] at this))
theorem St.crBack {w : World} {M : List HP} {F : List Fact} {e : Nat} {rs : List CrR} {i : Nat} (hi : i < rs.length) {r : CrR} (h : St w (crOwn e r :: Al ((rs.take i).map (crOwn e)) :: Al ((rs.drop (i + 1)).map (crOwn e)) :: M) F) :
    St w (Al ((rs.take i ++ r :: rs.drop (i + 1)).map (crOwn e)) :: M) F := by
  have h1 := St.alJoin h
  rw [List.map_append, List.map_cons]
  exact h1
theorem flip_byte (x : UInt8) {q : Nat} (hq : q < 8) : B8 (x.toNat ^^^ (1 * 2 ^ (7 - q) % 256)) = .int .u8 ((flipB x q).toNat : Int) := by
  have h1 : 2 ^ (7 - q) < 256 := Nat.lt_of_le_of_lt (Nat.pow_le_pow_right (by omega) (show 7 - q ≤ 7 by omega)) (by decide)
  have h2 : 1 * 2 ^ (7 - q) % 256 = 2 ^ (7 - q) := by rw [Nat.one_mul, Nat.mod_eq_of_lt h1]
  have h3 : x.toNat ^^^ 2 ^ (7 - q) < 256 := Nat.xor_lt_two_pow (n := 8) x.toNat_lt h1
  rw [h2]
  unfold flipB
  rw [u8_ofNat h3]
theorem turn_bytes {b : List UInt8} {j q : Nat} (hj : j < b.length) (hq : q < 8) : (bytesV b).take (0 + j * 1) ++ [B8 (b[j].toNat ^^^ (1 * 2 ^ (7 - q) % 256))] ++ (bytesV b).drop (0 + j * 1 + 1) = bytesV (turnB b j q) := by
  rw [flip_byte _ hq, Nat.zero_add, Nat.mul_one]
  unfold turnB bytesV
  rw [List.getD_eq_getElem?_getD, List.getElem?_eq_getElem hj, List.map_set, List.set_eq_take_append_cons_drop, if_pos (by rw [List.length_map]; exact hj)]
  simp
end Go.GL

namespace Go.Proofs.YtdnjoffkanjjhaaGreatDoor
open Go.GL
set_option linter.unusedVariables false
theorem yf_bs71_1_0 (x0 : Option Addr) : BuildSV Tryz.prog 71 73 1 [(0, .pointer x0)] [.pointer x0] := fun w => by kernel_rfl
theorem yf_ni71 : noInt Tryz.prog 71 = true := by kernel_rfl
theorem yf_ta69 : tyAgg Tryz.prog 69 2 = true := by kernel_rfl
theorem yf_te73 : tyElem Tryz.prog 73 1 8 = true := by kernel_rfl
theorem yf_tf57_0 : fieldOff Tryz.prog 57 0 0 = true := by kernel_rfl
theorem yf_tf57_2 : fieldOff Tryz.prog 57 2 2 = true := by kernel_rfl
theorem yf_tf57_3 : fieldOff Tryz.prog 57 3 3 = true := by kernel_rfl
theorem yf_tf69_0 : fieldOff Tryz.prog 69 0 0 = true := by kernel_rfl
theorem yf_tf69_1 : fieldOff Tryz.prog 69 1 1 = true := by kernel_rfl
theorem yf_tl22 : tySlice Tryz.prog 22 3 = true := by kernel_rfl
theorem yf_tl32 : tySlice Tryz.prog 32 5 = true := by kernel_rfl
theorem yf_tl71 : tySlice Tryz.prog 71 73 = true := by kernel_rfl
theorem yf_tm55 : tyMap Tryz.prog 55 3 69 = true := by kernel_rfl
theorem yf_ts3 : tyScalar Tryz.prog 3 = true := by kernel_rfl
theorem yf_ts32 : tyScalar Tryz.prog 32 = true := by kernel_rfl
theorem yf_ts4 : tyScalar Tryz.prog 4 = true := by kernel_rfl
theorem yf_ts5 : tyScalar Tryz.prog 5 = true := by kernel_rfl
theorem yf_ts55 : tyScalar Tryz.prog 55 = true := by kernel_rfl
theorem yf_ts73 : tyScalar Tryz.prog 73 = true := by kernel_rfl
theorem yf_tz3 : tySize Tryz.prog 3 1 = true := by kernel_rfl
theorem yf_tz5 : tySize Tryz.prog 5 1 = true := by kernel_rfl
theorem yf_tz69 : tySize Tryz.prog 69 2 = true := by kernel_rfl
theorem yf_tz73 : tySize Tryz.prog 73 1 = true := by kernel_rfl
structure CrX where
  i : Nat
  rs : List CrR
  fs : Fs
  oa : Option Addr
  c : Nat
structure CrY where
  j : Nat
  oa : Option Addr
  c : Nat
set_option maxHeartbeats 2000000 in
theorem crash_spec {keep : List Int} {flip : Int} {ok : Option Addr} {ck : Nat} {b : Nat} {s : Ds} {M : List HP} {F : List Fact} (hok : OkF s.fs) (hA : AllF s.fs ∈ F) (hK : ArrF ok (ints keep) ∈ F) (hks : IntsOk keep) (hu : used s.fs ≤ 16777216) (hflip : I64 flip) : Ctr Tryz.prog 14 [.pointer (some ⟨b, 0, none⟩), .slice ok keep.length ck, I flip] (Box b 57 (dkC s) :: MpB s.m (fsV s.fs) :: M) F {t : Ds // CrashR s keep flip t} (fun _ => .tuple #[]) (fun t => Box b 57 (dkC t.1) :: MpB t.1.m (fsV t.1.fs) :: M) (fun t => AllF t.1.fs :: F) := by
  refine Ctr.body Tryz.func14 rfl rfl ?_
  refine TR.seq ?_
  refine TR.region ?_
  refine RL.assign rfl rfl rfl ?_
  refine RL.nil ?_
  refine NX.seq ?_
  refine TR.seq ?_
  refine TR.seq ?_
  refine TR.region ?_
  refine RL.move rfl rfl rfl ?_
  refine RL.call rfl rfl Tryz.call35 rfl (files_spec hok) (fun ks => ?_)
  have hfs := files_srt hok
  have hfl := filesB_len (vB s.fs)
  rw [hfs]
  refine RL.weak (fun w hw => hw.keepSl) ?_
  refine RL.lenSlice rfl yf_tl22 rfl rfl ?_
  refine RL.move rfl rfl rfl ?_
  refine RL.nil ?_
  refine NX.seq ?_
  refine TR.block ?_
  refine TR.loopP (ι := CrX) (fun x => CrSt s keep x.i x.fs x.rs ∧ x.i ≤ (filesB (vB s.fs)).length) (fun x => [(0, .pointer (some ⟨b, 0, none⟩)), (1, .slice ok keep.length ck), (2, I flip), (6, .slice x.oa (crPtrs x.rs).length x.c), (15, .slice ks.1 ((filesB (vB s.fs)).map fun n : Nat => (n : Int)).length ks.2), (16, I (((filesB (vB s.fs)).map fun n : Nat => (n : Int)).length : Nat)), (17, I x.i)]) (fun x => OwnSl 73 1 x.oa (crPtrs x.rs).length x.c (crPtrs x.rs) :: Al (x.rs.map (crOwn 5)) :: Box b 57 (dkC (⟨s.m, x.fs, s.room, s.off, s.armed, s.left⟩ : Ds)) :: MpB s.m (fsV x.fs) :: M) (fun x => ArrF ks.1 (ints ((filesB (vB s.fs)).map fun n : Nat => (n : Int))) :: F) (fun x => (filesB (vB s.fs)).length - x.i) ⟨0, [], s.fs, none, 0⟩ ⟨CrSt.init hok, Nat.zero_le _⟩ ⟨rfl, rfl, rfl, rfl, rfl, rfl, rfl, trivial⟩ (fun w hw => OwnSl.nil_new 73 1 hw.alNil) (fun x hx => ?_)
  refine TR.seq ?_
  refine TR.region ?_
  refine RL.bin rfl rfl rfl BinV.lss rfl ?_
  refine RL.nil ?_
  refine NX.seq ?_
  refine TR.seq ?_
  refine TR.cond rfl (fun h1 => ?_) (fun h1 => ?_)
  · skip
    have hi : x.i < (filesB (vB s.fs)).length := by have h9 := of_decide_eq_true h1; simp only [List.length_map] at h9; omega
    obtain ⟨kf, hkf⟩ : ∃ kf, kf = (filesB (vB s.fs))[x.i] := ⟨_, rfl⟩
    have hkm := filesB_mem.1 (hkf ▸ List.getElem_mem hi : kf ∈ (filesB (vB s.fs)))
    have hkf64 : I64 (kf : Int) := ⟨by omega, by omega⟩
    have hfk : fget x.fs (kf : Int) = fget s.fs (kf : Int) := hx.1.rest kf (by rw [hkf]; exact hx.1.fresh hi)
    have hfe := fget_each hok (kf : Int)
    have hfu := fget_used s.fs (kf : Int)
    have hfe1 : (vB s.fs kf).length ≤ (fget s.fs (kf : Int)).c := hfe.1
    have hfe2 : vD s.fs kf ≤ (vB s.fs kf).length := hfe.2
    have hfu1 : (vB s.fs kf).length ≤ used s.fs := hfu
    have hvd : vD s.fs kf = (fget s.fs (kf : Int)).dur := rfl
    have hvb : (vB s.fs kf).length = (fget s.fs (kf : Int)).b.length := rfl
    have hFl : ((filesB (vB s.fs)).map fun n : Nat => (n : Int)).length = (filesB (vB s.fs)).length := List.length_map _
    have hkk := keepK_le keep x.i ((vB s.fs kf).length - vD s.fs kf)
    have hkv : (ints ((filesB (vB s.fs)).map fun n : Nat => (n : Int)))[((x.i : Nat) : Int).toNat * 1]? = some (I ((kf : Nat) : Int)) := by
      rw [Int.toNat_natCast, Nat.mul_one, List.getElem?_map, List.getElem?_map, List.getElem?_eq_getElem hi, hkf]; rfl
    have hlb := hx.1.few (Nat.le_of_lt hi) hu
    refine TR.openP (open_arr (oa := ks.1) (xs := ints ((filesB (vB s.fs)).map fun n : Nat => (n : Int))) (.head _) (by intro e; have := congrArg List.length e; simp only [List.length_map] at this; rw [List.length_nil] at this; omega)) (fun pq hpa => ?_)
    refine TR.skip ?_
    refine NX.seq ?_
    refine TR.seq ?_
    refine TR.block ?_
    refine TR.seq ?_
    refine TR.region ?_
    refine RL.move rfl rfl rfl ?_
    refine RL.indexAddr rfl yf_tl22 yf_tz3 (congrArg (fun a => some (Value.slice a _ _)) hpa) rfl (by omega) (by omega) rfl ?_
    refine RL.loadF rfl rfl (fun w K hF => run_loadCell1 (j := ((x.i : Nat) : Int).toNat * 1) (v := I ((kf : Nat) : Int)) (hF (CellsF pq.1 pq.2 (ints ((filesB (vB s.fs)).map fun n : Nat => (n : Int)))) (.head _)) yf_ts3 hkv) rfl ?_
    refine RL.assign rfl rfl rfl ?_
    refine RL.assign rfl rfl rfl ?_
    refine RL.nil ?_
    refine NX.seq ?_
    refine TR.seq ?_
    refine TR.region ?_
    refine RL.move rfl rfl rfl ?_
    refine RL.nilCheck rfl rfl rfl ?_
    refine RL.fieldAddr rfl yf_tf57_0 rfl rfl ?_
    refine RL.load1 2 rfl yf_ts55 rfl rfl rfl rfl ?_
    refine RL.move rfl rfl rfl ?_
    refine RL.lookupF 3 rfl yf_tm55 rfl rfl hkf64 rfl Tryz.zeroValue69 rfl ?_
    rw [hfk]
    refine RL.allocA rfl Tryz.zeroValue69 rfl (fun fb => ?_)
    refine RL.storeA 0 rfl rfl rfl rfl yf_tz69 rfl rfl ?_
    refine RL.nil ?_
    refine NX.seq ?_
    refine TR.seq ?_
    refine TR.region ?_
    refine RL.assign rfl rfl rfl ?_
    refine RL.nil ?_
    refine NX.seq ?_
    refine TR.cut (ι := Unit) (fun _ => [(0, .pointer (some ⟨b, 0, none⟩)), (1, .slice ok keep.length ck), (2, I flip), (6, .slice x.oa (crPtrs x.rs).length x.c), (7, I x.i), (8, I (kf : Int)), (9, .pointer (some ⟨fb, 0, none⟩)), (10, I ((keepK keep x.i ((vB s.fs kf).length - vD s.fs kf)) : Nat)), (15, .slice ks.1 ((filesB (vB s.fs)).map fun n : Nat => (n : Int)).length ks.2), (16, I (((filesB (vB s.fs)).map fun n : Nat => (n : Int)).length : Nat)), (17, I x.i)]) (fun _ => Box fb 69 (flC (fget s.fs (kf : Int))) :: Box b 57 (dkC (⟨s.m, x.fs, s.room, s.off, s.armed, s.left⟩ : Ds)) :: MpB s.m (fsV x.fs) :: OwnSl 73 1 x.oa (crPtrs x.rs).length x.c (crPtrs x.rs) :: Al (x.rs.map (crOwn 5)) :: M) (fun _ => CellsF pq.1 pq.2 (ints ((filesB (vB s.fs)).map fun n : Nat => (n : Int))) :: ArrF ks.1 (ints ((filesB (vB s.fs)).map fun n : Nat => (n : Int))) :: F) ?_ (fun _ => ?_)
    · skip
      refine TR.seq ?_
      refine TR.region ?_
      refine RL.move rfl rfl rfl ?_
      refine RL.move rfl rfl rfl ?_
      refine RL.lenSlice rfl yf_tl22 rfl rfl ?_
      refine RL.bin rfl rfl rfl BinV.lss rfl ?_
      refine RL.nil ?_
      refine NX.seq ?_
      refine TR.cond rfl (fun h2 => ?_) (fun h2 => ?_)
      · skip
        have hkl : x.i < keep.length := by have h9 := of_decide_eq_true h2; omega
        obtain ⟨kv, hkv2⟩ : ∃ kv, kv = keep[x.i] := ⟨_, rfl⟩
        have hkr := hks.2 kv (hkv2 ▸ List.getElem_mem hkl)
        have hkkv : (ints keep)[((x.i : Nat) : Int).toNat * 1]? = some (I kv) := by
          rw [Int.toNat_natCast, Nat.mul_one, List.getElem?_map, List.getElem?_eq_getElem hkl, hkv2]; rfl
        refine TR.openP (open_arr (oa := ok) (xs := ints keep) (.tail _ (.tail _ hK)) (ints_ne (by omega))) (fun pk hpk => ?_)
        refine TR.sub (E' := [(0, _), (1, _), (2, _), (6, _), (7, _), (8, _), (9, _), (15, _), (16, _), (17, _), (18, _), (19, _), (20, _), (21, _), (22, _), (23, _), (24, _), (25, _), (26, _), (27, _), (28, _), (29, _), (30, _), (31, _)]) ⟨rfl, rfl, rfl, rfl, rfl, rfl, rfl, rfl, rfl, rfl, rfl, rfl, rfl, rfl, rfl, rfl, rfl, rfl, rfl, rfl, rfl, rfl, rfl, rfl, trivial⟩ ?_
        refine TR.draw mixed ?_
        apply AR.more [(0, _), (1, _), (2, _), (3, _), (4, _), (5, _), (6, _), (7, _), (8, _), (9, _), (10, _), (11, _), (12, _)]
        refine AR.last [0, 1, 2, 3, 4, 5, 6, 7, 8, 9, 10, 11, 12] [0, 1, 2, 3, 4, 5, 6, 7, 8, 9, 10, 11, 12] ⟨QOne.yes rfl rfl rfl (PV.move rfl), QOne.yes rfl rfl rfl (PV.move rfl), QOne.yes rfl rfl rfl (PV.indexAddr yf_tl22 yf_tz3 (congrArg (fun a => some (Value.slice a _ _)) hpk) rfl (by omega) (by omega)), QOne.yes rfl rfl rfl (PV.loadF rfl (fun w K hF => run_loadCell1 (j := ((x.i : Nat) : Int).toNat * 1) (v := I kv) (hF (CellsF pk.1 pk.2 (ints keep)) (.head _)) yf_ts3 hkkv)), QOne.yes rfl rfl rfl (PV.fieldAddr yf_tf69_0 rfl), QOne.yes rfl rfl rfl (PV.load1 0 yf_ts32 rfl rfl rfl), QOne.yes rfl rfl rfl (PV.lenSlice yf_tl32 rfl), QOne.yes rfl rfl rfl (PV.fieldAddr yf_tf69_1 rfl), QOne.yes rfl rfl rfl (PV.load1 0 yf_ts3 rfl rfl rfl), QOne.yes rfl rfl rfl (PV.bin rfl rfl (BinV.sub _ rfl (by omega) (by omega))), QOne.yes rfl rfl rfl (PV.min rfl rfl), QOne.yes rfl rfl rfl (PV.max rfl rfl), QOne.yes rfl rfl rfl (PV.assign rfl), trivial⟩ rfl rfl rfl ?_
        refine NX.sub (E' := [(0, _), (1, _), (2, _), (6, _), (7, _), (8, _), (9, _), (10, _), (15, _), (16, _), (17, _), (18, _), (19, _), (20, _), (21, _), (22, _), (23, _), (24, _), (25, _), (26, _), (27, _), (28, _), (29, _), (30, _), (31, _), (32, _), (33, _), (34, _), (35, _), (36, _), (37, _), (38, _), (39, _), (40, _), (41, _), (42, _), (43, _)]) ⟨rfl, rfl, rfl, rfl, rfl, rfl, rfl, rfl, rfl, rfl, rfl, rfl, rfl, rfl, rfl, rfl, rfl, rfl, rfl, rfl, rfl, rfl, rfl, rfl, rfl, rfl, rfl, rfl, rfl, rfl, rfl, rfl, rfl, rfl, rfl, rfl, rfl, trivial⟩ ?_
        refine NX.meet () ⟨rfl, rfl, rfl, rfl, rfl, rfl, rfl, ?_, rfl, rfl, rfl, trivial⟩ (fun w hw => (hw.to 5 [0, 3, 4, 1, 2] 3 [1, 2] rfl))
        show some (I (max 0 (min kv (((vB s.fs kf).length : Int) - (vD s.fs kf : Int))))) = some (I ((keepK keep x.i ((vB s.fs kf).length - vD s.fs kf)) : Nat))
        rw [keepK_some (hkv2 ▸ List.getElem?_eq_getElem hkl), Int.ofNat_sub hfe2]
      · skip
        have hkl : keep.length ≤ x.i := by have h9 := of_decide_eq_false h2; omega
        refine TR.skip ?_
        refine NX.meet () ⟨rfl, rfl, rfl, rfl, rfl, rfl, rfl, ?_, rfl, rfl, rfl, trivial⟩ (fun w hw => (hw.to 5 [0, 3, 4, 1, 2] 2 [0, 1] rfl))
        rw [keepK_none hkl]; rfl
    refine TR.seq ?_
    refine TR.weak (fun w hw => hw.allF_get (k := (kf : Int)) (.tail _ (.tail _ hA))) ?_
    refine TR.region ?_
    refine RL.fieldAddr rfl yf_tf69_0 rfl rfl ?_
    refine RL.load1 0 rfl yf_ts32 rfl rfl rfl rfl ?_
    refine RL.fieldAddr rfl yf_tf69_1 rfl rfl ?_
    refine RL.load1 0 rfl yf_ts3 rfl rfl rfl rfl ?_
    refine RL.move rfl rfl rfl ?_
    refine RL.bin rfl rfl rfl (BinV.add ((vD s.fs kf + (keepK keep x.i ((vB s.fs kf).length - vD s.fs kf)) : Nat) : Int) (by omega) (by omega) (by omega)) rfl ?_
    refine RL.sliceToB (k := vD s.fs kf + (keepK keep x.i ((vB s.fs kf).length - vD s.fs kf))) (l := vB s.fs kf) rfl yf_tl32 yf_tz5 rfl rfl (by rw [List.length_take]; omega) hfe1 (.head _) rfl ?_
    refine RL.call rfl rfl Tryz.call29 rfl (cloneB_spec (l := ((vB s.fs kf).take (vD s.fs kf + (keepK keep x.i ((vB s.fs kf).length - vD s.fs kf))))) (rd_fact (.head _)) (by rw [List.length_take]; omega)) (fun y => ?_)
    refine RL.open1 (fun w hw => ⟨hw.ownLen.2, hw⟩) (fun hyc => ?_)
    refine RL.fieldAddr rfl yf_tf69_0 rfl rfl ?_
    refine RL.store1 1 rfl yf_ts32 rfl rfl rfl rfl rfl ?_
    refine RL.nil ?_
    refine NX.seq ?_
    refine TR.seq ?_
    refine TR.seq ?_
    refine TR.region ?_
    refine RL.fieldAddr rfl yf_tf69_1 rfl rfl ?_
    refine RL.load1 1 rfl yf_ts3 rfl rfl rfl rfl ?_
    refine RL.assign rfl rfl rfl ?_
    refine RL.nil ?_
    refine NX.seq ?_
    refine TR.block ?_
    refine TR.loopP (ι := CrY) (fun u => vD s.fs kf ≤ u.j ∧ u.j ≤ ((vB s.fs kf).take (vD s.fs kf + (keepK keep x.i ((vB s.fs kf).length - vD s.fs kf)))).length) (fun u => [(0, .pointer (some ⟨b, 0, none⟩)), (1, .slice ok keep.length ck), (2, I flip), (6, .slice u.oa (crPL x.rs (⟨kf, ((vB s.fs kf).take (vD s.fs kf + (keepK keep x.i ((vB s.fs kf).length - vD s.fs kf)))), vD s.fs kf, y.1, y.2⟩ : CrR) u.j).length u.c), (7, I x.i), (8, I (kf : Int)), (9, .pointer (some ⟨fb, 0, none⟩)), (11, I u.j), (15, .slice ks.1 ((filesB (vB s.fs)).map fun n : Nat => (n : Int)).length ks.2), (16, I (((filesB (vB s.fs)).map fun n : Nat => (n : Int)).length : Nat)), (17, I x.i)]) (fun u => OwnSl 73 1 u.oa (crPL x.rs (⟨kf, ((vB s.fs kf).take (vD s.fs kf + (keepK keep x.i ((vB s.fs kf).length - vD s.fs kf)))), vD s.fs kf, y.1, y.2⟩ : CrR) u.j).length u.c (crPL x.rs (⟨kf, ((vB s.fs kf).take (vD s.fs kf + (keepK keep x.i ((vB s.fs kf).length - vD s.fs kf)))), vD s.fs kf, y.1, y.2⟩ : CrR) u.j) :: Box fb 69 [.slice y.1 ((vB s.fs kf).take (vD s.fs kf + (keepK keep x.i ((vB s.fs kf).length - vD s.fs kf)))).length y.2, I (vD s.fs kf)] :: OwnSl 5 1 y.1 ((vB s.fs kf).take (vD s.fs kf + (keepK keep x.i ((vB s.fs kf).length - vD s.fs kf)))).length y.2 (bytesV ((vB s.fs kf).take (vD s.fs kf + (keepK keep x.i ((vB s.fs kf).length - vD s.fs kf))))) :: Al (x.rs.map (crOwn 5)) :: Box b 57 (dkC (⟨s.m, x.fs, s.room, s.off, s.armed, s.left⟩ : Ds)) :: MpB s.m (fsV x.fs) :: M) (fun u => ArrF ks.1 (ints ((filesB (vB s.fs)).map fun n : Nat => (n : Int))) :: F) (fun u => ((vB s.fs kf).take (vD s.fs kf + (keepK keep x.i ((vB s.fs kf).length - vD s.fs kf)))).length - u.j) ⟨vD s.fs kf, x.oa, x.c⟩ ⟨Nat.le_refl _, by show vD s.fs kf ≤ _; rw [List.length_take]; omega⟩ ⟨rfl, rfl, rfl, (by show some (Value.slice x.oa (crPtrs x.rs).length x.c) = some (Value.slice x.oa (crPL x.rs (⟨kf, ((vB s.fs kf).take (vD s.fs kf + (keepK keep x.i ((vB s.fs kf).length - vD s.fs kf)))), vD s.fs kf, y.1, y.2⟩ : CrR) (vD s.fs kf)).length x.c); rw [show crPL x.rs (⟨kf, ((vB s.fs kf).take (vD s.fs kf + (keepK keep x.i ((vB s.fs kf).length - vD s.fs kf)))), vD s.fs kf, y.1, y.2⟩ : CrR) (vD s.fs kf) = crPtrs x.rs from crPL_start _ _]), rfl, rfl, rfl, rfl, rfl, rfl, rfl, trivial⟩ (fun w hw => (by have h9 := (hw.to 6 [4, 1, 0, 5, 2, 3] 4 [3] rfl); rw [← show crPL x.rs (⟨kf, ((vB s.fs kf).take (vD s.fs kf + (keepK keep x.i ((vB s.fs kf).length - vD s.fs kf)))), vD s.fs kf, y.1, y.2⟩ : CrR) (vD s.fs kf) = crPtrs x.rs from crPL_start _ _] at h9; exact h9)) (fun u hq => ?_)
    refine TR.seq ?_
    refine TR.seq ?_
    refine TR.region ?_
    refine RL.move rfl rfl rfl ?_
    refine RL.fieldAddr rfl yf_tf69_0 rfl rfl ?_
    refine RL.load1 1 rfl yf_ts32 rfl rfl rfl rfl ?_
    refine RL.lenSlice rfl yf_tl32 rfl rfl ?_
    refine RL.bin rfl rfl rfl BinV.lss rfl ?_
    refine RL.nil ?_
    refine NX.seq ?_
    refine TR.cond rfl (fun h3 => ?_) (fun h3 => ?_)
    · skip
      have hj : u.j < ((vB s.fs kf).take (vD s.fs kf + (keepK keep x.i ((vB s.fs kf).length - vD s.fs kf)))).length := by have h9 := of_decide_eq_true h3; omega
      have hpl : (crPL x.rs (⟨kf, ((vB s.fs kf).take (vD s.fs kf + (keepK keep x.i ((vB s.fs kf).length - vD s.fs kf)))), vD s.fs kf, y.1, y.2⟩ : CrR) u.j).length = (crLoose x.rs).length + (u.j - vD s.fs kf) := crPL_len (r := (⟨kf, ((vB s.fs kf).take (vD s.fs kf + (keepK keep x.i ((vB s.fs kf).length - vD s.fs kf)))), vD s.fs kf, y.1, y.2⟩ : CrR)) hq.1
      have hnl : ((vB s.fs kf).take (vD s.fs kf + (keepK keep x.i ((vB s.fs kf).length - vD s.fs kf)))).length ≤ (vB s.fs kf).length := by rw [List.length_take]; omega
      refine TR.openP (fun w hw => own_at (i := 2) (M := _ :: _ :: _ :: _) rfl (bytesV_ne (b := ((vB s.fs kf).take (vD s.fs kf + (keepK keep x.i ((vB s.fs kf).length - vD s.fs kf))))) hj) hw) (fun g hga => ?_)
      refine TR.skip ?_
      refine NX.seq ?_
      refine TR.seq ?_
      refine TR.block ?_
      refine TR.region ?_
      refine RL.move rfl rfl rfl ?_
      refine RL.fieldAddr rfl yf_tf69_0 rfl rfl ?_
      refine RL.load1 1 rfl yf_ts32 rfl rfl rfl rfl ?_
      refine RL.move rfl rfl rfl ?_
      refine RL.indexAddr rfl yf_tl32 yf_tz5 (congrArg (fun a => some (Value.slice a _ _)) hga) rfl (by omega) (by omega) rfl ?_
      refine RL.buildSlice rfl rfl (yf_bs71_1_0 _) rfl (fun b4 => ?_)
      refine RL.ofGV rfl rfl (GV.append (j := 1) yf_tl71 yf_ni71 yf_te73 rfl rfl rfl (src_box (i := 0) rfl rfl rfl) (by rw [hpl]; omega) (by rw [hpl]; omega)) (fun z => ?_)
      refine RL.assign rfl rfl rfl ?_
      refine RL.nil ?_
      refine NX.off ?_
      refine NX.seq ?_
      refine TR.region ?_
      refine RL.move rfl rfl rfl ?_
      refine RL.bin rfl rfl rfl (BinV.add ((u.j + 1 : Nat) : Int) (by omega) (by omega) (by omega)) rfl ?_
      refine RL.assign rfl rfl rfl ?_
      refine RL.nil ?_
      refine NX.roundP ⟨u.j + 1, z.1, z.2⟩ ⟨by show vD s.fs kf ≤ u.j + 1; have := hq.1; omega, by show u.j + 1 ≤ ((vB s.fs kf).take (vD s.fs kf + (keepK keep x.i ((vB s.fs kf).length - vD s.fs kf)))).length; omega⟩ (by show ((vB s.fs kf).take (vD s.fs kf + (keepK keep x.i ((vB s.fs kf).length - vD s.fs kf)))).length - (u.j + 1) < _; omega) ⟨rfl, rfl, rfl, ?_, rfl, rfl, rfl, rfl, rfl, rfl, rfl, trivial⟩ (fun w hw => ?_)
      · show some (Value.slice z.1 ((crPL x.rs (⟨kf, ((vB s.fs kf).take (vD s.fs kf + (keepK keep x.i ((vB s.fs kf).length - vD s.fs kf)))), vD s.fs kf, y.1, y.2⟩ : CrR) u.j).length + 1) z.2) = some (Value.slice z.1 (crPL x.rs (⟨kf, ((vB s.fs kf).take (vD s.fs kf + (keepK keep x.i ((vB s.fs kf).length - vD s.fs kf)))), vD s.fs kf, y.1, y.2⟩ : CrR) (u.j + 1)).length z.2)
        rw [crPL_step (r := (⟨kf, ((vB s.fs kf).take (vD s.fs kf + (keepK keep x.i ((vB s.fs kf).length - vD s.fs kf)))), vD s.fs kf, y.1, y.2⟩ : CrR)) hq.1, List.length_append]; rfl
      · have h9 := (hw.to 7 [1, 2, 3, 4, 5, 6] 1 [0] rfl)
        show St w (OwnSl 73 1 z.1 (crPL x.rs (⟨kf, ((vB s.fs kf).take (vD s.fs kf + (keepK keep x.i ((vB s.fs kf).length - vD s.fs kf)))), vD s.fs kf, y.1, y.2⟩ : CrR) (u.j + 1)).length z.2 (crPL x.rs (⟨kf, ((vB s.fs kf).take (vD s.fs kf + (keepK keep x.i ((vB s.fs kf).length - vD s.fs kf)))), vD s.fs kf, y.1, y.2⟩ : CrR) (u.j + 1)) :: _) _
        rw [crPL_step (r := (⟨kf, ((vB s.fs kf).take (vD s.fs kf + (keepK keep x.i ((vB s.fs kf).length - vD s.fs kf)))), vD s.fs kf, y.1, y.2⟩ : CrR)) hq.1, List.length_append, crPtr_at (r := (⟨kf, ((vB s.fs kf).take (vD s.fs kf + (keepK keep x.i ((vB s.fs kf).length - vD s.fs kf)))), vD s.fs kf, y.1, y.2⟩ : CrR)) hga]
        exact h9
    · skip
      have hj : u.j = ((vB s.fs kf).take (vD s.fs kf + (keepK keep x.i ((vB s.fs kf).length - vD s.fs kf)))).length := by have h9 := of_decide_eq_false h3; have := hq.2; omega
      refine TR.exit ?_
      refine NX.exitThen ?_
      refine NX.exitThen ?_
      refine NX.exitHere ?_
      refine NX.seq ?_
      refine TR.region ?_
      refine RL.move rfl rfl rfl ?_
      refine RL.move rfl rfl rfl ?_
      refine RL.loadA 1 rfl rfl rfl yf_ta69 rfl ?_
      refine RL.call rfl rfl Tryz.call32 rfl (Ctr.pick 6 [4, 5, 0, 1, 2, 3] rfl (set_spec (s := (⟨s.m, x.fs, s.room, s.off, s.armed, s.left⟩ : Ds)) (f := (⟨kf, ((vB s.fs kf).take (vD s.fs kf + (keepK keep x.i ((vB s.fs kf).length - vD s.fs kf)))), vD s.fs kf, y.1, y.2⟩ : CrR).f) (n := (kf : Int)) hkf64)) (fun _ => ?_)
      refine RL.nil ?_
      refine NX.off ?_
      refine NX.seq ?_
      refine TR.region ?_
      refine RL.bin rfl rfl rfl (BinV.add ((x.i + 1 : Nat) : Int) (by omega) (by omega) (by omega)) rfl ?_
      refine RL.move rfl rfl rfl ?_
      refine RL.nil ?_
      refine NX.roundP ⟨x.i + 1, x.rs ++ [(⟨kf, ((vB s.fs kf).take (vD s.fs kf + (keepK keep x.i ((vB s.fs kf).length - vD s.fs kf)))), vD s.fs kf, y.1, y.2⟩ : CrR)], setF x.fs (kf : Int) (⟨kf, ((vB s.fs kf).take (vD s.fs kf + (keepK keep x.i ((vB s.fs kf).length - vD s.fs kf)))), vD s.fs kf, y.1, y.2⟩ : CrR).f, u.oa, u.c⟩ ⟨hx.1.step hok hi (r := (⟨kf, ((vB s.fs kf).take (vD s.fs kf + (keepK keep x.i ((vB s.fs kf).length - vD s.fs kf)))), vD s.fs kf, y.1, y.2⟩ : CrR)) hkf (hkf ▸ (cut_at hi).symm : ((vB s.fs kf).take (vD s.fs kf + (keepK keep x.i ((vB s.fs kf).length - vD s.fs kf)))) = cutB (vB s.fs) (vD s.fs) keep kf) rfl (by show vD s.fs kf ≤ ((vB s.fs kf).take (vD s.fs kf + (keepK keep x.i ((vB s.fs kf).length - vD s.fs kf)))).length; rw [List.length_take]; omega) hyc, by show x.i + 1 ≤ _; omega⟩ (by show (filesB (vB s.fs)).length - (x.i + 1) < _; omega) ⟨rfl, rfl, rfl, ?_, rfl, rfl, rfl, trivial⟩ (fun w hw => ?_)
      · show some (Value.slice u.oa (crPL x.rs (⟨kf, ((vB s.fs kf).take (vD s.fs kf + (keepK keep x.i ((vB s.fs kf).length - vD s.fs kf)))), vD s.fs kf, y.1, y.2⟩ : CrR) u.j).length u.c) = some (Value.slice u.oa (crPtrs (x.rs ++ [(⟨kf, ((vB s.fs kf).take (vD s.fs kf + (keepK keep x.i ((vB s.fs kf).length - vD s.fs kf)))), vD s.fs kf, y.1, y.2⟩ : CrR)])).length u.c)
        rw [hj, ← crPL_end]
      · have h9 := (hw.to 6 [4, 5, 2, 0, 1] 1 [0] rfl)
        rw [hj, show crPL x.rs (⟨kf, ((vB s.fs kf).take (vD s.fs kf + (keepK keep x.i ((vB s.fs kf).length - vD s.fs kf)))), vD s.fs kf, y.1, y.2⟩ : CrR) ((vB s.fs kf).take (vD s.fs kf + (keepK keep x.i ((vB s.fs kf).length - vD s.fs kf)))).length = crPtrs (x.rs ++ [(⟨kf, ((vB s.fs kf).take (vD s.fs kf + (keepK keep x.i ((vB s.fs kf).length - vD s.fs kf)))), vD s.fs kf, y.1, y.2⟩ : CrR)]) from crPL_end _ _] at h9
        have h8 := (show St w (crOwn 5 (⟨kf, ((vB s.fs kf).take (vD s.fs kf + (keepK keep x.i ((vB s.fs kf).length - vD s.fs kf)))), vD s.fs kf, y.1, y.2⟩ : CrR) :: Al (x.rs.map (crOwn 5)) :: _) _ from h9).alSnoc
        show St w (_ :: Al ((x.rs ++ [(⟨kf, ((vB s.fs kf).take (vD s.fs kf + (keepK keep x.i ((vB s.fs kf).length - vD s.fs kf)))), vD s.fs kf, y.1, y.2⟩ : CrR)]).map (crOwn 5)) :: _ :: _ :: M) _
        rw [List.map_append]
        exact h8.swap
  · skip
    have hi : x.i = (filesB (vB s.fs)).length := by have h9 := of_decide_eq_false h1; simp only [List.length_map] at h9; have := hx.2; omega
    have hcf : CrFin s keep x.fs x.rs := (hi ▸ hx.1).fin hok
    have hlb := hx.1.few hx.2 hu
    have hlp := crPtrs_len x.rs
    refine TR.exit ?_
    refine NX.exitThen ?_
    refine NX.exitThen ?_
    refine NX.exitHere ?_
    refine NX.seq ?_
    refine TR.cut (ι := {z : Fs // CrEnd s keep flip z}) (fun _ => [(0, .pointer (some ⟨b, 0, none⟩))]) (fun z => Box b 57 (dkC (⟨s.m, z.1, s.room, s.off, s.armed, s.left⟩ : Ds)) :: MpB s.m (fsV z.1) :: M) (fun z => AllF z.1 :: F) ?_ (fun z => ?_)
    · skip
      refine TR.seq ?_
      refine TR.region ?_
      refine RL.move rfl rfl rfl ?_
      refine RL.lenSlice rfl yf_tl71 rfl rfl ?_
      refine RL.bin rfl rfl rfl (BinV.mul ((8 * (crPtrs x.rs).length : Nat) : Int) (by omega) (by omega) (by omega)) rfl ?_
      refine RL.assign rfl rfl rfl ?_
      refine RL.nil ?_
      refine NX.seq ?_
      refine TR.seq ?_
      refine TR.region ?_
      refine RL.move rfl rfl rfl ?_
      refine RL.bin rfl rfl rfl BinV.geq rfl ?_
      refine RL.move rfl rfl rfl ?_
      refine RL.part (fun h6 => ?_) (fun h6 => ?_)
      · skip
        have hf0 := of_decide_eq_true h6
        obtain ⟨fn, hfn⟩ : ∃ fn : Nat, flip = fn := ⟨flip.toNat, by omega⟩
        refine RL.move rfl rfl rfl ?_
        refine RL.bin rfl rfl rfl BinV.gtr rfl ?_
        refine RL.pickT rfl rfl rfl rfl ?_
        refine RL.nil ?_
        refine NX.seq ?_
        refine TR.cond rfl (fun h7 => ?_) (fun h7 => ?_)
        · skip
          have hmany := of_decide_eq_true h7
          refine TR.seq ?_
          subst hfn
          refine TR.region ?_
          refine RL.move rfl rfl rfl ?_
          refine RL.move rfl rfl rfl ?_
          refine RL.bin rfl rfl rfl (BinV.remK (a := fn) (b := 8 * (crPtrs x.rs).length) (by omega)) rfl ?_
          refine RL.assign rfl rfl rfl ?_
          refine RL.nil ?_
          refine NX.seq ?_
          obtain ⟨q, hqd⟩ : ∃ q, q = fn % (8 * (crPtrs x.rs).length) := ⟨_, rfl⟩
          have hqlt : q < 8 * (crPtrs x.rs).length := hqd ▸ Nat.mod_lt _ (by omega)
          have hq8 : q / 8 < (crLoose x.rs).length := by omega
          obtain ⟨hm1, hm2, hm3⟩ := crLoose_mem (List.getElem_mem hq8)
          obtain ⟨ir, hir, hrow⟩ := List.getElem_of_mem hm1
          obtain ⟨jj, hjj⟩ : ∃ jj, jj = (crLoose x.rs)[q / 8].2 := ⟨_, rfl⟩
          have hjl : jj < x.rs[ir].b.length := by rw [hrow, hjj]; exact hm3
          have hcl := (hcf.b x.rs[ir] (List.getElem_mem hir)).1
          have hcl2 : x.rs[ir].b.length ≤ used s.fs := by rw [hcl]; exact Nat.le_trans (cutB_len _ _ _ _) (fget_used _ _)
          rw [← hqd]
          refine TR.openP (fun w hw => own_at (i := 0) (M := _ :: _) rfl (by intro e; have := congrArg List.length e; rw [hlp, List.length_nil] at this; omega) hw) (fun gl hgl => ?_)
          refine TR.pick 4 [1, 0, 2, 3] rfl ?_
          refine TR.openP (fun w hw => St.crPick (e := 5) hir (by intro e; rw [e] at hjl; exact absurd hjl (by simp)) hw) (fun gr hgr => ?_)
          have hpv : (crPtrs x.rs)[0 + ((q / 8 : Nat) : Int).toNat * 1]? = some (.pointer (some ⟨gr, 0 + jj * 1, none⟩)) := by
            rw [Int.toNat_natCast, Nat.zero_add, Nat.mul_one]
            unfold crPtrs
            rw [List.getElem?_map, List.getElem?_eq_getElem hq8]
            show some (crPtr (crLoose x.rs)[q / 8].1 (crLoose x.rs)[q / 8].2) = _
            rw [← hrow, ← hjj, crPtr_at hgr]
          have hbv : (bytesV x.rs[ir].b)[0 + jj * 1]? = some (B8 (x.rs[ir].b[jj]).toNat) := by
            rw [Nat.zero_add, Nat.mul_one]; unfold bytesV; rw [List.getElem?_map, List.getElem?_eq_getElem hjl]; rfl
          refine TR.sub (E' := [(0, _), (1, _), (2, _), (6, _), (12, _), (13, _), (15, _), (16, _), (17, _), (18, _), (74, _), (75, _), (76, _), (77, _), (78, _), (79, _), (80, _), (81, _), (82, _), (83, _), (84, _), (85, _)]) ⟨rfl, rfl, rfl, rfl, rfl, rfl, rfl, rfl, rfl, rfl, rfl, rfl, rfl, rfl, rfl, rfl, rfl, rfl, rfl, rfl, rfl, rfl, trivial⟩ ?_
          refine TR.draw mixed ?_
          apply AR.more [(0, _), (1, _), (2, _), (3, _), (4, _), (5, _), (6, _), (7, _), (8, _), (9, _), (10, _), (11, _), (12, _)]
          refine AR.eff [0, 1, 2, 3, 4, 5, 6, 7, 8, 9, 10, 11, 12] 13 [0, 1, 2, 3, 4, 5, 6, 7, 8, 9, 10, 11, 12, 13] ⟨QOne.yes rfl rfl rfl (PV.move rfl), QOne.yes rfl rfl rfl (PV.move rfl), QOne.yes rfl rfl rfl (PV.bin rfl rfl (BinV.quo (by decide) ((q / 8 : Nat) : Int) (by rw [Int.tdiv_eq_ediv_of_nonneg (by omega)]; omega) (by omega) (by omega))), QOne.yes rfl rfl rfl (PV.indexAddr yf_tl71 yf_tz73 (congrArg (fun a => some (Value.slice a _ _)) hgl) rfl (by omega) (by omega)), QOne.yes rfl rfl rfl (PV.loadS rfl (own_one (i := 3) rfl hgl yf_ts73 hpv)), QOne.yes rfl rfl rfl (PV.nilCheck rfl), QOne.yes rfl rfl rfl (PV.loadS rfl (own_one (i := 0) rfl hgr yf_ts5 hbv)), QOne.yes rfl rfl rfl (PV.move rfl), QOne.yes rfl rfl rfl (PV.bin rfl rfl (BinV.remK (a := q) (b := 8) (by decide))), QOne.yes rfl rfl rfl (PV.bin rfl rfl (BinV.sub ((7 - q % 8 : Nat) : Int) (by omega) (by omega) (by omega))), QOne.yes rfl rfl rfl (PV.bin rfl rfl (BinV.shlB (a := 1) (s := 7 - q % 8) (by omega))), QOne.yes rfl rfl rfl (PV.bin rfl rfl (BinV.xorB (a := (x.rs[ir].b[jj]).toNat) (b := 1 * 2 ^ (7 - q % 8) % 256) (UInt8.toNat_lt _) (Nat.mod_lt _ (by decide)))), QOne.yes rfl rfl rfl (PV.nilCheck rfl), trivial⟩ rfl rfl rfl rfl rfl rfl rfl (EV.storeO (vs := [B8 ((x.rs[ir].b[jj]).toNat ^^^ (1 * 2 ^ (7 - q % 8) % 256))]) 0 rfl rfl rfl hgr yf_tz5 rfl (by rw [bytesV_length]; show 0 + jj * 1 + 1 ≤ _; omega) rfl) (fun _ => ?_)
          refine AR.done [12, 11, 0, 1, 2, 3, 4, 5, 6, 7, 8, 9, 10] rfl ?_
          refine AR.last [] [0, 1, 2, 3, 4, 5, 6, 7, 8, 9, 10, 11, 12, 13] trivial rfl rfl rfl ?_
          refine NX.sub (E' := [(0, _), (1, _), (2, _), (6, _), (12, _), (15, _), (16, _), (17, _), (18, _), (74, _), (75, _), (76, _), (77, _), (78, _), (79, _), (80, _), (81, _), (82, _), (83, _), (84, _), (85, _)]) ⟨rfl, rfl, rfl, rfl, rfl, rfl, rfl, rfl, rfl, rfl, rfl, rfl, rfl, rfl, rfl, rfl, rfl, rfl, rfl, rfl, rfl, trivial⟩ ?_
          refine NX.meet (⟨flipF x.fs x.rs[ir].n jj (q % 8), by have h9 := hcf.flip (flip := (fn : Int)) (by omega) q (by rw [Int.toNat_natCast, ← hlp]; exact hqd) hq8; rw [← hrow, ← hjj] at h9; exact h9⟩ : {z : Fs // CrEnd s keep (fn : Int) z}) ⟨rfl, trivial⟩ (fun w hw => ?_)
          have h8 : St w (OwnSl 5 1 x.rs[ir].oa x.rs[ir].b.length x.rs[ir].c ((bytesV x.rs[ir].b).take (0 + jj * 1) ++ [B8 (x.rs[ir].b[jj].toNat ^^^ (1 * 2 ^ (7 - q % 8) % 256))] ++ (bytesV x.rs[ir].b).drop (0 + jj * 1 + 1)) :: Al ((x.rs.take ir).map (crOwn 5)) :: Al ((x.rs.drop (ir + 1)).map (crOwn 5)) :: Box b 57 (dkC (⟨s.m, x.fs, s.room, s.off, s.armed, s.left⟩ : Ds)) :: MpB s.m (fsV x.fs) :: M) F := (hw.to 6 [0, 1, 2, 4, 5] 1 [] rfl)
          rw [turn_bytes hjl (Nat.mod_lt _ (by decide))] at h8
          have h7 : St w (crOwn 5 (x.rs[ir].turn jj (q % 8)) :: Al ((x.rs.take ir).map (crOwn 5)) :: Al ((x.rs.drop (ir + 1)).map (crOwn 5)) :: Box b 57 (dkC (⟨s.m, x.fs, s.room, s.off, s.armed, s.left⟩ : Ds)) :: MpB s.m (fsV x.fs) :: M) F := by
            show St w (OwnSl 5 1 x.rs[ir].oa (turnB x.rs[ir].b jj (q % 8)).length x.rs[ir].c (bytesV (turnB x.rs[ir].b jj (q % 8))) :: _) F
            rw [turnB_len]; exact h8
          have h6 := (St.crBack hir h7).crAll (turn_mem hcf (j := jj) (q := q % 8) hir)
          show St w (Box b 57 (dkC (⟨s.m, x.fs, s.room, s.off, s.armed, s.left⟩ : Ds)) :: MpB s.m (fsV (flipF x.fs x.rs[ir].n jj (q % 8))) :: M) (AllF (flipF x.fs x.rs[ir].n jj (q % 8)) :: F)
          rw [flipF_fsV]
          exact h6
        · skip
          have hno : flip < 0 ∨ (crLoose x.rs).length = 0 := Or.inr (by have h9 := of_decide_eq_false h7; omega)
          refine TR.skip ?_
          refine NX.meet (⟨x.fs, hcf.noFlip hno⟩ : {z : Fs // CrEnd s keep flip z}) ⟨rfl, trivial⟩ (fun w hw => ?_)
          exact (hw.to 4 [1, 2, 3] 1 [] rfl).crAll (fun p hp => by obtain ⟨r, h1, _, h3⟩ := hcf.mem p hp; exact ⟨r, h1, by rw [h3]; rfl, by rw [h3]; rfl⟩)
      · skip
        have hf0 := of_decide_eq_false h6
        have hno : flip < 0 ∨ (crLoose x.rs).length = 0 := Or.inl (by omega)
        refine RL.skip rfl rfl rfl ?_
        refine RL.skip rfl rfl rfl ?_
        refine RL.pickF rfl rfl rfl rfl ?_
        refine RL.nil ?_
        refine NX.seq ?_
        refine TR.condF rfl ?_
        refine TR.skip ?_
        refine NX.meet (⟨x.fs, hcf.noFlip hno⟩ : {z : Fs // CrEnd s keep flip z}) ⟨rfl, trivial⟩ (fun w hw => ?_)
        exact (hw.to 4 [1, 2, 3] 1 [] rfl).crAll (fun p hp => by obtain ⟨r, h1, _, h3⟩ := hcf.mem p hp; exact ⟨r, h1, by rw [h3]; rfl, by rw [h3]; rfl⟩)
    refine TR.seq ?_
    refine TR.region ?_
    refine RL.move rfl rfl rfl ?_
    refine RL.call rfl rfl Tryz.call34 rfl (harden_spec (s := (⟨s.m, z.1, s.room, s.off, s.armed, s.left⟩ : Ds)) z.2.ok) (fun _ => ?_)
    refine RL.nil ?_
    refine NX.seq ?_
    refine TR.region ?_
    refine RL.move rfl rfl rfl ?_
    refine RL.move rfl rfl rfl ?_
    refine RL.nilCheck rfl rfl rfl ?_
    refine RL.fieldAddr rfl yf_tf57_2 rfl rfl ?_
    refine RL.store1 0 rfl yf_ts4 rfl rfl rfl rfl rfl ?_
    refine RL.nilCheck rfl rfl rfl ?_
    refine RL.fieldAddr rfl yf_tf57_3 rfl rfl ?_
    refine RL.store1 0 rfl yf_ts4 rfl rfl rfl rfl rfl ?_
    refine RL.nil ?_
    refine NX.end0 (⟨⟨s.m, hard z.1, s.room, false, false, s.left⟩, z.2.crash⟩ : {t : Ds // CrashR s keep flip t}) rfl rfl (fun w hw => ?_)
    have h9 := (hw).hardF (fs := z.1) (.head _)
    exact h9.facts (fun φ h => by rcases List.mem_cons.1 h with e1 | h; exact e1 ▸ .head _; exact .tail _ (.tail _ h))
end Go.Proofs.YtdnjoffkanjjhaaGreatDoor

namespace Go.GL
set_option linter.unusedVariables false
theorem sum_perm {l l' : List Nat} (h : l.Perm l') : l.sum = l'.sum := by
  induction h with
  | nil => rfl
  | cons x _ ih => rw [List.sum_cons, List.sum_cons, ih]
  | swap x y l => rw [List.sum_cons, List.sum_cons, List.sum_cons, List.sum_cons]; omega
  | trans _ _ h1 h2 => exact h1.trans h2
theorem sum_filter0 (g : Nat → Nat) (p : Nat → Bool) : ∀ (l : List Nat), (∀ n, n ∈ l → p n = false → g n = 0) → ((l.filter p).map g).sum = (l.map g).sum
  | [], _ => rfl
  | a :: l, h => by
    have ih := sum_filter0 g p l fun n hn => h n (.tail _ hn)
    rw [List.filter_cons]
    cases hp : p a with
    | true => rw [if_pos rfl, List.map_cons, List.sum_cons, List.map_cons, List.sum_cons, ih]
    | false => rw [if_neg (by simp), List.map_cons, List.sum_cons, ih, h a (.head _) hp, Nat.zero_add]
theorem used_view {fs : Fs} (h : OkF fs) : used fs = ((List.range 64).map fun n => (vB fs n).length).sum := by
  rw [← used_sumK h.keys]
  have h1 : (fs.map Prod.fst).Perm ((filesB (vB fs)).map fun n : Nat => (n : Int)) := (srt_perm _).symm.trans (List.Perm.of_eq (files_srt h))
  unfold sumK
  rw [sum_perm (h1.map fun k => (fget fs k).b.length), List.map_map]
  refine sum_filter0 (fun n => (vB fs n).length) (fun n => !(vB fs n).isEmpty) _ fun n _ hp => ?_
  have : (vB fs n).isEmpty = true := by simpa using hp
  rw [List.isEmpty_iff.1 this]; rfl
theorem sum_le {g g' : Nat → Nat} : ∀ {l : List Nat}, (∀ n, n ∈ l → g n ≤ g' n) → (l.map g).sum ≤ (l.map g').sum
  | [], _ => Nat.le_refl _
  | a :: l, h => by
    rw [List.map_cons, List.sum_cons, List.map_cons, List.sum_cons]
    have := h a (.head _); have := sum_le (l := l) fun n hn => h n (.tail _ hn); omega
theorem used_mono {fs fs' : Fs} (h : OkF fs) (h' : OkF fs') (hle : ∀ n, n < 64 → (vB fs n).length ≤ (vB fs' n).length) : used fs ≤ used fs' := by
  rw [used_view h, used_view h']
  exact sum_le fun n hn => hle n (List.mem_range.1 hn)
theorem CrashR.used {s t : Ds} {keep : List Int} {flip : Int} (h : CrashR s keep flip t) (hok : OkF s.fs) : used t.fs ≤ used s.fs := used_mono h.ok hok fun n hn => by
  rw [h.b n hn, crashB_len]; exact cutB_len _ _ _ _
theorem vB_setF {fs : Fs} {n : Nat} {f : Fl} (h : OkF fs) (k : Nat) : vB (setF fs n f) k = if k = n then f.b else vB fs k := by
  show (fget (setF fs n f) k).b = _
  rw [fget_setF h.keys]
  by_cases e : k = n
  · rw [if_pos e, if_pos (by omega)]
    by_cases e2 : f.b = []
    · rw [if_pos e2, e2]; rfl
    · rw [if_neg e2]
  · rw [if_neg e, if_neg (by omega)]; rfl
theorem vD_setF {fs : Fs} {n : Nat} {f : Fl} (h : OkF fs) (k : Nat) : vD (setF fs n f) k = if k = n then (if f.b = [] then 0 else f.dur) else vD fs k := by
  show (fget (setF fs n f) k).dur = _
  rw [fget_setF h.keys]
  by_cases e : k = n
  · rw [if_pos e, if_pos (by omega)]
    by_cases e2 : f.b = []
    · rw [if_pos e2, if_pos e2]; rfl
    · rw [if_neg e2, if_neg e2]
  · rw [if_neg e, if_neg (by omega)]; rfl
theorem vB_hard (fs : Fs) (k : Nat) : vB (hard fs) k = vB fs k := by
  show (fget (hard fs) k).b = _; rw [fget_hard]; rfl
theorem vD_hard (fs : Fs) (k : Nat) : vD (hard fs) k = (vB fs k).length := by
  show (fget (hard fs) k).dur = _; rw [fget_hard]; rfl
structure Lft (s : Ds) : Prop where
  lo : -1 ≤ s.left
  hi : s.left ≤ 4611686018427387904
  armed : s.armed = true → 0 ≤ s.left
structure Rm (s : Ds) : Prop where
  used : used s.fs ≤ s.room
  room : s.room ≤ 16777216
structure LogSt (s : Ds) (g : Lg) (f : Nat) (L : List (List UInt8)) : Prop where
  ok : OkF s.fs
  lft : Lft s
  rm : Rm s
  off : s.off = false
  gf : g.f = (f : Int)
  hf : f < 64
  n : g.n = L.length
  dn : g.dn = false
  b : vB s.fs f = framesJ 0 L
  hard : ∀ k, vD s.fs k = (vB s.fs k).length
structure LogDn (s : Ds) (g : Lg) (f : Nat) (L : List (List UInt8)) (x : List UInt8) : Prop where
  ok : OkF s.fs
  lft : Lft s
  rm : Rm s
  off : s.off = true
  gf : g.f = (f : Int)
  hf : f < 64
  n : g.n = L.length
  dn : g.dn = true
  b : vB s.fs f = framesJ 0 (L ++ [x])
  d : vD s.fs f = (framesJ 0 L).length
theorem step_cases (s : Ds) (h : Lft s) : (s.armed = false ∧ stepS s = s ∧ stepB s = true) ∨
    (s.armed = true ∧ 0 < s.left ∧ stepS s = { s with left := s.left - 1 } ∧ (s.off = false → stepB s = true)) ∨
    (s.armed = true ∧ s.left = 0 ∧ stepS s = { s with left := -1, off := true, armed := false } ∧ stepB s = false) := by
  by_cases ha : s.armed = true
  case neg =>
    have ha : s.armed = false := by simpa using ha
    exact .inl ⟨ha, by unfold stepS; rw [if_neg (by rw [ha]; simp)], by unfold stepB; rw [if_neg (by rw [ha]; simp)]⟩
  case pos =>
    have h0 := h.armed ha
    by_cases hl : s.left - 1 < 0
    · have e : stepS s = { s with left := s.left - 1, off := true, armed := false } := by unfold stepS; rw [if_pos ha, if_pos hl]
      have e0 : s.left = 0 := by omega
      refine .inr (.inr ⟨ha, e0, ?_, ?_⟩)
      · rw [e, e0]; rfl
      · unfold stepB; rw [if_pos ha, e]; rfl
    · have e : stepS s = { s with left := s.left - 1 } := by unfold stepS; rw [if_pos ha, if_neg hl]
      refine .inr (.inl ⟨ha, by omega, e, fun ho => ?_⟩)
      unfold stepB; rw [if_pos ha, e]
      show (!s.off) = true
      rw [ho]; rfl
theorem step_lft {s : Ds} (h : Lft s) : Lft (stepS s) := by
  rcases step_cases s h with ⟨_, e, _⟩ | ⟨ha, hl, e, _⟩ | ⟨ha, hl, e, _⟩ <;> rw [e]
  · exact h
  · exact ⟨by show -1 ≤ s.left - 1; omega, by show s.left - 1 ≤ _; have := h.hi; omega, fun _ => by show 0 ≤ s.left - 1; omega⟩
  · exact ⟨by show (-1 : Int) ≤ -1; omega, by show (-1 : Int) ≤ _; omega, fun e => by cases e⟩
theorem Lft.fs {s : Ds} (h : Lft s) (fs : Fs) : Lft { s with fs := fs } := ⟨h.lo, h.hi, h.armed⟩
theorem log_append {s : Ds} {g : Lg} {f : Nat} {L : List (List UInt8)} {x : List UInt8} {z : RdX} (h : LogSt s g f L) (hx : x.length ≤ 65536) (hz : ((fget s.fs g.f).b ++ lgFr g x).length ≤ z.c) (hr : used s.fs + (lgFr g x).length ≤ s.room) :
    (lgE s g x z = 0 ∧ LogSt (lgS s g x z) (lgG s g x z) f (L ++ [x]) ∧ (s.armed = false → (lgS s g x z).armed = false) ∧ used (lgS s g x z).fs = used s.fs + (lgFr g x).length ∧ (lgS s g x z).room = s.room ∧ (∀ k, k ≠ f → vB (lgS s g x z).fs k = vB s.fs k)) ∨
    (lgE s g x z = 22 ∧ s.armed = true ∧ LogDn (lgS s g x z) (lgG s g x z) f L x ∧ used (lgS s g x z).fs = used s.fs + (lgFr g x).length ∧ (lgS s g x z).room = s.room) := by
  have hth : there g.f := by rw [h.gf]; exact ⟨by omega, by have := h.hf; omega⟩
  have h1 : ¬ s.off = true := by rw [h.off]; simp
  have h2 : ¬ g.dn = true := by rw [h.dn]; simp
  have hx2 : ¬ (65536 : Int) < x.length := by omega
  have hroom : ¬ (s.room : Int) - used s.fs < (lgFr g x).length := by omega
  have hpos := lgFr_pos g x
  -- the bytes
  have hbb : (fget s.fs g.f).b = framesJ 0 L := by rw [h.gf]; exact h.b
  have hfr : framesJ 0 (L ++ [x]) = framesJ 0 L ++ lgFr g x := by rw [framesJ_snoc, Nat.zero_add]; unfold lgFr; rw [h.n]
  have hdd : (fget s.fs g.f).dur = (framesJ 0 L).length := by
    have h3 := h.hard f; rw [h.b] at h3; rw [h.gf]; exact h3
  obtain ⟨s1, hs1⟩ : ∃ s1 : Ds, s1 = { s with fs := setF s.fs g.f (appF s g.f (lgFr g x) z) } := ⟨_, rfl⟩
  have hS : appS s g.f (lgFr g x) z = stepS s1 := by unfold appS; rw [if_neg (show ¬ ¬ there g.f from fun e => e hth), if_neg h1, if_neg hroom, hs1]
  have hE : appE s g.f (lgFr g x) = if stepB s1 = true then 0 else 22 := by
    unfold appE; rw [if_neg (show ¬ ¬ there g.f from fun e => e hth), if_neg h1, if_neg hroom]
    rw [show stepB s1 = stepB s from by rw [hs1]; exact stepB_fs s _]
  have hnz : (appF s g.f (lgFr g x) z).b = framesJ 0 (L ++ [x]) := by show (fget s.fs g.f).b ++ lgFr g x = _; rw [hbb, hfr]
  have hne : (appF s g.f (lgFr g x) z).b ≠ [] := by
    intro e; have := congrArg List.length (hnz.symm.trans e); rw [hfr, List.length_append, List.length_nil] at this; omega
  have hok1 : OkF s1.fs := by
    rw [hs1]; exact h.ok.setF hth ⟨hz, by show (fget s.fs g.f).dur ≤ ((fget s.fs g.f).b ++ lgFr g x).length; rw [List.length_append, hdd, hbb]; omega⟩
  have hl1 : Lft s1 := by rw [hs1]; exact h.lft.fs _
  have ho1 : s1.off = false := by rw [hs1]; exact h.off
  have hrm1 : s1.room = s.room := by rw [hs1]
  have har1 : s1.armed = s.armed := by rw [hs1]
  have hvb : ∀ k, vB s1.fs k = if k = f then framesJ 0 (L ++ [x]) else vB s.fs k := fun k => by rw [hs1]; show vB (setF s.fs g.f _) k = _; rw [h.gf, vB_setF h.ok, ← h.gf, hnz]
  have hvd : vD s1.fs f = (framesJ 0 L).length := by
    rw [hs1]; show vD (setF s.fs g.f _) f = _
    rw [h.gf, vD_setF h.ok, if_pos rfl, ← h.gf, if_neg hne]
    exact hdd
  have hus : used s1.fs = used s.fs + (lgFr g x).length := by
    have := files_app (s := s) (n := g.f) (fr := lgFr g x) (z := z) h.ok hth hz hpos
    rw [used_hard] at this
    rw [hs1]; exact this.2.2
  have down : ∀ t : Ds, lgS s g x z = t → t.fs = s1.fs → t.off = true → t.room = s.room → Lft t → lgE s g x z = 22 → lgG s g x z = lgN g 22 → LogDn (lgS s g x z) (lgG s g x z) f L x ∧ used (lgS s g x z).fs = used s.fs + (lgFr g x).length ∧ (lgS s g x z).room = s.room := by
    intro t e1 e2 e3 e4 e5 e6 e7
    rw [e1, e7]
    exact ⟨⟨by rw [e2]; exact hok1, e5, ⟨by rw [e2, e4, hus]; exact hr, by rw [e4]; exact h.rm.room⟩, e3, h.gf, h.hf, by show (if (22 : Int) = 0 then g.n + 1 else g.n) = _; rw [if_neg (by decide)]; exact h.n, rfl, by rw [e2, hvb, if_pos rfl], by rw [e2, hvd]⟩, by rw [e2, hus], e4⟩
  have up : ∀ t : Ds, lgS s g x z = { t with fs := hard t.fs } → t.fs = s1.fs → t.off = false → t.room = s.room → Lft t → (s.armed = false → t.armed = false) → lgE s g x z = 0 → lgG s g x z = lgN g 0 →
      (lgE s g x z = 0 ∧ LogSt (lgS s g x z) (lgG s g x z) f (L ++ [x]) ∧ (s.armed = false → (lgS s g x z).armed = false) ∧ used (lgS s g x z).fs = used s.fs + (lgFr g x).length ∧ (lgS s g x z).room = s.room ∧ (∀ k, k ≠ f → vB (lgS s g x z).fs k = vB s.fs k)) := by
    intro t e1 e2 e3 e4 e5 e6 e7 e8
    rw [e1, e8]
    refine ⟨e7, ⟨?_, e5.fs _, ⟨?_, ?_⟩, e3, h.gf, h.hf, ?_, rfl, ?_, fun k => ?_⟩, e6, ?_, e4, fun k hk => ?_⟩
    · show OkF (hard t.fs); rw [e2]; exact hok1.hard
    · show used (hard t.fs) ≤ t.room; rw [used_hard, e2, hus, e4]; exact hr
    · show t.room ≤ _; rw [e4]; exact h.rm.room
    · show (if (0 : Int) = 0 then g.n + 1 else g.n) = _; rw [if_pos rfl, h.n, List.length_append]; rfl
    · show vB (hard t.fs) f = _; rw [vB_hard, e2, hvb, if_pos rfl]
    · show vD (hard t.fs) k = (vB (hard t.fs) k).length; rw [vD_hard, vB_hard]
    · show used (hard t.fs) = _; rw [used_hard, e2, hus]
    · show vB (hard t.fs) k = _; rw [vB_hard, e2, hvb, if_neg hk]
  rcases step_cases s1 hl1 with ⟨ha, e, eb⟩ | ⟨ha, hl, e, eb⟩ | ⟨ha, hl, e, eb⟩
  · -- nothing planned
    have hE0 : ¬ appE s g.f (lgFr g x) ≠ 0 := by rw [hE, if_pos eb]; simp
    obtain ⟨e1, e2, e3⟩ := lgE_sync (z := z) hx2 h2 hE0
    rw [hS, e] at e1 e2 e3
    have hs0 : syncE s1 = 0 := by unfold syncE; rw [if_neg (fun h => h.elim (by rw [ho1]; simp) (by rw [eb]; simp))]
    have hss : syncS s1 = { s1 with fs := hard s1.fs } := by unfold syncS; rw [if_neg (by rw [ho1]; simp), if_neg (by rw [eb]; simp), e]
    rw [hs0] at e1 e3
    rw [hss] at e2
    exact .inl (up s1 e2 rfl ho1 hrm1 hl1 (fun h => har1.trans h) e1 e3)
  · -- the first step is let through
    have hE0 : ¬ appE s g.f (lgFr g x) ≠ 0 := by rw [hE, if_pos (eb ho1)]; simp
    obtain ⟨e1, e2, e3⟩ := lgE_sync (z := z) hx2 h2 hE0
    rw [hS] at e1 e2 e3
    have hl2 := step_lft hl1
    have ho2 : (stepS s1).off = false := by rw [e]; exact ho1
    rcases step_cases (stepS s1) hl2 with ⟨ha2, f, fb⟩ | ⟨ha2, hlt2, f, fb⟩ | ⟨ha2, hlt2, f, fb⟩
    · exfalso; rw [e] at ha2; rw [show ({ s1 with left := s1.left - 1 } : Ds).armed = s1.armed from rfl, ha] at ha2; cases ha2
    · have hs0 : syncE (stepS s1) = 0 := by unfold syncE; rw [if_neg (fun h => h.elim (by rw [ho2]; simp) (by rw [fb ho2]; simp))]
      have hss : syncS (stepS s1) = { stepS (stepS s1) with fs := hard (stepS (stepS s1)).fs } := by unfold syncS; rw [if_neg (by rw [ho2]; simp), if_neg (by rw [fb ho2]; simp)]
      rw [hs0] at e1 e3
      rw [hss] at e2
      refine .inl (up (stepS (stepS s1)) e2 (by rw [stepS_fs, stepS_fs]) ?_ (by rw [stepS_room, stepS_room, hrm1]) (step_lft hl2) (fun h => ?_) e1 e3)
      · rw [f]; exact ho2
      · exfalso; rw [har1, h] at ha; cases ha
    · have hs0 : syncE (stepS s1) = 22 := by unfold syncE; rw [if_pos (Or.inr fb)]
      have hss : syncS (stepS s1) = stepS (stepS s1) := by unfold syncS; rw [if_neg (by rw [ho2]; simp), if_pos fb]
      rw [hs0] at e1 e3
      rw [hss] at e2
      exact .inr ⟨e1, har1 ▸ ha, down _ e2 (by rw [stepS_fs, stepS_fs]) (by rw [f]) (by rw [stepS_room, stepS_room, hrm1]) (step_lft hl2) e1 e3⟩
  · have hE1 : appE s g.f (lgFr g x) = 22 := by rw [hE, if_neg (by rw [eb]; simp)]
    obtain ⟨e1, e2, e3⟩ := lgE_app (z := z) hx2 h2 (show appE s g.f (lgFr g x) ≠ 0 by rw [hE1]; decide)
    rw [hE1] at e1 e3
    rw [hS] at e2
    exact .inr ⟨e1, har1 ▸ ha, down _ e2 (stepS_fs _) (by rw [e]) (by rw [stepS_room, hrm1]) (step_lft hl1) e1 e3⟩
theorem cutB_take (B : Nat → List UInt8) (D : Nat → Nat) (keep : List Int) (n : Nat) : ∃ m, D n ≤ m ∧ cutB B D keep n = (B n).take m := ⟨_, Nat.le_add_right _ _, rfl⟩
theorem cutB_hard {B : Nat → List UInt8} {D : Nat → Nat} (h : ∀ k, D k = (B k).length) (keep : List Int) (n : Nat) : cutB B D keep n = B n := by
  unfold cutB; rw [h n, List.take_of_length_le (by omega)]
theorem looseB_hard {B : Nat → List UInt8} {D : Nat → Nat} (h : ∀ k, D k = (B k).length) (keep : List Int) : looseB B D keep = [] := by
  unfold looseB
  rw [List.flatMap_eq_nil_iff]
  intro n _
  rw [cutB_hard h, h n, Nat.sub_self]; rfl
theorem crashB_hard {B : Nat → List UInt8} {D : Nat → Nat} (h : ∀ k, D k = (B k).length) (keep : List Int) (flip : Int) (n : Nat) : crashB B D keep flip n = B n := by
  unfold crashB
  rw [looseB_hard h]
  split
  · exact cutB_hard h keep n
  · exact cutB_hard h keep n
theorem turnB_take {b : List UInt8} {j r m : Nat} (h : m ≤ j) : (turnB b j r).take m = b.take m := by
  unfold turnB; rw [List.take_set_of_le h]
theorem looseB_mem {B : Nat → List UInt8} {D : Nat → Nat} {keep : List Int} {x : Nat × Nat} (h : x ∈ looseB B D keep) : x.1 ∈ filesB B ∧ D x.1 ≤ x.2 ∧ x.2 < (cutB B D keep x.1).length := by
  obtain ⟨n, hn, hx⟩ := List.mem_flatMap.1 h
  obtain ⟨j, hj, rfl⟩ := List.mem_map.1 hx
  have := List.mem_range'_1.1 hj
  exact ⟨hn, this.1, by have := this.2; show j < (cutB B D keep n).length; omega⟩
theorem crashB_firm {B : Nat → List UInt8} {D : Nat → Nat} (keep : List Int) (flip : Int) (n : Nat) (hd : D n ≤ (B n).length) : (crashB B D keep flip n).take (D n) = (B n).take (D n) ∧ D n ≤ (crashB B D keep flip n).length := by
  have h1 : (cutB B D keep n).take (D n) = (B n).take (D n) := by
    obtain ⟨m, hm, e⟩ := cutB_take B D keep n
    rw [e, List.take_take, Nat.min_eq_left hm]
  have h2 : D n ≤ (cutB B D keep n).length := by
    unfold cutB; rw [List.length_take]; omega
  refine ⟨?_, by rw [crashB_len]; exact h2⟩
  unfold crashB
  split
  · exact h1
  · split
    · rename_i m j hmj
      split
      · rename_i hnm
        have h3 := (looseB_mem (List.mem_of_getElem? hmj)).2.1
        rw [turnB_take (by rw [hnm]; exact h3), h1]
      · exact h1
    · exact h1
theorem CrashR.calm {s t : Ds} {keep : List Int} {flip : Int} (h : CrashR s keep flip t) : CalmD t := ⟨h.off, h.armed⟩
theorem fget_big {fs : Fs} (h : OkF fs) {k : Nat} (hk : 64 ≤ k) : fget fs k = fl0 := vB_empty fun p hp => by have := h.fits p hp; omega
theorem CrashR.hard {s t : Ds} {keep : List Int} {flip : Int} (h : CrashR s keep flip t) (k : Nat) : vD t.fs k = (vB t.fs k).length := by
  by_cases hk : k < 64
  · exact h.d k hk
  · unfold vD vB; rw [fget_big h.ok (by omega)]; rfl
end Go.GL

namespace Go.GL
set_option linter.unusedVariables false
theorem CrashR.lft {s t : Ds} {keep : List Int} {flip : Int} (h : CrashR s keep flip t) (hl : Lft s) : Lft t := ⟨by rw [h.left]; exact hl.lo, by rw [h.left]; exact hl.hi, fun e => by rw [h.armed] at e; cases e⟩
theorem CrashR.rm {s t : Ds} {keep : List Int} {flip : Int} (h : CrashR s keep flip t) (hok : OkF s.fs) (hr : Rm s) : Rm t := ⟨by rw [h.room]; exact Nat.le_trans (h.used hok) hr.used, by rw [h.room]; exact hr.room⟩
theorem crash_hard {s t : Ds} {keep : List Int} {flip : Int} (h : CrashR s keep flip t) (hok : OkF s.fs) (hh : ∀ k, vD s.fs k = (vB s.fs k).length) (k : Nat) : vB t.fs k = vB s.fs k := by
  by_cases hk : k < 64
  · rw [h.b k hk, crashB_hard hh]
  · unfold vB; rw [fget_big h.ok (by omega), fget_big hok (by omega)]
def armS (s : Ds) (n : Int) : Ds := if s.off = true then s else { s with armed := decide (0 ≤ n), left := n }
theorem armS_on {s : Ds} {n : Int} (h : s.off = false) : armS s n = { s with armed := decide (0 ≤ n), left := n } := by unfold armS; rw [if_neg (by rw [h]; simp)]
theorem LogSt.arm {s : Ds} {g : Lg} {f : Nat} {L : List (List UInt8)} {n : Int} (h : LogSt s g f L) (h0 : -1 ≤ n) (h1 : n ≤ 4611686018427387904) : LogSt (armS s n) g f L := by
  rw [armS_on h.off]
  exact ⟨h.ok, ⟨h0, h1, fun e => of_decide_eq_true e⟩, ⟨h.rm.used, h.rm.room⟩, h.off, h.gf, h.hf, h.n, h.dn, h.b, h.hard⟩
theorem LogSt.used {s : Ds} {g : Lg} {f : Nat} {L : List (List UInt8)} (h : LogSt s g f L) : used s.fs ≤ 16777216 := Nat.le_trans h.rm.used h.rm.room
theorem appends_len {s : Ds} {g : Lg} {x : List UInt8} (hn : g.n ≤ 4611686018427387904) (hx : x.length ≤ 65536) : (lgFr g x).length ≤ x.length + 40 := (frameJ_len (i := (g.n : Int)) (x := x) (by omega) (by omega) (by omega)).1
def AppR (s : Ds) (f : Nat) (L : List (List UInt8)) (x : List UInt8) (q : Int × Ds × Lg) : Prop :=
  (q.1 = 0 ∧ LogSt q.2.1 q.2.2 f (L ++ [x]) ∧ (s.armed = false → q.2.1.armed = false) ∧ used q.2.1.fs ≤ used s.fs + x.length + 40 ∧ q.2.1.room = s.room ∧ ∀ k, k ≠ f → vB q.2.1.fs k = vB s.fs k) ∨
  (q.1 = 22 ∧ s.armed = true ∧ LogDn q.2.1 q.2.2 f L x ∧ used q.2.1.fs ≤ used s.fs + x.length + 40 ∧ q.2.1.room = s.room)
theorem AppR.of {s : Ds} {g : Lg} {f : Nat} {L : List (List UInt8)} {x : List UInt8} {z : RdX} (h : LogSt s g f L) (hn : g.n ≤ 4611686018427387904) (hx : x.length ≤ 65536) (hz : ((fget s.fs g.f).b ++ lgFr g x).length ≤ z.c) (hr : Go.GL.used s.fs + x.length + 40 ≤ s.room) :
    AppR s f L x (lgE s g x z, lgS s g x z, lgG s g x z) := by
  have hl := appends_len (s := s) (x := x) hn hx
  rcases log_append (z := z) h hx hz (by omega) with ⟨e1, e2, e3, e4, e5, e6⟩ | ⟨e1, e2, e3, e4, e5⟩
  · exact .inl ⟨e1, e2, e3, by show Go.GL.used (lgS s g x z).fs ≤ _; omega, e5, e6⟩
  · exact .inr ⟨e1, e2, e3, by show Go.GL.used (lgS s g x z).fs ≤ _; omega, e5⟩
theorem LogSt.crash {s t : Ds} {g : Lg} {f : Nat} {L : List (List UInt8)} {keep : List Int} {flip : Int} (h : LogSt s g f L) (c : CrashR s keep flip t) : LogSt t g f L := ⟨c.ok, c.lft h.lft, c.rm h.ok h.rm, c.off, h.gf, h.hf, h.n, h.dn, by rw [crash_hard c h.ok h.hard]; exact h.b, c.hard⟩
theorem LogSt.calm {s : Ds} {g : Lg} {f : Nat} {L : List (List UInt8)} (h : LogSt s g f L) (ha : s.armed = false) : CalmD s := ⟨h.off, ha⟩
theorem fresh_lft {m k : Nat} : Lft ⟨m, [], k, false, false, 0⟩ := ⟨by show (-1 : Int) ≤ 0; decide, by show (0 : Int) ≤ _; decide, fun e => by cases e⟩
theorem fresh_rm {m k : Nat} (hk : k ≤ 16777216) : Rm ⟨m, [], k, false, false, 0⟩ := ⟨Nat.zero_le _, hk⟩
def DkB (T b : Nat) (s : Ds) : HP := Al [Box b T (dkC s), MpB s.m (fsV s.fs)]
theorem St.dkOpen {w : World} {F : List Fact} {T b : Nat} {s : Ds} (L : List HP) {M : List HP} (h : St w (L ++ (DkB T b s :: M)) F) : St w (L ++ (Box b T (dkC s) :: MpB s.m (fsV s.fs) :: M)) F := by
  have h1 : St w (DkB T b s :: (L ++ M)) F := h.perm List.perm_middle
  have h2 : St w ([Box b T (dkC s), MpB s.m (fsV s.fs)] ++ (L ++ M)) F := h1.alOpen
  exact h2.perm (perm_mid [Box b T (dkC s), MpB s.m (fsV s.fs)] L M)
theorem St.dkClose {w : World} {F : List Fact} {T b : Nat} {s : Ds} (L : List HP) {M : List HP} (h : St w (L ++ (Box b T (dkC s) :: MpB s.m (fsV s.fs) :: M)) F) : St w (L ++ (DkB T b s :: M)) F := by
  have h1 : St w ([Box b T (dkC s), MpB s.m (fsV s.fs)] ++ (L ++ M)) F := h.perm (perm_mid L [Box b T (dkC s), MpB s.m (fsV s.fs)] M)
  have h2 : St w (DkB T b s :: (L ++ M)) F := h1.alClose
  exact h2.perm List.perm_middle.symm
theorem Ctr.dk {P : Program} {f : FuncId} {args : List Value} {M : List HP} {F : List Fact} {ι : Type} {val : ι → Value} {F' : ι → List Fact} {T b : Nat} {s : Ds} (L : List HP) (L' : ι → List HP) (s' : ι → Ds)
    (h : Ctr P f args (L ++ (Box b T (dkC s) :: MpB s.m (fsV s.fs) :: M)) F ι val (fun i => L' i ++ (Box b T (dkC (s' i)) :: MpB (s' i).m (fsV (s' i).fs) :: M)) F') : Ctr P f args (L ++ (DkB T b s :: M)) F ι val (fun i => L' i ++ (DkB T b (s' i) :: M)) F' :=
  h.weak (fun w hw => hw.dkOpen L) id (fun _ => rfl) (fun i w hw => hw.dkClose (L' i))
end Go.GL

namespace Go.Proofs.YtdnjoffkanjjhaaGreatDoor
open Go.GL
set_option linter.unusedVariables false
theorem za_tf57_2 : fieldOff Tryz.prog 57 2 2 = true := by kernel_rfl
theorem za_tf57_3 : fieldOff Tryz.prog 57 3 3 = true := by kernel_rfl
theorem za_tf57_4 : fieldOff Tryz.prog 57 4 4 = true := by kernel_rfl
theorem za_ts3 : tyScalar Tryz.prog 3 = true := by kernel_rfl
theorem za_ts4 : tyScalar Tryz.prog 4 = true := by kernel_rfl
theorem arm_spec {n : Int} {b : Nat} {s : Ds} {M : List HP} {F : List Fact} : Ctr Tryz.prog 41 [.pointer (some ⟨b, 0, none⟩), I n] (Box b 57 (dkC s) :: MpB s.m (fsV s.fs) :: M) F Unit (fun _ => .tuple #[]) (fun _ => Box b 57 (dkC (armS s n)) :: MpB (armS s n).m (fsV (armS s n).fs) :: M) (fun _ => F) := by
  refine Ctr.body Tryz.func41 rfl rfl ?_
  refine TR.seq ?_
  refine TR.region ?_
  refine RL.move rfl rfl rfl ?_
  refine RL.nilCheck rfl rfl rfl ?_
  refine RL.fieldAddr rfl za_tf57_2 rfl rfl ?_
  refine RL.load1 0 rfl za_ts4 rfl rfl rfl rfl ?_
  refine RL.not rfl rfl rfl ?_
  refine RL.nil ?_
  refine NX.seq ?_
  refine TR.cond rfl (fun h1 => ?_) (fun h1 => ?_)
  · skip
    refine TR.region ?_
    refine RL.move rfl rfl rfl ?_
    refine RL.move rfl rfl rfl ?_
    refine RL.move rfl rfl rfl ?_
    refine RL.bin rfl rfl rfl BinV.geq rfl ?_
    refine RL.move rfl rfl rfl ?_
    refine RL.nilCheck rfl rfl rfl ?_
    refine RL.fieldAddr rfl za_tf57_3 rfl rfl ?_
    refine RL.store1 0 rfl za_ts4 rfl rfl rfl rfl rfl ?_
    refine RL.nilCheck rfl rfl rfl ?_
    refine RL.fieldAddr rfl za_tf57_4 rfl rfl ?_
    refine RL.store1 0 rfl za_ts3 rfl rfl rfl rfl rfl ?_
    refine RL.nil ?_
    have hoff : s.off = false := by simpa using h1
    refine NX.end0 () rfl rfl (fun w hw => ?_)
    rw [armS_on hoff]
    exact hw
  · skip
    refine TR.skip ?_
    have hoff : s.off = true := by simpa using h1
    refine NX.end0 () rfl rfl (fun w hw => ?_)
    rw [show armS s n = s from by unfold armS; rw [if_pos hoff]]
    exact hw
theorem arm_d {n : Int} {b : Nat} {s : Ds} {M : List HP} {F : List Fact} : Ctr Tryz.prog 41 [.pointer (some ⟨b, 0, none⟩), I n] (DkB 57 b (s) :: M) F Unit (fun _ => .tuple #[]) (fun _ => DkB 57 b (armS s n) :: M) (fun _ => F) := Ctr.dk [] (fun _ => []) (fun _ => armS s n) arm_spec
theorem crash_d {keep : List Int} {flip : Int} {ok : Option Addr} {ck : Nat} {b : Nat} {s : Ds} {M : List HP} {F : List Fact} (hok : OkF s.fs) (hA : AllF s.fs ∈ F) (hK : ArrF ok (ints keep) ∈ F) (hks : IntsOk keep) (hu : used s.fs ≤ 16777216) (hflip : I64 flip) : Ctr Tryz.prog 14 [.pointer (some ⟨b, 0, none⟩), .slice ok keep.length ck, I flip] (DkB 57 b (s) :: M) F {t : Ds // CrashR s keep flip t} (fun _ => .tuple #[]) (fun t => DkB 57 b t.1 :: M) (fun t => AllF t.1.fs :: F) := Ctr.dk (ι := {t : Ds // CrashR s keep flip t}) (M := M) [] (fun _ => []) (fun t => t.1) (crash_spec hok hA hK hks hu hflip)
theorem dapp_d {n : Int} {x : List UInt8} {ob : Option Addr} {cb : Nat} {b : Nat} {s : Ds} {M : List HP} {F : List Fact} (hok : OkF s.fs) (hl : Lft s) (hr : Rm s) (hA : AllF s.fs ∈ F) (hx : ArrF ob (bytesV x) ∈ F) (hn : I64 n) (hxl : x.length ≤ 4398046511104) :
    Ctr Tryz.prog 12 [.pointer (some ⟨b, 0, none⟩), I n, .slice ob x.length cb] (DkB 57 b (s) :: M) F {z : RdX // ((fget s.fs n).b ++ x).length ≤ z.c} (fun _ => I (appE s n x)) (fun z => DkB 57 b (appS s n x z.1) :: M) (fun z => AllF (appS s n x z.1).fs :: F) :=
  Ctr.dk (ι := {z : RdX // ((fget s.fs n).b ++ x).length ≤ z.c}) (M := M) [] (fun _ => []) (fun z => appS s n x z.1) (append_spec (b := b) (s := s) (cb := cb) hok hA hx hr.used hr.room hn ⟨by have := hl.lo; omega, by have := hl.hi; omega⟩ hxl)
end Go.Proofs.YtdnjoffkanjjhaaGreatDoor

namespace Go.GL
set_option linter.unusedVariables false
theorem calm_append {s : Ds} {n : Nat} {x : List UInt8} {z : RdX} (hc : CalmD s) (hok : OkF s.fs) (hl : Lft s) (hn : n < 64) (hz : ((fget s.fs n).b ++ x).length ≤ z.c) (hr : used s.fs + x.length ≤ s.room) (hrm : s.room ≤ 16777216) :
    appE s n x = 0 ∧ OkF (appS s n x z).fs ∧ CalmD (appS s n x z) ∧ Lft (appS s n x z) ∧ Rm (appS s n x z) ∧ (appS s n x z).room = s.room ∧ used (appS s n x z).fs = used s.fs + x.length ∧
    (∀ k, vB (appS s n x z).fs k = if k = n then vB s.fs n ++ x else vB s.fs k) ∧ (∀ k, vD (appS s n x z).fs k = vD s.fs k) := by
  have hth : there (n : Int) := ⟨by omega, by omega⟩
  have h1 : ¬ s.off = true := by rw [hc.off]; simp
  have h2 : ¬ (s.room : Int) - used s.fs < x.length := by omega
  have hE : appE s n x = 0 := by unfold appE; rw [if_neg (show ¬ ¬ there (n : Int) from fun e => e hth), if_neg h1, if_neg h2, if_pos hc.step.2]
  have hS : appS s n x z = { s with fs := setF s.fs n (appF s n x z) } := by
    unfold appS
    rw [if_neg (show ¬ ¬ there (n : Int) from fun e => e hth), if_neg h1, if_neg h2]
    exact (CalmD.step (s := { s with fs := setF s.fs n (appF s n x z) }) ⟨hc.off, hc.armed⟩).1
  have hok2 : OkF (setF s.fs n (appF s n x z)) := hok.setF hth ⟨hz, by have := (fget_each hok n).2; show (fget s.fs n).dur ≤ ((fget s.fs n).b ++ x).length; rw [List.length_append]; omega⟩
  have hB : ∀ k, vB (setF s.fs n (appF s n x z)) k = if k = n then vB s.fs n ++ x else vB s.fs k := fun k => by rw [vB_setF hok]; rfl
  have hus : used (setF s.fs n (appF s n x z)) = used s.fs + x.length := by
    by_cases hx : x.length = 0
    · have hx0 : x = [] := List.eq_nil_of_length_eq_zero hx
      have h3 : ∀ k, (vB (setF s.fs n (appF s n x z)) k).length = (vB s.fs k).length := fun k => by
        rw [hB]; split
        · rename_i e; rw [e, hx0, List.append_nil]
        · rfl
      have h4 := used_mono hok2 hok fun k _ => Nat.le_of_eq (h3 k)
      have h5 := used_mono hok hok2 fun k _ => Nat.le_of_eq (h3 k).symm
      omega
    · have := (files_app (s := s) (n := (n : Int)) (fr := x) (z := z) hok hth hz (by omega)).2.2
      rw [used_hard] at this; exact this
  rw [hS]
  refine ⟨hE, hok2, ⟨hc.off, hc.armed⟩, hl.fs _, ⟨by show used _ ≤ s.room; rw [hus]; exact hr, hrm⟩, rfl, hus, hB, fun k => ?_⟩
  show vD (setF s.fs n _) k = _
  rw [vD_setF hok]
  by_cases e : k = n
  · rw [if_pos e, e]
    split
    · rename_i e2
      have e3 : vB s.fs n ++ x = [] := e2
      have e4 : (vB s.fs n) = [] := (List.append_eq_nil_iff.1 e3).1
      have := (fget_each hok n).2
      show 0 = (fget s.fs n).dur
      have e5 : (fget s.fs n).b.length = 0 := by rw [show (fget s.fs n).b = vB s.fs n from rfl, e4]; rfl
      omega
    · rfl
  · rw [if_neg e]
end Go.GL

namespace Go.GL
set_option linter.unusedVariables false
def cr1 (b : List UInt8) (d : Nat) (keep : List Int) (flip : Int) : List UInt8 :=
  let c := b.take (d + keepK keep 0 (b.length - d))
  if flip < 0 ∨ c.length - d = 0 then c else turnB c (d + flip.toNat % (8 * (c.length - d)) / 8) (flip.toNat % (8 * (c.length - d)) % 8)
theorem files_one {B : Nat → List UInt8} {f : Nat} (hf : f < 64) (h1 : B f ≠ []) (h2 : ∀ n, n < 64 → n ≠ f → B n = []) : filesB B = [f] := by
  have h3 : (filesB B).Perm [f] := by
    refine (List.perm_ext_iff_of_nodup (filesB_nodup B) (by simp)).2 fun a => ?_
    rw [filesB_mem, List.mem_singleton]
    constructor
    · rintro ⟨h4, h5⟩
      by_cases e : a = f
      · exact e
      · exact absurd (h2 a h4 e) h5
    · rintro rfl; exact ⟨hf, h1⟩
  exact List.perm_singleton.1 h3
theorem crash_one {B : Nat → List UInt8} {D : Nat → Nat} {keep : List Int} {flip : Int} {f : Nat} (hf : f < 64) (h2 : ∀ n, n < 64 → n ≠ f → B n = []) (hd : D f ≤ (B f).length) : crashB B D keep flip f = cr1 (B f) (D f) keep flip := by
  by_cases h1 : B f = []
  · have h0 : cutB B D keep f = [] := by unfold cutB; rw [h1, List.take_nil]
    have hD : D f = 0 := by rw [h1] at hd; exact Nat.le_zero.1 hd
    have hfl : filesB B = [] := by
      unfold filesB
      rw [List.filter_eq_nil_iff]
      intro a ha
      have h3 := List.mem_range.1 ha
      by_cases e : a = f
      · rw [e, h1]; simp
      · rw [h2 a h3 e]; simp
    unfold crashB cr1
    rw [h0, h1]
    have hl : looseB B D keep = [] := by unfold looseB; rw [hfl]; rfl
    rw [hl]
    simp
  · have hfl := files_one hf h1 h2
    have hcut : cutB B D keep f = (B f).take (D f + keepK keep 0 ((B f).length - D f)) := by
      unfold cutB; rw [hfl]; simp
    unfold crashB cr1
    simp only
    rw [← hcut]
    have hl : looseB B D keep = (List.range' (D f) ((cutB B D keep f).length - D f)).map fun j => (f, j) := by
      unfold looseB; rw [hfl]; simp
    rw [hl]
    by_cases hneg : flip < 0
    · rw [if_pos hneg, if_pos (Or.inl hneg)]
    · rw [if_neg hneg]
      by_cases hz : (cutB B D keep f).length - D f = 0
      · rw [if_pos (Or.inr hz), hz]; rfl
      · rw [if_neg (fun e => e.elim hneg hz), List.length_map, List.length_range']
        have hq : flip.toNat % (8 * ((cutB B D keep f).length - D f)) / 8 < (cutB B D keep f).length - D f := by
          have := Nat.mod_lt flip.toNat (show 0 < 8 * ((cutB B D keep f).length - D f) by omega); omega
        have he : ((List.range' (D f) ((cutB B D keep f).length - D f)).map fun j => (f, j))[flip.toNat % (8 * ((cutB B D keep f).length - D f)) / 8]? = some (f, D f + flip.toNat % (8 * ((cutB B D keep f).length - D f)) / 8) := by
          rw [List.getElem?_map, List.getElem?_range' hq]
          simp
        rw [he]
        simp
theorem crash_none {B : Nat → List UInt8} {D : Nat → Nat} {keep : List Int} {flip : Int} {n : Nat} (h : B n = []) : crashB B D keep flip n = [] := by
  have h1 := crashB_len B D keep flip n
  have h2 := cutB_len B D keep n
  rw [h] at h2
  exact List.eq_nil_of_length_eq_zero (by rw [h1]; exact Nat.le_zero.1 h2)
structure One (s : Ds) (f : Nat) (b : List UInt8) (d : Nat) : Prop where
  ok : OkF s.fs
  lft : Lft s
  rm : Rm s
  hf : f < 64
  b : vB s.fs f = b
  d : vD s.fs f = d
  rest : ∀ n, n ≠ f → vB s.fs n = []
theorem One.used {s : Ds} {f : Nat} {b : List UInt8} {d : Nat} (h : One s f b d) : Go.GL.used s.fs = b.length := by
  rw [used_view h.ok]
  have e : ∀ (l : List Nat), l.Nodup → (l.map fun n => (vB s.fs n).length).sum = if f ∈ l then b.length else 0 := by
    intro l
    induction l with
    | nil => intro _; rfl
    | cons a l ih =>
      intro hn
      rw [List.nodup_cons] at hn
      rw [List.map_cons, List.sum_cons, ih hn.2]
      by_cases e : a = f
      · subst e
        rw [h.b, if_neg hn.1, if_pos (.head _)]; rfl
      · rw [h.rest a e]
        by_cases e2 : f ∈ l
        · rw [if_pos e2, if_pos (.tail _ e2)]; simp
        · rw [if_neg e2, if_neg (fun e3 => (List.mem_cons.1 e3).elim (fun e4 => e e4.symm) e2)]; rfl
  rw [e _ List.nodup_range, if_pos (List.mem_range.2 h.hf)]
theorem One.le {s : Ds} {f : Nat} {b : List UInt8} {d : Nat} (h : One s f b d) : d ≤ b.length := by
  have := (fget_each h.ok f).2
  rw [← h.b, ← h.d]; exact this
theorem One.crash {s t : Ds} {f : Nat} {b : List UInt8} {d : Nat} {keep : List Int} {flip : Int} (h : One s f b d) (c : CrashR s keep flip t) : One t f (cr1 b d keep flip) (cr1 b d keep flip).length ∧ CalmD t := by
  have hb : vB t.fs f = cr1 b d keep flip := by
    rw [c.b f h.hf, crash_one h.hf (fun n _ hn => h.rest n hn) (fget_each h.ok f).2, h.b, h.d]
  refine ⟨⟨c.ok, c.lft h.lft, c.rm h.ok h.rm, h.hf, hb, by rw [c.hard, hb], fun n hn => ?_⟩, c.calm⟩
  by_cases h64 : n < 64
  · rw [c.b n h64, crash_none (h.rest n hn)]
  · unfold vB; rw [fget_big c.ok (by omega)]; rfl
theorem One.new {m k f : Nat} (hk : k ≤ 16777216) (hf : f < 64) : One ⟨m, [], k, false, false, 0⟩ f [] 0 := ⟨OkF.nil, fresh_lft, fresh_rm hk, hf, rfl, rfl, fun _ _ => rfl⟩
theorem One.append {s : Ds} {f : Nat} {b x : List UInt8} {d : Nat} {z : RdX} (h : One s f b d) (hc : CalmD s) (hz : ((fget s.fs f).b ++ x).length ≤ z.c) (hr : b.length + x.length ≤ s.room) :
    appE s f x = 0 ∧ One (appS s f x z) f (b ++ x) d ∧ CalmD (appS s f x z) ∧ (appS s f x z).room = s.room := by
  obtain ⟨h1, h2, h3, h4, h5, h6, h7, h8, h9⟩ := calm_append hc h.ok h.lft h.hf hz (by rw [h.used]; exact hr) h.rm.room
  refine ⟨h1, ⟨h2, h4, h5, h.hf, by rw [h8, if_pos rfl, h.b], by rw [h9, h.d], fun n hn => by rw [h8, if_neg hn, h.rest n hn]⟩, h3, h6⟩
theorem One.sync {s : Ds} {f : Nat} {b : List UInt8} {d : Nat} (h : One s f b d) (hc : CalmD s) : syncE s = 0 ∧ One (syncS s) f b b.length ∧ CalmD (syncS s) ∧ (syncS s).room = s.room := by
  obtain ⟨h1, h2⟩ := hc.sync
  rw [h2]
  exact ⟨h1, ⟨h.ok.hard, h.lft.fs _, ⟨by show Go.GL.used (hard s.fs) ≤ s.room; rw [used_hard]; exact h.rm.used, h.rm.room⟩, h.hf, by show vB (hard s.fs) f = b; rw [vB_hard, h.b], by show vD (hard s.fs) f = b.length; rw [vD_hard, h.b], fun n hn => by show vB (hard s.fs) n = []; rw [vB_hard, h.rest n hn]⟩, ⟨hc.off, hc.armed⟩, rfl⟩
theorem One.read {s : Ds} {f : Nat} {b : List UInt8} {d : Nat} (h : One s f b d) (hc : CalmD s) : readE s f = 0 ∧ readB s f = b := by
  obtain ⟨h1, h2⟩ := hc.read (n := (f : Int)) ⟨by omega, by have := h.hf; omega⟩
  exact ⟨h1, h2.trans h.b⟩
theorem One.copy {s : Ds} {f : Nat} {b : List UInt8} {d m : Nat} (h : One s f b d) : One { s with m := m } f b d := ⟨h.ok, ⟨h.lft.lo, h.lft.hi, h.lft.armed⟩, ⟨h.rm.used, h.rm.room⟩, h.hf, h.b, h.d, h.rest⟩
end Go.GL

namespace Go.GL
set_option linter.unusedVariables false
theorem used_append {s : Ds} {n : Int} {x : List UInt8} {z : RdX} (hok : OkF s.fs) (hth : there n) (hz : ((fget s.fs n).b ++ x).length ≤ z.c) : used (setF s.fs n (appF s n x z)) = used s.fs + x.length := by
  obtain ⟨k, hk⟩ : ∃ k : Nat, n = k := ⟨n.toNat, by have := hth.1; omega⟩
  subst hk
  have hok2 : OkF (setF s.fs k (appF s k x z)) := hok.setF hth ⟨hz, by have := (fget_each hok k).2; show (fget s.fs k).dur ≤ ((fget s.fs k).b ++ x).length; rw [List.length_append]; omega⟩
  have hB : ∀ j, vB (setF s.fs k (appF s k x z)) j = if j = k then vB s.fs k ++ x else vB s.fs j := fun j => by rw [vB_setF hok]; rfl
  by_cases hx : x.length = 0
  · have hx0 : x = [] := List.eq_nil_of_length_eq_zero hx
    have h3 : ∀ j, (vB (setF s.fs k (appF s k x z)) j).length = (vB s.fs j).length := fun j => by
      rw [hB]; split
      · rename_i e; rw [e, hx0, List.append_nil]
      · rfl
    have h4 := used_mono hok2 hok fun j _ => Nat.le_of_eq (h3 j)
    have h5 := used_mono hok hok2 fun j _ => Nat.le_of_eq (h3 j).symm
    omega
  · have := (files_app (s := s) (n := (k : Int)) (fr := x) (z := z) hok hth hz (by omega)).2.2
    rw [used_hard] at this; exact this
theorem appS_rm {s : Ds} {n : Int} {x : List UInt8} {z : RdX} (hok : OkF s.fs) (hr : Rm s) (hz : ((fget s.fs n).b ++ x).length ≤ z.c) : Rm (appS s n x z) := by
  unfold appS
  split
  · exact hr
  · rename_i h1
    split
    · exact hr
    · split
      · exact hr
      · rename_i h3
        have hth : there n := Decidable.not_not.1 h1
        refine ⟨?_, by rw [stepS_room]; exact hr.room⟩
        rw [stepS_fs, stepS_room]
        show used (setF s.fs n (appF s n x z)) ≤ s.room
        rw [used_append hok hth hz]
        have := hr.used
        omega
theorem Lft.arm {s : Ds} {n : Int} (h : Lft s) (h0 : -1 ≤ n) (h1 : n ≤ 4611686018427387904) : Lft (armS s n) := by
  unfold armS
  split
  · exact h
  · exact ⟨h0, h1, fun e => of_decide_eq_true e⟩
theorem Rm.arm {s : Ds} {n : Int} (h : Rm s) : Rm (armS s n) := by
  unfold armS
  split
  · exact h
  · exact ⟨h.used, h.room⟩
theorem armS_fs (s : Ds) (n : Int) : (armS s n).fs = s.fs := by unfold armS; split <;> rfl
theorem append_fails {s : Ds} {n : Int} {x : List UInt8} {z : RdX} (hl : Lft s) (ho : s.off = false) (ha : s.armed = true) (h0 : s.left = 0) (hn : there n) (hr : used s.fs + x.length ≤ s.room) : appE s n x = 22 ∧ (appS s n x z).off = true := by
  have h1 : ¬ s.off = true := by rw [ho]; simp
  have h2 : ¬ (s.room : Int) - used s.fs < x.length := by omega
  obtain ⟨s1, hs1⟩ : ∃ s1 : Ds, s1 = { s with fs := setF s.fs n (appF s n x z) } := ⟨_, rfl⟩
  have hb : stepB s = false ∧ (stepS s1).off = true := by
    rcases step_cases s hl with ⟨e, _⟩ | ⟨_, e, _⟩ | ⟨_, _, _, e⟩
    · rw [ha] at e; cases e
    · omega
    · refine ⟨e, ?_⟩
      rcases step_cases s1 (hs1 ▸ hl.fs _) with ⟨f, _⟩ | ⟨_, f, _⟩ | ⟨_, _, f, _⟩
      · rw [hs1] at f; rw [show ({ s with fs := setF s.fs n (appF s n x z) } : Ds).armed = s.armed from rfl, ha] at f; cases f
      · rw [hs1] at f; rw [show ({ s with fs := setF s.fs n (appF s n x z) } : Ds).left = s.left from rfl] at f; omega
      · rw [f]
  constructor
  · unfold appE; rw [if_neg (show ¬ ¬ there n from fun e => e hn), if_neg h1, if_neg h2, if_neg (by rw [hb.1]; simp)]
  · unfold appS; rw [if_neg (show ¬ ¬ there n from fun e => e hn), if_neg h1, if_neg h2, ← hs1]; exact hb.2
theorem read_off {s : Ds} {n : Int} (hn : there n) (h : s.off = true) : readE s n = 22 ∧ readB s n = [] := by
  constructor
  · unfold readE; rw [if_neg (show ¬ ¬ there n from fun e => e hn), if_pos h]
  · unfold readB; rw [if_neg (show ¬ ¬ there n from fun e => e hn), if_pos h]
end Go.GL

namespace Go.GL
open Go.Shelf Go.Proofs
theorem cloneG {P : Program} {ρ : Ren} (L : SlLaysW.n5 P ρ) {b : Nat} {kvs : KV} {M : List HP} {F : List Fact} :
    Ctr P (ρ.f 5) [.map (some b)] (MpB b kvs :: M) F Nat (fun m => .map (some m)) (fun m => MpB m kvs :: MpB b kvs :: M) (fun _ => F) := fun w hw => by
  obtain ⟨z, h1⟩ := hw.exOpen
  have hb : w.heap[b]? = some (.map z.1.1 z.1.2) := h1.heap (i := 0) rfl
  have hc := AnyW.maps_Clone L b z.1.1 z.1.2 w hb
  refine CallsIn.mono ((callsIn_wide (n := 0)).2 hc) ?_
  rintro e w' ⟨rfl, rfl⟩
  refine ⟨w.heap.size, rfl, ?_⟩
  have h2 : St (w.alloc (.map z.1.1 z.1.2)) (Pts w.heap.size (.map z.1.1 z.1.2) :: Pts b (.map z.1.1 z.1.2) :: M) F := h1.alloc _
  have h3 : St (w.alloc (.map z.1.1 z.1.2)) (MpB w.heap.size kvs :: Pts b (.map z.1.1 z.1.2) :: M) F := St.exClose z h2
  have h4 : St (w.alloc (.map z.1.1 z.1.2)) (Pts b (.map z.1.1 z.1.2) :: MpB w.heap.size kvs :: M) F := h3.swap
  have h5 : St (w.alloc (.map z.1.1 z.1.2)) (MpB b kvs :: MpB w.heap.size kvs :: M) F := St.exClose z h4
  exact h5.swap
end Go.GL

namespace Go.Proofs
open Go.Shelf
def Tryz.laysC_ren : Go.Shelf.Ren := ⟨fun | 5 => 57 | 7 => 65 | n => n, fun | 23 => 55 | 25 => 3 | 3 => 69 | 20 => 20 | 4 => 4 | n => n, fun | n => n⟩
theorem Tryz.laysC : Go.Proofs.SlLaysW.n5 Tryz.prog Tryz.laysC_ren := {
  mixed := by kernel_rfl
  f5 := ⟨Tryz.f57.name, by decide, Tryz.func57.trans (congrArg some (by kernel_rfl))⟩
  f7 := Tryz.func65.trans (congrArg some (by kernel_rfl))
  t4 := Tryz.underlying4
  a4 := Tryz.isAgg4
  z4 := Tryz.sizeOf4
  v4 := Tryz.zeroValue4
  t20 := Tryz.underlying20
  a20 := Tryz.isAgg20
  z20 := Tryz.sizeOf20
  v20 := Tryz.zeroValue20
  t23 := Tryz.underlying55
  a23 := Tryz.isAgg55
  z23 := Tryz.sizeOf55
  v23 := Tryz.zeroValue55 }
end Go.Proofs

namespace Go.Proofs.YtdnjoffkanjjhaaGreatDoor
open Go.GL
set_option linter.unusedVariables false
theorem da_ta57 : tyAgg Tryz.prog 57 5 = true := by kernel_rfl
theorem da_tf57_0 : fieldOff Tryz.prog 57 0 0 = true := by kernel_rfl
theorem da_ts55 : tyScalar Tryz.prog 55 = true := by kernel_rfl
theorem da_tz57 : tySize Tryz.prog 57 5 = true := by kernel_rfl
theorem sync_d {b : Nat} {s : Ds} {M : List HP} {F : List Fact} (hok : OkF s.fs) (hl : Lft s) (hA : AllF s.fs ∈ F) : Ctr Tryz.prog 13 [.pointer (some ⟨b, 0, none⟩)] (DkB 57 b (s) :: M) F Unit (fun _ => I (syncE s)) (fun _ => DkB 57 b (syncS s) :: M) (fun _ => AllF (syncS s).fs :: F) :=
  (Ctr.dk (ι := Unit) (M := M) (F' := fun _ => F) [] (fun _ => []) (fun _ => syncS s) (sync_spec (b := b) (s := s) hok ⟨by have := hl.lo; omega, by have := hl.hi; omega⟩)).weak (fun w hw => hw) id (fun _ => rfl) (fun _ w hw => hw.allF_sync hA)
theorem read_d {n : Int} {b : Nat} {s : Ds} {M : List HP} {F : List Fact} (hok : OkF s.fs) (hr : Rm s) (hA : AllF s.fs ∈ F) (hn : I64 n) : Ctr Tryz.prog 17 [.pointer (some ⟨b, 0, none⟩), I n] (DkB 57 b (s) :: M) F (Option Addr × Nat) (fun z => .tuple #[.slice z.1 (readB s n).length z.2, I (readE s n)]) (fun z => OwnSl 5 1 z.1 (readB s n).length z.2 (bytesV (readB s n)) :: DkB 57 b (s) :: M) (fun _ => F) :=
  Ctr.dk (ι := Option Addr × Nat) (M := M) [] (fun z => [OwnSl 5 1 z.1 (readB s n).length z.2 (bytesV (readB s n))]) (fun _ => s) (read_dspec (b := b) (s := s) hok hA (by have := hr.used; have := hr.room; omega) hn)
theorem new_d {k : Nat} {M : List HP} {F : List Fact} (hk : k ≤ 16777216) : Ctr Tryz.prog 4 [I k] M F (Nat × Nat) (fun z => .tuple #[.pointer (some ⟨z.1, 0, none⟩), I 0]) (fun z => DkB 57 z.1 ⟨z.2, [], k, false, false, 0⟩ :: M) (fun _ => AllF [] :: F) :=
  (new_ok hk).weak (fun w hw => hw) id (fun _ => rfl) (fun z w hw => ((show St w ([] ++ (Box z.1 57 (dkC ⟨z.2, [], k, false, false, 0⟩) :: MpB z.2 (fsV []) :: M)) F from hw).dkClose []).derive (ψ := AllF []) (fun K hf p hp => absurd hp (by simp)))
theorem one_append {x : List UInt8} {ob : Option Addr} {cb : Nat} {f d : Nat} {y : List UInt8} {b : Nat} {s : Ds} {M : List HP} {F : List Fact} (h : One s f y d) (hc : CalmD s) (hA : AllF s.fs ∈ F) (hx : ArrF ob (bytesV x) ∈ F) (hxl : x.length ≤ 4398046511104) (hr : y.length + x.length ≤ s.room) :
    Ctr Tryz.prog 12 [.pointer (some ⟨b, 0, none⟩), I (f : Int), .slice ob x.length cb] (DkB 57 b (s) :: M) F {q : Ds // One q f (y ++ x) d ∧ CalmD q ∧ q.room = s.room} (fun _ => I 0) (fun q => DkB 57 b q.1 :: M) (fun q => AllF q.1.fs :: F) :=
  (dapp_d (n := (f : Int)) h.ok h.lft h.rm hA hx ⟨by omega, by have := h.hf; omega⟩ hxl).weak (fun w hw => hw) (fun z => ⟨appS s f x z.1, (h.append hc z.2 hr).2⟩) (fun z => by show I (appE s f x) = _; rw [(h.append hc z.2 hr).1]) (fun z w hw => hw)
theorem one_sync {f d : Nat} {y : List UInt8} {b : Nat} {s : Ds} {M : List HP} {F : List Fact} (h : One s f y d) (hc : CalmD s) (hA : AllF s.fs ∈ F) : Ctr Tryz.prog 13 [.pointer (some ⟨b, 0, none⟩)] (DkB 57 b (s) :: M) F {q : Ds // One q f y y.length ∧ CalmD q ∧ q.room = s.room} (fun _ => I 0) (fun q => DkB 57 b q.1 :: M) (fun q => AllF q.1.fs :: F) :=
  (sync_d h.ok h.lft hA).weak (fun w hw => hw) (fun _ => ⟨syncS s, (h.sync hc).2⟩) (fun _ => by show I (syncE s) = _; rw [(h.sync hc).1]) (fun _ w hw => hw)
theorem one_crash {keep : List Int} {flip : Int} {ok : Option Addr} {ck : Nat} {f d : Nat} {y : List UInt8} {b : Nat} {s : Ds} {M : List HP} {F : List Fact} (h : One s f y d) (hA : AllF s.fs ∈ F) (hK : ArrF ok (ints keep) ∈ F) (hks : IntsOk keep) (hflip : I64 flip) : Ctr Tryz.prog 14 [.pointer (some ⟨b, 0, none⟩), .slice ok keep.length ck, I flip] (DkB 57 b (s) :: M) F {q : Ds // One q f (cr1 y d keep flip) (cr1 y d keep flip).length ∧ CalmD q ∧ q.room = s.room} (fun _ => .tuple #[]) (fun q => DkB 57 b q.1 :: M) (fun q => AllF q.1.fs :: F) :=
  (crash_d h.ok hA hK hks (Nat.le_trans h.rm.used h.rm.room) hflip).weak (fun w hw => hw) (fun t => ⟨t.1, (h.crash t.2).1, (h.crash t.2).2, t.2.room⟩) (fun _ => rfl) (fun _ w hw => hw)
theorem one_read {f d : Nat} {y : List UInt8} {b : Nat} {s : Ds} {M : List HP} {F : List Fact} (h : One s f y d) (hc : CalmD s) (hA : AllF s.fs ∈ F) : Ctr Tryz.prog 17 [.pointer (some ⟨b, 0, none⟩), I (f : Int)] (DkB 57 b (s) :: M) F (Option Addr × Nat) (fun z => .tuple #[.slice z.1 y.length z.2, I 0]) (fun z => OwnSl 5 1 z.1 y.length z.2 (bytesV y) :: DkB 57 b (s) :: M) (fun _ => F) := by
  have h1 := read_d (b := b) (M := M) (n := (f : Int)) h.ok h.rm hA ⟨by omega, by have := h.hf; omega⟩
  rw [(h.read hc).1, (h.read hc).2] at h1
  exact h1
theorem copy_spec {b : Nat} {s : Ds} {M : List HP} {F : List Fact} : Ctr Tryz.prog 40 [.pointer (some ⟨b, 0, none⟩)] (Box b 57 (dkC s) :: MpB s.m (fsV s.fs) :: M) F (Nat × Nat) (fun z => .pointer (some ⟨z.1, 0, none⟩)) (fun z => Box z.1 57 (dkC { s with m := z.2 }) :: MpB z.2 (fsV s.fs) :: Box b 57 (dkC s) :: MpB s.m (fsV s.fs) :: M) (fun _ => F) := by
  refine Ctr.body Tryz.func40 rfl rfl ?_
  refine TR.seq ?_
  refine TR.region ?_
  refine RL.assign rfl rfl rfl ?_
  refine RL.nil ?_
  refine NX.seq ?_
  refine TR.seq ?_
  refine TR.region ?_
  refine RL.move rfl rfl rfl ?_
  refine RL.nilCheck rfl rfl rfl ?_
  refine RL.loadA 0 rfl rfl rfl da_ta57 rfl ?_
  refine RL.allocA rfl (Tryz.zeroValue57) rfl (fun b1 => ?_)
  refine RL.storeA 0 rfl rfl rfl rfl da_tz57 rfl rfl ?_
  refine RL.nil ?_
  refine NX.seq ?_
  refine TR.seq ?_
  refine TR.region ?_
  refine RL.move rfl rfl rfl ?_
  refine RL.nilCheck rfl rfl rfl ?_
  refine RL.fieldAddr rfl da_tf57_0 rfl rfl ?_
  refine RL.load1 1 rfl da_ts55 rfl rfl rfl rfl ?_
  refine RL.call rfl rfl Tryz.call57 rfl (Ctr.pick 3 [2, 0, 1] rfl (cloneG Tryz.laysC)) (fun m2 => ?_)
  refine RL.fieldAddr rfl da_tf57_0 rfl rfl ?_
  refine RL.store1 2 rfl da_ts55 rfl rfl rfl rfl rfl ?_
  refine RL.nil ?_
  refine NX.seq ?_
  refine TR.seq ?_
  refine TR.region ?_
  refine RL.assign rfl rfl rfl ?_
  refine RL.nil ?_
  refine NX.seq ?_
  refine TR.ret ?_
  refine NX.ret1 (b1, m2) rfl rfl rfl (fun w hw => (hw.to 4 [2, 0, 3, 1] 0 [] rfl))
theorem copy_d {b : Nat} {s : Ds} {M : List HP} {F : List Fact} : Ctr Tryz.prog 40 [.pointer (some ⟨b, 0, none⟩)] (DkB 57 b (s) :: M) F (Nat × Nat) (fun z => .pointer (some ⟨z.1, 0, none⟩)) (fun z => DkB 57 z.1 { s with m := z.2 } :: DkB 57 b (s) :: M) (fun _ => F) :=
  (Ctr.dk (ι := Nat × Nat) (M := M) [] (fun z => [Box z.1 57 (dkC { s with m := z.2 }), MpB z.2 (fsV s.fs)]) (fun _ => s) (copy_spec (b := b) (s := s))).weak (fun w hw => hw) id (fun _ => rfl) (fun z w hw => (show St w ([] ++ (Box z.1 57 (dkC { s with m := z.2 }) :: MpB ({ s with m := z.2 } : Ds).m (fsV ({ s with m := z.2 } : Ds).fs) :: (DkB 57 b (s) :: M))) F from hw).dkClose [])
end Go.Proofs.YtdnjoffkanjjhaaGreatDoor

namespace Go.Proofs.YtdnjoffkanjjhaaGreatDoor
open Go.GL
set_option linter.unusedVariables false
theorem db_bs22_1_0 (x0 : Int) : BuildSV Tryz.prog 22 3 1 [(0, .int .i64 x0)] [.int .i64 x0] := fun w => by kernel_rfl
theorem db_bs32_1_0 (x0 : Int) : BuildSV Tryz.prog 32 5 1 [(0, .int .u8 x0)] [.int .u8 x0] := fun w => by kernel_rfl
theorem db_bs32_2_0_1 (x0 : Int) (x1 : Int) : BuildSV Tryz.prog 32 5 2 [(0, .int .u8 x0), (1, .int .u8 x1)] [.int .u8 x0, .int .u8 x1] := fun w => by kernel_rfl
theorem db_bs32_3_0_1_2 (x0 : Int) (x1 : Int) (x2 : Int) : BuildSV Tryz.prog 32 5 3 [(0, .int .u8 x0), (1, .int .u8 x1), (2, .int .u8 x2)] [.int .u8 x0, .int .u8 x1, .int .u8 x2] := fun w => by kernel_rfl
theorem db_tp23 : tyPtr Tryz.prog 23 57 = true := by kernel_rfl
set_option maxHeartbeats 1000000 in
theorem lives_spec {M : List HP} {F : List Fact} : Ctr Tryz.prog 22 [] M F Unit (fun _ => .bool true) (fun _ => M) (fun _ => F) := by
  refine Ctr.body Tryz.func22 rfl rfl ?_
  refine TR.seq ?_
  refine TR.region ?_
  refine RL.assign rfl rfl rfl ?_
  refine RL.nil ?_
  refine NX.seq ?_
  refine TR.seq ?_
  refine TR.region ?_
  refine RL.call rfl rfl Tryz.call4 rfl (new_d (k := 100) (by decide)) (fun z0 => ?_)
  refine RL.move rfl rfl rfl ?_
  refine RL.extract rfl rfl rfl rfl ?_
  refine RL.extract rfl rfl rfl rfl ?_
  refine RL.assign rfl rfl rfl ?_
  refine RL.assign rfl rfl rfl ?_
  refine RL.nil ?_
  refine NX.seq ?_
  refine TR.seq ?_
  refine TR.seq ?_
  refine TR.region ?_
  refine RL.move rfl rfl rfl ?_
  refine RL.bin rfl rfl rfl (BinV.eqlPtrNil db_tp23) rfl ?_
  refine RL.move rfl rfl rfl ?_
  refine RL.move rfl rfl rfl ?_
  refine RL.bin rfl rfl rfl (BinV.to (d := false) BinV.neq (decide_eq_false (by simp))) rfl ?_
  refine RL.pickF rfl rfl rfl rfl ?_
  refine RL.nil ?_
  refine NX.seq ?_
  refine TR.condF rfl ?_
  refine TR.skip ?_
  refine NX.seq ?_
  refine TR.seq ?_
  refine TR.region ?_
  refine RL.move rfl rfl rfl ?_
  refine RL.buildSlice rfl rfl (db_bs32_2_0_1 _ _) rfl (fun b1 => ?_)
  refine RL.weak (fun w hw => St.boxBytes [1, 2] rfl hw) ?_
  refine RL.call rfl rfl Tryz.call12 rfl (one_append (f := 3) (x := [1, 2]) (One.new (m := z0.2) (k := 100) (by decide) (by decide)) ⟨rfl, rfl⟩ (.tail _ (.head _)) (.head _) (by decide) (by show 0 + 2 ≤ 100; decide)) (fun q1 => ?_)
  refine RL.nil ?_
  refine NX.seq ?_
  refine TR.seq ?_
  refine TR.region ?_
  refine RL.move rfl rfl rfl ?_
  refine RL.call rfl rfl Tryz.call13 rfl (one_sync q1.2.1 q1.2.2.1 (.head _)) (fun q2 => ?_)
  refine RL.nil ?_
  refine NX.seq ?_
  refine TR.seq ?_
  refine TR.region ?_
  refine RL.move rfl rfl rfl ?_
  refine RL.buildSlice rfl rfl (db_bs32_1_0 _) rfl (fun b2 => ?_)
  refine RL.weak (fun w hw => St.boxBytes [255] rfl hw) ?_
  refine RL.call rfl rfl Tryz.call12 rfl (one_append (f := 3) (x := [255]) q2.2.1 q2.2.2.1 (.tail _ (.head _)) (.head _) (by decide) (by rw [q2.2.2.2, q1.2.2.2]; show 2 + 1 ≤ 100; decide)) (fun q3 => ?_)
  refine RL.nil ?_
  refine NX.seq ?_
  refine TR.seq ?_
  refine TR.region ?_
  refine RL.move rfl rfl rfl ?_
  refine RL.call rfl rfl Tryz.call40 rfl (copy_d (s := q3.1)) (fun zc => ?_)
  refine RL.weak (fun w hw => hw.derive (ψ := AllF ({ q3.1 with m := zc.2 } : Ds).fs) (fun K hf => hf (AllF (q3.1).fs) (.head _))) ?_
  refine RL.assign rfl rfl rfl ?_
  refine RL.nil ?_
  refine NX.seq ?_
  refine TR.seq ?_
  refine TR.region ?_
  refine RL.move rfl rfl rfl ?_
  refine RL.buildSlice rfl rfl (db_bs22_1_0 _) rfl (fun b3 => ?_)
  refine RL.weak (fun w hw => St.boxArr (show St w (Box _ _ (ints [1]) :: _) _ from hw)) ?_
  refine RL.call rfl rfl Tryz.call14 rfl (Ctr.pick 2 [1, 0] rfl (one_crash (keep := [1]) (flip := 7) q3.2.1 (.tail _ (.tail _ (.head _))) (.head _) ⟨by decide, by decide⟩ ⟨by decide, by decide⟩)) (fun q4 => ?_)
  refine RL.nil ?_
  refine NX.seq ?_
  refine TR.seq ?_
  refine TR.seq ?_
  refine TR.region ?_
  refine RL.move rfl rfl rfl ?_
  refine RL.bin rfl rfl rfl (BinV.eqlPtrNil db_tp23) rfl ?_
  refine RL.nil ?_
  refine NX.seq ?_
  refine TR.condF rfl ?_
  refine TR.skip ?_
  refine NX.seq ?_
  refine TR.seq ?_
  refine TR.weak (fun w hw => hw.derive (ψ := ArrF none (ints [])) (fun K hf => .inl rfl)) ?_
  refine TR.region ?_
  refine RL.move rfl rfl rfl ?_
  refine RL.call rfl rfl Tryz.call14 rfl (Ctr.pick 2 [1, 0] rfl (one_crash (keep := []) (flip := 7) (q3.2.1.copy (m := zc.2)) (.tail _ (.tail _ (.tail _ (.head _)))) (.head _) ⟨by decide, by decide⟩ ⟨by decide, by decide⟩)) (fun q5 => ?_)
  refine RL.nil ?_
  refine NX.seq ?_
  refine TR.seq ?_
  refine TR.region ?_
  refine RL.move rfl rfl rfl ?_
  refine RL.call rfl rfl Tryz.call17 rfl (Ctr.pick 2 [1, 0] rfl (one_read (y := cr1 ([] ++ [1, 2] ++ [255] : List UInt8) ([] ++ [1, 2] : List UInt8).length [1] 7) q4.2.1 q4.2.2.1 (.tail _ (.tail _ (.head _))))) (fun rx => ?_)
  refine RL.weak (fun w hw => hw.keepSl) ?_
  refine RL.move rfl rfl rfl ?_
  refine RL.extract rfl rfl rfl rfl ?_
  refine RL.extract rfl rfl rfl rfl ?_
  refine RL.assign rfl rfl rfl ?_
  refine RL.assign rfl rfl rfl ?_
  refine RL.nil ?_
  refine NX.seq ?_
  refine TR.seq ?_
  refine TR.region ?_
  refine RL.move rfl rfl rfl ?_
  refine RL.call rfl rfl Tryz.call17 rfl (Ctr.pick 2 [1, 0] rfl (one_read (y := cr1 ([] ++ [1, 2] ++ [255] : List UInt8) ([] ++ [1, 2] : List UInt8).length [] 7) q5.2.1 q5.2.2.1 (.tail _ (.head _)))) (fun ry => ?_)
  refine RL.weak (fun w hw => hw.keepSl) ?_
  refine RL.move rfl rfl rfl ?_
  refine RL.extract rfl rfl rfl rfl ?_
  refine RL.extract rfl rfl rfl rfl ?_
  refine RL.assign rfl rfl rfl ?_
  refine RL.assign rfl rfl rfl ?_
  refine RL.nil ?_
  refine NX.seq ?_
  refine TR.seq ?_
  refine TR.region ?_
  refine RL.move rfl rfl rfl ?_
  refine RL.call rfl rfl Tryz.call41 rfl (arm_d (n := 0) (s := q5.1)) (fun _ => ?_)
  have hon := armS_on (n := 0) q5.2.2.1.off
  have hk5 : OkF (armS q5.1 0).fs := by rw [armS_fs]; exact q5.2.1.ok
  have hr5 : Rm (armS q5.1 0) := q5.2.1.rm.arm
  refine RL.weak (fun w hw => hw.derive (ψ := AllF (armS q5.1 0).fs) (fun K hf => by rw [armS_fs]; exact hf (AllF q5.1.fs) (.tail _ (.tail _ (.head _))))) ?_
  refine RL.nil ?_
  refine NX.seq ?_
  refine TR.seq ?_
  refine TR.weak (fun w hw => hw.derive (ψ := ArrF none (bytesV [])) (fun K hf => .inl rfl)) ?_
  refine TR.region ?_
  refine RL.move rfl rfl rfl ?_
  refine RL.call rfl rfl Tryz.call12 rfl (dapp_d (n := ((1 : Nat) : Int)) (s := (armS q5.1 0)) (x := []) hk5 (q5.2.1.lft.arm (by decide) (by decide)) hr5 (.tail _ (.head _)) (.head _) ⟨by decide, by decide⟩ (by decide)) (fun z6 => ?_)
  have hf6 := append_fails (s := (armS q5.1 0)) (n := ((1 : Nat) : Int)) (x := []) (z := z6.1) (q5.2.1.lft.arm (by decide) (by decide)) (by rw [hon]; exact q5.2.2.1.off) (by rw [hon]; rfl) (by rw [hon]) ⟨by decide, by decide⟩ hr5.used
  rw [hf6.1]
  refine RL.assign rfl rfl rfl ?_
  refine RL.nil ?_
  refine NX.seq ?_
  refine TR.seq ?_
  refine TR.region ?_
  refine RL.move rfl rfl rfl ?_
  refine RL.call rfl rfl Tryz.call17 rfl (read_d (n := ((3 : Nat) : Int)) (s := (appS (armS q5.1 0) (1 : Nat) [] z6.1)) (appS_ok hk5 z6.2) (appS_rm hk5 hr5 z6.2) (.head _) ⟨by decide, by decide⟩) (fun rz => ?_)
  rw [(read_off (n := ((3 : Nat) : Int)) ⟨by decide, by decide⟩ hf6.2).1]
  refine RL.weak (fun w hw => hw.drop 0 rfl) ?_
  refine RL.move rfl rfl rfl ?_
  refine RL.extract rfl rfl rfl rfl ?_
  refine RL.extract rfl rfl rfl rfl ?_
  refine RL.assign rfl rfl rfl ?_
  refine RL.assign rfl rfl rfl ?_
  refine RL.nil ?_
  refine NX.seq ?_
  refine TR.seq ?_
  refine TR.region ?_
  refine RL.move rfl rfl rfl ?_
  refine RL.bin rfl rfl rfl (BinV.to (d := true) BinV.eql (decide_eq_true rfl)) rfl ?_
  refine RL.move rfl rfl rfl ?_
  refine RL.move rfl rfl rfl ?_
  refine RL.bin rfl rfl rfl (BinV.to (d := true) BinV.eql (decide_eq_true rfl)) rfl ?_
  refine RL.pickT rfl rfl rfl rfl ?_
  refine RL.move rfl rfl rfl ?_
  refine RL.move rfl rfl rfl ?_
  refine RL.buildSlice rfl rfl (db_bs32_3_0_1_2 _ _ _) rfl (fun b4 => ?_)
  refine RL.weak (fun w hw => St.boxBytes [1, 2, 254] rfl hw) ?_
  refine RL.call rfl rfl Tryz.call42 rfl (Ctr.boolT (decide_eq_true (show cr1 ([] ++ [1, 2] ++ [255] : List UInt8) ([] ++ [1, 2] : List UInt8).length [1] 7 = [1, 2, 254] by decide +kernel)) (sameB_spec (xs := cr1 ([] ++ [1, 2] ++ [255] : List UInt8) ([] ++ [1, 2] : List UInt8).length [1] 7) (ys := [1, 2, 254]) (.tail _ (.tail _ (.tail _ (.tail _ (.tail _ (.head _)))))) (.head _) (by rw [show cr1 ([] ++ [1, 2] ++ [255] : List UInt8) ([] ++ [1, 2] : List UInt8).length [1] 7 = [1, 2, 254] by decide +kernel]; decide))) (fun _ => ?_)
  refine RL.pickT rfl rfl rfl rfl ?_
  refine RL.move rfl rfl rfl ?_
  refine RL.move rfl rfl rfl ?_
  refine RL.buildSlice rfl rfl (db_bs32_2_0_1 _ _) rfl (fun b5 => ?_)
  refine RL.weak (fun w hw => St.boxBytes [1, 2] rfl hw) ?_
  refine RL.call rfl rfl Tryz.call42 rfl (Ctr.boolT (decide_eq_true (show cr1 ([] ++ [1, 2] ++ [255] : List UInt8) ([] ++ [1, 2] : List UInt8).length [] 7 = [1, 2] by decide +kernel)) (sameB_spec (xs := cr1 ([] ++ [1, 2] ++ [255] : List UInt8) ([] ++ [1, 2] : List UInt8).length [] 7) (ys := [1, 2]) (.tail _ (.tail _ (.tail _ (.tail _ (.tail _ (.head _)))))) (.head _) (by rw [show cr1 ([] ++ [1, 2] ++ [255] : List UInt8) ([] ++ [1, 2] : List UInt8).length [] 7 = [1, 2] by decide +kernel]; decide))) (fun _ => ?_)
  refine RL.pickT rfl rfl rfl rfl ?_
  refine RL.move rfl rfl rfl ?_
  refine RL.move rfl rfl rfl ?_
  refine RL.bin rfl rfl rfl (BinV.to (d := true) BinV.eql (decide_eq_true rfl)) rfl ?_
  refine RL.pickT rfl rfl rfl rfl ?_
  refine RL.move rfl rfl rfl ?_
  refine RL.move rfl rfl rfl ?_
  refine RL.bin rfl rfl rfl (BinV.to (d := true) BinV.eql (decide_eq_true rfl)) rfl ?_
  refine RL.pickT rfl rfl rfl rfl ?_
  refine RL.assign rfl rfl rfl ?_
  refine RL.nil ?_
  refine NX.seq ?_
  refine TR.ret ?_
  exact NX.ret1 () rfl rfl rfl (fun w hw => (hw.to 2 [] 18 [] rfl))
end Go.Proofs.YtdnjoffkanjjhaaGreatDoor

namespace Go.Proofs.YtdnjoffkanjjhaaGreatDoor
open Go.GL
set_option linter.unusedVariables false
theorem ga_ni9 : noInt Tryz.prog 9 = true := by kernel_rfl
theorem ga_ta90 : tyAgg Tryz.prog 90 3 = true := by kernel_rfl
theorem ga_te5 : tyElem Tryz.prog 5 1 1 = true := by kernel_rfl
theorem ga_tf88_0 : fieldOff Tryz.prog 88 0 0 = true := by kernel_rfl
theorem ga_tf88_1 : fieldOff Tryz.prog 88 1 1 = true := by kernel_rfl
theorem ga_tf90_0 : fieldOff Tryz.prog 90 0 0 = true := by kernel_rfl
theorem ga_tf90_1 : fieldOff Tryz.prog 90 1 1 = true := by kernel_rfl
theorem ga_tf90_2 : fieldOff Tryz.prog 90 2 2 = true := by kernel_rfl
theorem ga_tl22 : tySlice Tryz.prog 22 3 = true := by kernel_rfl
theorem ga_tl30 : tySlice Tryz.prog 30 90 = true := by kernel_rfl
theorem ga_tl32 : tySlice Tryz.prog 32 5 = true := by kernel_rfl
theorem ga_tp73 : tyPtr Tryz.prog 73 5 = true := by kernel_rfl
theorem ga_tp86 : tyPtr Tryz.prog 86 88 = true := by kernel_rfl
theorem ga_ts3 : tyScalar Tryz.prog 3 = true := by kernel_rfl
theorem ga_ts32 : tyScalar Tryz.prog 32 = true := by kernel_rfl
theorem ga_ts86 : tyScalar Tryz.prog 86 = true := by kernel_rfl
theorem ga_ts9 : tyScalar Tryz.prog 9 = true := by kernel_rfl
theorem ga_tstr9 : tyStr Tryz.prog 9 = true := by kernel_rfl
theorem ga_tu113 : tyUns Tryz.prog 113 = true := by kernel_rfl
theorem ga_tz3 : tySize Tryz.prog 3 1 = true := by kernel_rfl
theorem ga_tz88 : tySize Tryz.prog 88 2 = true := by kernel_rfl
theorem ga_tz90 : tySize Tryz.prog 90 3 = true := by kernel_rfl
theorem ext68 (v : Value) (w : World) : (callFunc 66 #[v]).run Tryz.prog w = .ok (.value v) w := by kernel_rfl
theorem lies80 : liesAt Tryz.prog Tryz.prog.depth 88 (([Value.pointer none, .slice none 0 0] : List Value).length / Tryz.prog.cellsOf 88) 0 88 1 = true := by kernel_rfl
theorem cells5 : Nat.beq (Tryz.prog.cellsOf 5) 1 = true := by kernel_rfl
theorem copyCheck0_spec {b : Nat} {oa : Option Addr} {n c : Nat} {M : List HP} {F : List Fact} : Ctr Tryz.prog 58 [.pointer (some ⟨b, 0, none⟩)] (Box b 88 [.pointer (none), .slice oa n c] :: M) F Unit (fun _ => .tuple #[]) (fun _ => Box b 88 [.pointer (some ⟨b, 0, none⟩), .slice oa n c] :: M) (fun _ => F) := by
  refine Ctr.body Tryz.func58 rfl rfl ?_
  refine TR.seq ?_
  refine TR.region ?_
  refine RL.move rfl rfl rfl ?_
  refine RL.nilCheck rfl rfl rfl ?_
  refine RL.fieldAddr rfl ga_tf88_0 rfl rfl ?_
  refine RL.load1 0 rfl ga_ts86 rfl rfl rfl rfl ?_
  refine RL.bin rfl rfl rfl (BinV.eqlPtrNil ga_tp86) rfl ?_
  refine RL.nil ?_
  refine NX.seq ?_
  refine TR.condT rfl ?_
  refine TR.region ?_
  refine RL.move rfl rfl rfl ?_
  refine RL.move rfl rfl rfl ?_
  refine RL.toUnsafe 0 rfl ga_tp86 ga_tz88 rfl ga_tu113 rfl rfl rfl rfl ?_
  refine RL.callX rfl rfl (ext68 _) rfl ?_
  refine RL.fromUnsafe 0 rfl ga_tu113 ga_tz88 ga_tp86 rfl rfl lies80 rfl ?_
  refine RL.nilCheck rfl rfl rfl ?_
  refine RL.fieldAddr rfl ga_tf88_0 rfl rfl ?_
  refine RL.store1 0 rfl ga_ts86 rfl rfl rfl rfl rfl ?_
  refine RL.nil ?_
  exact NX.end0 () rfl rfl (fun w hw => hw)
theorem copyCheck1_spec {b : Nat} {oa : Option Addr} {n c : Nat} {M : List HP} {F : List Fact} : Ctr Tryz.prog 58 [.pointer (some ⟨b, 0, none⟩)] (Box b 88 [.pointer (some ⟨b, 0, none⟩), .slice oa n c] :: M) F Unit (fun _ => .tuple #[]) (fun _ => Box b 88 [.pointer (some ⟨b, 0, none⟩), .slice oa n c] :: M) (fun _ => F) := by
  refine Ctr.body Tryz.func58 rfl rfl ?_
  refine TR.seq ?_
  refine TR.region ?_
  refine RL.move rfl rfl rfl ?_
  refine RL.nilCheck rfl rfl rfl ?_
  refine RL.fieldAddr rfl ga_tf88_0 rfl rfl ?_
  refine RL.load1 0 rfl ga_ts86 rfl rfl rfl rfl ?_
  refine RL.bin rfl rfl rfl (BinV.eqlPtrNil ga_tp86) rfl ?_
  refine RL.nil ?_
  refine NX.seq ?_
  refine TR.condF rfl ?_
  refine TR.seq ?_
  refine TR.region ?_
  refine RL.move rfl rfl rfl ?_
  refine RL.nilCheck rfl rfl rfl ?_
  refine RL.fieldAddr rfl ga_tf88_0 rfl rfl ?_
  refine RL.load1 0 rfl ga_ts86 rfl rfl rfl rfl ?_
  refine RL.move rfl rfl rfl ?_
  refine RL.bin rfl rfl rfl (BinV.neqPtrSame ga_tp86 ga_tz88) rfl ?_
  refine RL.nil ?_
  refine NX.seq ?_
  refine TR.condF rfl ?_
  refine TR.skip ?_
  exact NX.end0 () rfl rfl (fun w hw => hw)
theorem copyCheck_spec {b : Nat} {oa : Option Addr} {n c : Nat} {M : List HP} {F : List Fact} (i : Bool) : Ctr Tryz.prog 58 [.pointer (some ⟨b, 0, none⟩)] (Box b 88 [.pointer (if i then some ⟨b, 0, none⟩ else none), .slice oa n c] :: M) F Unit (fun _ => .tuple #[]) (fun _ => Box b 88 [.pointer (some ⟨b, 0, none⟩), .slice oa n c] :: M) (fun _ => F) := by
  cases i
  · exact copyCheck0_spec
  · exact copyCheck1_spec
theorem writeString_spec {b : Nat} {l x : List UInt8} {M : List HP} {F : List Fact} (hl : l.length + x.length ≤ 140737488355328) : Ctr Tryz.prog 46 [.pointer (some ⟨b, 0, none⟩), S x] (Bld 88 5 b l :: M) F Unit (fun _ => .tuple #[I x.length, .nilIface]) (fun _ => Bld 88 5 b (l ++ x) :: M) (fun _ => F) := by
  refine Ctr.body Tryz.func46 rfl rfl ?_
  refine TR.seq ?_
  refine TR.region ?_
  refine RL.open (fun w hw => St.exOpen hw) (fun i => ?_)
  refine RL.assign rfl rfl rfl ?_
  refine RL.assign rfl rfl rfl ?_
  refine RL.nil ?_
  refine NX.seq ?_
  refine TR.seq ?_
  refine TR.region ?_
  refine RL.move rfl rfl rfl ?_
  refine RL.call rfl rfl Tryz.call58 rfl (copyCheck_spec i.1) (fun _ => ?_)
  refine RL.nil ?_
  refine NX.seq ?_
  refine TR.seq ?_
  refine TR.region ?_
  refine RL.move rfl rfl rfl ?_
  refine RL.move rfl rfl rfl ?_
  refine RL.nilCheck rfl rfl rfl ?_
  refine RL.fieldAddr rfl ga_tf88_1 rfl rfl ?_
  refine RL.load1 0 rfl ga_ts32 rfl rfl rfl rfl ?_
  refine RL.move rfl rfl rfl ?_
  refine RL.ofGV rfl rfl (GV.append (j := 1) ga_tl32 ga_ni9 ga_te5 rfl rfl rfl (src_str x) (by omega) (by omega)) (fun z => ?_)
  refine RL.nilCheck rfl rfl rfl ?_
  refine RL.fieldAddr rfl ga_tf88_1 rfl rfl ?_
  refine RL.store1 0 rfl ga_ts32 rfl rfl rfl rfl rfl ?_
  refine RL.nil ?_
  refine NX.seq ?_
  refine TR.seq ?_
  refine TR.region ?_
  refine RL.move rfl rfl rfl ?_
  refine RL.lenStr rfl ga_tstr9 rfl rfl ?_
  refine RL.assign rfl rfl rfl ?_
  refine RL.assign rfl rfl rfl ?_
  refine RL.nil ?_
  refine NX.seq ?_
  refine TR.ret ?_
  exact NX.ret2 () rfl rfl rfl rfl (fun w hw => St.exClose (true, z.1, z.2) (by rw [bytesV_append, List.length_append]; exact hw))
set_option maxRecDepth 100000 in
theorem bString_spec {b : Nat} {l : List UInt8} {M : List HP} {F : List Fact} (hl : l.length ≤ 140737488355328) : Ctr Tryz.prog 47 [.pointer (some ⟨b, 0, none⟩)] (Bld 88 5 b l :: M) F Unit (fun _ => S l) (fun _ => M) (fun _ => F) := by
  refine Ctr.body Tryz.func47 rfl rfl ?_
  refine TR.seq ?_
  refine TR.region ?_
  refine RL.open (fun w hw => St.exOpen hw) (fun i => ?_)
  refine RL.assign rfl rfl rfl ?_
  refine RL.nil ?_
  refine NX.seq ?_
  refine TR.seq ?_
  refine TR.sub (E' := [(0, _), (2, _)]) ⟨rfl, rfl, trivial⟩ ?_
  refine TR.draw mixed ?_
  apply AR.more [(0, _), (1, _), (2, _), (3, _), (5, _), (6, _), (7, _), (8, _), (9, _)]
  refine AR.eff [0, 1, 2, 3, 5, 6, 7, 8, 9] 4 [0, 1, 2, 3, 4, 5, 6, 7, 8, 9, 10, 11] ⟨QOne.yes rfl rfl rfl (PV.move rfl), QOne.yes rfl rfl rfl (PV.nilCheck rfl), QOne.yes rfl rfl rfl (PV.fieldAddr ga_tf88_1 rfl), QOne.yes rfl rfl rfl (PV.load1 0 ga_ts32 rfl rfl rfl), QOne.yes rfl rfl rfl (PV.move rfl), QOne.yes rfl rfl rfl (PV.nilCheck rfl), QOne.yes rfl rfl rfl (PV.fieldAddr ga_tf88_1 rfl), QOne.yes rfl rfl rfl (PV.load1 0 ga_ts32 rfl rfl rfl), QOne.yes rfl rfl rfl (PV.lenSlice ga_tl32 rfl), trivial⟩ rfl rfl rfl rfl rfl rfl rfl (EV.ofGV (GV.sliceData (j := 1) ga_tp73 rfl rfl)) (fun q => ?_)
  refine AR.done [3, 2, 1, 0] rfl ?_
  refine AR.eff [5, 6, 7, 8, 9] 10 [0, 1, 2, 3, 4, 5, 6, 7, 8, 9, 10, 11] ⟨QOne.yes rfl rfl rfl (PV.move rfl), QOne.yes rfl rfl rfl (PV.nilCheck rfl), QOne.yes rfl rfl rfl (PV.fieldAddr ga_tf88_1 rfl), QOne.yes rfl rfl rfl (PV.load1 0 ga_ts32 rfl rfl rfl), QOne.yes rfl rfl rfl (PV.lenSlice ga_tl32 rfl), trivial⟩ rfl rfl rfl rfl rfl rfl rfl (EV.ofGV (GV.unsafeString (j := 1) ga_tp73 cells5 rfl rfl q.2 (by omega) rfl)) (fun _ => ?_)
  refine AR.done [9, 8, 7, 6, 5] rfl ?_
  apply AR.more [(11, _)]
  refine AR.last [11] [0, 1, 2, 3, 4, 5, 6, 7, 8, 9, 10, 11] ⟨QOne.yes rfl rfl rfl (PV.assign rfl), trivial⟩ rfl rfl rfl ?_
  refine NX.sub (E' := [(2, _)]) ⟨rfl, trivial⟩ ?_
  refine NX.seq ?_
  refine TR.ret ?_
  exact NX.ret1 () rfl rfl rfl (fun w hw => (hw.drop 0 rfl).drop 0 rfl)
theorem pick_spec {xs : List Int} {oa : Option Addr} {ca : Nat} {i m : Int} {M : List HP} {F : List Fact} (ha : ArrF oa (ints xs) ∈ F) (hxs : IntsOk xs) (hm : 0 < m) : Ctr Tryz.prog 48 [.slice oa xs.length ca, I i, I m] M F {r : Int // 0 ≤ r ∧ r < m} (fun r => I r.1) (fun _ => M) (fun _ => F) := by
  refine Ctr.body Tryz.func48 rfl rfl ?_
  refine TR.seq ?_
  refine TR.region ?_
  refine RL.assign rfl rfl rfl ?_
  refine RL.nil ?_
  refine NX.seq ?_
  refine TR.seq ?_
  refine TR.seq ?_
  refine TR.region ?_
  refine RL.move rfl rfl rfl ?_
  refine RL.bin rfl rfl rfl BinV.lss rfl ?_
  refine RL.move rfl rfl rfl ?_
  refine RL.part (fun h1 => ?_) (fun h1 => ?_)
  · skip
    refine RL.skip rfl rfl rfl ?_
    refine RL.skip rfl rfl rfl ?_
    refine RL.skip rfl rfl rfl ?_
    refine RL.skip rfl rfl rfl ?_
    refine RL.pickT rfl rfl rfl rfl ?_
    refine RL.nil ?_
    refine NX.seq ?_
    refine TR.condT rfl ?_
    refine TR.seq ?_
    refine TR.region ?_
    refine RL.assign rfl rfl rfl ?_
    refine RL.nil ?_
    refine NX.seq ?_
    refine TR.ret ?_
    refine NX.retThen ?_
    exact NX.ret1 ⟨0, by omega, hm⟩ rfl rfl rfl (fun w hw => hw)
  · skip
    have hp1 := of_decide_eq_false h1
    refine RL.move rfl rfl rfl ?_
    refine RL.move rfl rfl rfl ?_
    refine RL.lenSlice rfl ga_tl22 rfl rfl ?_
    refine RL.bin rfl rfl rfl BinV.geq rfl ?_
    refine RL.pickF rfl rfl rfl rfl ?_
    refine RL.nil ?_
    refine NX.seq ?_
    refine TR.cond rfl (fun h2 => ?_) (fun h2 => ?_)
    · skip
      refine TR.seq ?_
      refine TR.region ?_
      refine RL.assign rfl rfl rfl ?_
      refine RL.nil ?_
      refine NX.seq ?_
      refine TR.ret ?_
      refine NX.retThen ?_
      exact NX.ret1 ⟨0, by omega, hm⟩ rfl rfl rfl (fun w hw => hw)
    · skip
      have hi0 := of_decide_eq_false h2
      have hi1 : i.toNat < xs.length := by omega
      have hr := hxs.2 _ (List.getElem_mem hi1)
      refine TR.openP (open_arr ha (ints_ne (by omega))) (fun x hx => ?_)
      refine TR.skip ?_
      refine NX.seq ?_
      refine TR.seq ?_
      refine TR.region ?_
      refine RL.move rfl rfl rfl ?_
      refine RL.move rfl rfl rfl ?_
      refine RL.indexAddr rfl ga_tl22 ga_tz3 (congrArg (fun a => some (Value.slice a _ _)) hx) rfl (by omega) (by omega) rfl ?_
      refine RL.loadF rfl rfl (fun w K hF => run_loadCell1 (j := i.toNat * 1) (v := I xs[i.toNat]) (hF _ (.head _)) ga_ts3 (by simp [hi1])) rfl ?_
      refine RL.move rfl rfl rfl ?_
      refine RL.call rfl rfl Tryz.call11 rfl (around_spec hm hr.1 hr.2) (fun v => ?_)
      refine RL.assign rfl rfl rfl ?_
      refine RL.nil ?_
      refine NX.seq ?_
      refine TR.ret ?_
      exact NX.ret1 v rfl rfl rfl (fun w hw => hw.facts (fun φ h => .tail _ h))
theorem sound_spec {es : List Ed} {oa : Option Addr} {ca : Nat} {size : Int} {M : List HP} {F : List Fact} (ha : ArrF oa (edC es) ∈ F) (hl : es.length ≤ 4611686018427387904) : Ctr Tryz.prog 45 [.slice oa es.length ca, I size] M F Unit (fun _ => I (soundE size es)) (fun _ => M) (fun _ => F) := by
  refine Ctr.body Tryz.func45 rfl rfl ?_
  refine TR.seq ?_
  refine TR.region ?_
  refine RL.assign rfl rfl rfl ?_
  refine RL.nil ?_
  refine NX.seq ?_
  refine TR.seq ?_
  refine TR.seq ?_
  refine TR.region ?_
  refine RL.move rfl rfl rfl ?_
  refine RL.lenSlice rfl ga_tl30 rfl rfl ?_
  refine RL.bin rfl rfl rfl BinV.gtr rfl ?_
  refine RL.nil ?_
  refine NX.seq ?_
  refine TR.cond rfl (fun h1 => ?_) (fun h1 => ?_)
  · skip
    have hbig : 64 < es.length := by have := of_decide_eq_true h1; omega
    refine TR.seq ?_
    refine TR.region ?_
    refine RL.assign rfl rfl rfl ?_
    refine RL.nil ?_
    refine NX.seq ?_
    refine TR.ret ?_
    refine NX.retThen ?_
    exact NX.ret1 () rfl rfl (by unfold soundE; rw [if_pos hbig]) (fun w hw => hw)
  · skip
    have hsm : ¬ 64 < es.length := by have := of_decide_eq_false h1; omega
    refine TR.skip ?_
    refine NX.seq ?_
    refine TR.seq ?_
    refine TR.region ?_
    refine RL.assign rfl rfl rfl ?_
    refine RL.nil ?_
    refine NX.seq ?_
    refine TR.seq ?_
    refine TR.seq ?_
    refine TR.region ?_
    refine RL.move rfl rfl rfl ?_
    refine RL.lenSlice rfl ga_tl30 rfl rfl ?_
    refine RL.move rfl rfl rfl ?_
    refine RL.nil ?_
    refine NX.seq ?_
    refine TR.block ?_
    refine TR.loopP (ι := Nat × Int) (fun x => x.1 ≤ es.length ∧ sound1 size x.2 (es.drop x.1) = sound1 size 0 es) (fun x => [(0, .slice oa es.length ca), (1, I size), (5, I x.2), (11, .slice oa es.length ca), (12, I es.length), (13, I x.1)]) (fun _ => M) (fun _ => F) (fun x => es.length - x.1) (0, 0) ⟨Nat.zero_le _, rfl⟩ ⟨rfl, rfl, rfl, rfl, rfl, rfl, trivial⟩ (fun w hw => hw) (fun x hx => ?_)
    refine TR.seq ?_
    refine TR.region ?_
    refine RL.bin rfl rfl rfl BinV.lss rfl ?_
    refine RL.nil ?_
    refine NX.seq ?_
    refine TR.seq ?_
    refine TR.cond rfl (fun h2 => ?_) (fun h2 => ?_)
    · skip
      have hk1 : x.1 < es.length := by have := of_decide_eq_true h2; omega
      have hdk := List.drop_eq_getElem_cons hk1
      refine TR.openP (open_arr (oa := oa) (xs := edC es) ha (fun e => by have h8 := edC_length es; rw [e] at h8; simp at h8; omega)) (fun pq hpa => ?_)
      refine TR.skip ?_
      refine NX.seq ?_
      refine TR.seq ?_
      refine TR.block ?_
      refine TR.seq ?_
      refine TR.region ?_
      refine RL.indexAddr rfl ga_tl30 ga_tz90 (congrArg (fun a => some (Value.slice a _ _)) hpa) rfl (by omega) (by omega) rfl ?_
      refine RL.loadF rfl rfl (fun w K hF => run_ed (hF _ (.head _)) ga_ta90 hk1) rfl ?_
      refine RL.allocA rfl (Tryz.zeroValue90) rfl (fun b3 => ?_)
      refine RL.storeA 0 rfl rfl rfl rfl ga_tz90 rfl rfl ?_
      refine RL.nil ?_
      refine NX.seq ?_
      refine TR.seq ?_
      refine TR.block ?_
      refine TR.seq ?_
      refine TR.region ?_
      refine RL.fieldAddr rfl ga_tf90_0 rfl rfl ?_
      refine RL.load1 0 rfl ga_ts3 rfl rfl rfl rfl ?_
      refine RL.bin rfl rfl rfl BinV.lss rfl ?_
      refine RL.move rfl rfl rfl ?_
      refine RL.part (fun h4 => ?_) (fun h4 => ?_)
      · skip
        have hA := of_decide_eq_true h4
        have hbad : es[x.1].f < 0 ∨ es[x.1].t < es[x.1].f ∨ size < es[x.1].t := .inl hA
        refine RL.skip rfl rfl rfl ?_
        refine RL.skip rfl rfl rfl ?_
        refine RL.skip rfl rfl rfl ?_
        refine RL.skip rfl rfl rfl ?_
        refine RL.skip rfl rfl rfl ?_
        refine RL.pickT rfl rfl rfl rfl ?_
        refine RL.move rfl rfl rfl ?_
        refine RL.skip rfl rfl rfl ?_
        refine RL.skip rfl rfl rfl ?_
        refine RL.skip rfl rfl rfl ?_
        refine RL.skip rfl rfl rfl ?_
        refine RL.pickT rfl rfl rfl rfl ?_
        refine RL.assign rfl rfl rfl ?_
        refine RL.nil ?_
        refine NX.seq ?_
        refine TR.condT rfl ?_
        refine TR.seq ?_
        refine TR.region ?_
        refine RL.assign rfl rfl rfl ?_
        refine RL.nil ?_
        refine NX.seq ?_
        refine TR.ret ?_
        refine NX.retBlock ?_
        refine NX.retThen ?_
        refine NX.retBlock ?_
        refine NX.retThen ?_
        refine NX.retThen ?_
        refine NX.retBlock ?_
        refine NX.retThen ?_
        have h9 := hx.2
        rw [hdk, sound1_bad hbad] at h9
        exact NX.ret1 () rfl rfl (by unfold soundE; rw [if_neg hsm, ← h9]) (fun w hw => hw.tail.facts (fun φ h => .tail _ (h)))
      · skip
        have hA := of_decide_eq_false h4
        refine RL.fieldAddr rfl ga_tf90_1 rfl rfl ?_
        refine RL.load1 0 rfl ga_ts3 rfl rfl rfl rfl ?_
        refine RL.fieldAddr rfl ga_tf90_0 rfl rfl ?_
        refine RL.load1 0 rfl ga_ts3 rfl rfl rfl rfl ?_
        refine RL.bin rfl rfl rfl BinV.lss rfl ?_
        refine RL.pickF rfl rfl rfl rfl ?_
        refine RL.move rfl rfl rfl ?_
        refine RL.part (fun h5 => ?_) (fun h5 => ?_)
        · skip
          have hB := of_decide_eq_true h5
          have hbad : es[x.1].f < 0 ∨ es[x.1].t < es[x.1].f ∨ size < es[x.1].t := .inr (.inl hB)
          refine RL.skip rfl rfl rfl ?_
          refine RL.skip rfl rfl rfl ?_
          refine RL.skip rfl rfl rfl ?_
          refine RL.skip rfl rfl rfl ?_
          refine RL.pickT rfl rfl rfl rfl ?_
          refine RL.assign rfl rfl rfl ?_
          refine RL.nil ?_
          refine NX.seq ?_
          refine TR.condT rfl ?_
          refine TR.seq ?_
          refine TR.region ?_
          refine RL.assign rfl rfl rfl ?_
          refine RL.nil ?_
          refine NX.seq ?_
          refine TR.ret ?_
          refine NX.retBlock ?_
          refine NX.retThen ?_
          refine NX.retBlock ?_
          refine NX.retThen ?_
          refine NX.retThen ?_
          refine NX.retBlock ?_
          refine NX.retThen ?_
          have h9 := hx.2
          rw [hdk, sound1_bad hbad] at h9
          exact NX.ret1 () rfl rfl (by unfold soundE; rw [if_neg hsm, ← h9]) (fun w hw => hw.tail.facts (fun φ h => .tail _ (h)))
        · skip
          have hB := of_decide_eq_false h5
          refine RL.fieldAddr rfl ga_tf90_1 rfl rfl ?_
          refine RL.load1 0 rfl ga_ts3 rfl rfl rfl rfl ?_
          refine RL.move rfl rfl rfl ?_
          refine RL.bin rfl rfl rfl BinV.gtr rfl ?_
          refine RL.pickF rfl rfl rfl rfl ?_
          refine RL.assign rfl rfl rfl ?_
          refine RL.nil ?_
          refine NX.seq ?_
          refine TR.cond rfl (fun h6 => ?_) (fun h6 => ?_)
          · skip
            have hC := of_decide_eq_true h6
            have hbad : es[x.1].f < 0 ∨ es[x.1].t < es[x.1].f ∨ size < es[x.1].t := .inr (.inr hC)
            refine TR.seq ?_
            refine TR.region ?_
            refine RL.assign rfl rfl rfl ?_
            refine RL.nil ?_
            refine NX.seq ?_
            refine TR.ret ?_
            refine NX.retBlock ?_
            refine NX.retThen ?_
            refine NX.retBlock ?_
            refine NX.retThen ?_
            refine NX.retThen ?_
            refine NX.retBlock ?_
            refine NX.retThen ?_
            have h9 := hx.2
            rw [hdk, sound1_bad hbad] at h9
            exact NX.ret1 () rfl rfl (by unfold soundE; rw [if_neg hsm, ← h9]) (fun w hw => hw.tail.facts (fun φ h => .tail _ (h)))
          · skip
            have hC := of_decide_eq_false h6
            have hok : ¬ (es[x.1].f < 0 ∨ es[x.1].t < es[x.1].f ∨ size < es[x.1].t) := by rintro (h | h | h) <;> contradiction
            refine TR.seq ?_
            refine TR.region ?_
            refine RL.fieldAddr rfl ga_tf90_0 rfl rfl ?_
            refine RL.load1 0 rfl ga_ts3 rfl rfl rfl rfl ?_
            refine RL.move rfl rfl rfl ?_
            refine RL.bin rfl rfl rfl BinV.lss rfl ?_
            refine RL.assign rfl rfl rfl ?_
            refine RL.nil ?_
            refine NX.seq ?_
            refine TR.cond rfl (fun h7 => ?_) (fun h7 => ?_)
            · skip
              have hlow : es[x.1].f < x.2 := of_decide_eq_true h7
              refine TR.seq ?_
              refine TR.region ?_
              refine RL.assign rfl rfl rfl ?_
              refine RL.nil ?_
              refine NX.seq ?_
              refine TR.ret ?_
              refine NX.retBlock ?_
              refine NX.retThen ?_
              refine NX.retBlock ?_
              refine NX.retThen ?_
              refine NX.retThen ?_
              refine NX.retBlock ?_
              refine NX.retThen ?_
              have h9 := hx.2
              rw [hdk, sound1_low hok hlow] at h9
              exact NX.ret1 () rfl rfl (by unfold soundE; rw [if_neg hsm, ← h9]) (fun w hw => hw.tail.facts (fun φ h => .tail _ (h)))
            · skip
              have hge : ¬ es[x.1].f < x.2 := of_decide_eq_false h7
              refine TR.skip ?_
              refine NX.off ?_
              refine NX.seq ?_
              refine TR.region ?_
              refine RL.fieldAddr rfl ga_tf90_1 rfl rfl ?_
              refine RL.load1 0 rfl ga_ts3 rfl rfl rfl rfl ?_
              refine RL.assign rfl rfl rfl ?_
              refine RL.nil ?_
              refine NX.off ?_
              refine NX.seq ?_
              refine TR.region ?_
              refine RL.bin rfl rfl rfl (BinV.add _ rfl (by omega) (by omega)) rfl ?_
              refine RL.move rfl rfl rfl ?_
              refine RL.nil ?_
              have h9 := hx.2
              rw [hdk, sound1_on hok hge] at h9
              refine NX.roundP (x.1 + 1, es[x.1].t) ⟨hk1, h9⟩ (by show _ - (x.1 + 1) < _ - x.1; omega) ⟨rfl, rfl, rfl, rfl, rfl, rfl, trivial⟩ (fun w hw => hw.tail.facts (fun φ h => .tail _ (h)))
    · skip
      have hk2 : x.1 = es.length := by have := of_decide_eq_false h2; have := hx.1; omega
      refine TR.exit ?_
      refine NX.exitThen ?_
      refine NX.exitThen ?_
      refine NX.exitHere ?_
      refine NX.seq ?_
      refine TR.seq ?_
      refine TR.region ?_
      refine RL.assign rfl rfl rfl ?_
      refine RL.nil ?_
      refine NX.seq ?_
      refine TR.ret ?_
      have h9 := hx.2
      rw [hk2, List.drop_length, sound1] at h9
      exact NX.ret1 () rfl rfl (by unfold soundE; rw [if_neg hsm, ← h9]) (fun w hw => hw)
theorem valid_spec {s : List UInt8} {es : List Ed} {oa : Option Addr} {ca : Nat} {M : List HP} {F : List Fact} (ha : ArrF oa (edC es) ∈ F) (hl : es.length ≤ 4611686018427387904) : Ctr Tryz.prog 24 [S s, .slice oa es.length ca] M F Unit (fun _ => I (soundE s.length es)) (fun _ => M) (fun _ => F) := by
  refine Ctr.body Tryz.func24 rfl rfl ?_
  refine TR.seq ?_
  refine TR.region ?_
  refine RL.assign rfl rfl rfl ?_
  refine RL.nil ?_
  refine NX.seq ?_
  refine TR.seq ?_
  refine TR.region ?_
  refine RL.move rfl rfl rfl ?_
  refine RL.move rfl rfl rfl ?_
  refine RL.lenStr rfl ga_tstr9 rfl rfl ?_
  refine RL.call rfl rfl Tryz.call45 rfl (sound_spec ha hl) (fun _ => ?_)
  refine RL.assign rfl rfl rfl ?_
  refine RL.nil ?_
  refine NX.seq ?_
  refine TR.ret ?_
  exact NX.ret1 () rfl rfl rfl (fun w hw => hw)
structure ApX where
  k : Nat
  q : Nat
  B : List UInt8
theorem applyI_spec {s : List UInt8} {es : List Ed} {oa : Option Addr} {ca : Nat} {M : List HP} {F : List Fact} (ha : ArrF oa (edC es) ∈ F) (hl : es.length ≤ 4611686018427387904) (hv : sound1 s.length 0 es = 0) (hb : (applyGo s 0 es).length ≤ 140737488355328) : Ctr Tryz.prog 25 [S s, .slice oa es.length ca] M F Unit (fun _ => S (applyGo s 0 es)) (fun _ => M) (fun _ => F) := by
  refine Ctr.body Tryz.func25 rfl rfl ?_
  refine TR.seq ?_
  refine TR.region ?_
  refine RL.assign rfl rfl rfl ?_
  refine RL.nil ?_
  refine NX.seq ?_
  refine TR.seq ?_
  refine TR.region ?_
  refine RL.allocA rfl (Tryz.zeroValue88) rfl (fun b1 => ?_)
  refine RL.weak (fun w hw => St.bldNew (e := 5) hw) ?_
  refine RL.nil ?_
  refine NX.seq ?_
  refine TR.seq ?_
  refine TR.region ?_
  refine RL.assign rfl rfl rfl ?_
  refine RL.nil ?_
  refine NX.seq ?_
  refine TR.seq ?_
  refine TR.seq ?_
  refine TR.region ?_
  refine RL.move rfl rfl rfl ?_
  refine RL.lenSlice rfl ga_tl30 rfl rfl ?_
  refine RL.move rfl rfl rfl ?_
  refine RL.nil ?_
  refine NX.seq ?_
  refine TR.block ?_
  refine TR.loopP (ι := ApX) (fun x => x.k ≤ es.length ∧ x.q ≤ s.length ∧ sound1 s.length x.q (es.drop x.k) = 0 ∧ x.B ++ applyGo s x.q (es.drop x.k) = applyGo s 0 es) (fun x => [(0, S s), (5, .pointer (some ⟨b1, 0, none⟩)), (6, I x.q), (9, .slice oa es.length ca), (10, I es.length), (11, I x.k)]) (fun x => Bld 88 5 b1 x.B :: M) (fun _ => F) (fun x => es.length - x.k) ⟨0, 0, []⟩ ⟨Nat.zero_le _, Nat.zero_le _, hv, rfl⟩ ⟨rfl, rfl, rfl, rfl, rfl, rfl, trivial⟩ (fun w hw => hw) (fun x hx => ?_)
  refine TR.seq ?_
  refine TR.region ?_
  refine RL.bin rfl rfl rfl BinV.lss rfl ?_
  refine RL.nil ?_
  refine NX.seq ?_
  refine TR.seq ?_
  refine TR.cond rfl (fun h2 => ?_) (fun h2 => ?_)
  · skip
    have hk1 : x.k < es.length := by have := of_decide_eq_true h2; omega
    have hdk := List.drop_eq_getElem_cons hk1
    obtain ⟨hq1, hs1, hg1⟩ := hx.2
    rw [hdk] at hs1 hg1
    obtain ⟨h1, h2, h3, h4, h5⟩ := sound1_cons hs1
    refine TR.openP (open_arr (oa := oa) (xs := edC es) ha (fun e => by have h8 := edC_length es; rw [e] at h8; simp at h8; omega)) (fun pq hpa => ?_)
    have hlen := congrArg List.length hg1
    simp only [applyGo, List.length_append] at hlen
    have hl2 : ((s.take es[x.k].f.toNat).drop x.q).length = es[x.k].f.toNat - x.q := by rw [List.length_drop, List.length_take]; omega
    refine TR.skip ?_
    refine NX.seq ?_
    refine TR.seq ?_
    refine TR.block ?_
    refine TR.seq ?_
    refine TR.region ?_
    refine RL.indexAddr rfl ga_tl30 ga_tz90 (congrArg (fun a => some (Value.slice a _ _)) hpa) rfl (by omega) (by omega) rfl ?_
    refine RL.loadF rfl rfl (fun w K hF => run_ed (hF _ (.head _)) ga_ta90 hk1) rfl ?_
    refine RL.allocA rfl (Tryz.zeroValue90) rfl (fun b3 => ?_)
    refine RL.storeA 0 rfl rfl rfl rfl ga_tz90 rfl rfl ?_
    refine RL.nil ?_
    refine NX.seq ?_
    refine TR.seq ?_
    refine TR.region ?_
    refine RL.move rfl rfl rfl ?_
    refine RL.move rfl rfl rfl ?_
    refine RL.fieldAddr rfl ga_tf90_0 rfl rfl ?_
    refine RL.load1 0 rfl ga_ts3 rfl rfl rfl rfl ?_
    refine RL.sliceS rfl ga_tstr9 rfl rfl rfl (by omega) (by omega) (by omega) rfl ?_
    refine RL.call rfl rfl Tryz.call46 rfl (Ctr.frame1 [_] (writeString_spec (by rw [Int.toNat_natCast]; omega))) (fun _ => ?_)
    refine RL.nil ?_
    refine NX.seq ?_
    refine TR.seq ?_
    refine TR.region ?_
    refine RL.fieldAddr rfl ga_tf90_2 rfl rfl ?_
    refine RL.load1 0 rfl ga_ts9 rfl rfl rfl rfl ?_
    refine RL.call rfl rfl Tryz.call46 rfl (Ctr.frame1 [_] (writeString_spec (by rw [List.length_append, Int.toNat_natCast]; omega))) (fun _ => ?_)
    refine RL.nil ?_
    refine NX.seq ?_
    refine TR.region ?_
    refine RL.fieldAddr rfl ga_tf90_1 rfl rfl ?_
    refine RL.load1 0 rfl ga_ts3 rfl rfl rfl rfl ?_
    refine RL.assign rfl rfl rfl ?_
    refine RL.nil ?_
    refine NX.off ?_
    refine NX.seq ?_
    refine TR.region ?_
    refine RL.bin rfl rfl rfl (BinV.add _ rfl (by omega) (by omega)) rfl ?_
    refine RL.move rfl rfl rfl ?_
    refine RL.nil ?_
    have e9 : ((x.B ++ (s.take es[x.k].f.toNat).drop (x.q : Int).toNat) ++ es[x.k].x) ++ applyGo s es[x.k].t.toNat (es.drop (x.k + 1)) = applyGo s 0 es := by
      rw [← hg1, applyGo, Int.toNat_natCast]; simp only [List.append_assoc]
    refine NX.roundP ⟨x.k + 1, es[x.k].t.toNat, (x.B ++ (s.take es[x.k].f.toNat).drop (x.q : Int).toNat) ++ es[x.k].x⟩ ⟨hk1, (show es[x.k].t.toNat ≤ s.length by omega), ?_, e9⟩ (by show _ - (x.k + 1) < _ - x.k; omega) ⟨rfl, rfl, congrArg (fun z => some (I z)) (show es[x.k].t = ((es[x.k].t.toNat : Nat) : Int) by omega), rfl, rfl, rfl, trivial⟩ (fun w hw => hw.tail.facts (fun φ h => .tail _ (h)))
    show sound1 _ ((es[x.k].t.toNat : Nat) : Int) _ = 0
    rw [Int.toNat_of_nonneg (by omega)]; exact h5
  · skip
    have hk2 : x.k = es.length := by have := of_decide_eq_false h2; have := hx.1; omega
    obtain ⟨hq1, hs1, hg1⟩ := hx.2
    rw [hk2, List.drop_length, applyGo] at hg1
    have hlen := congrArg List.length hg1
    rw [List.length_append, List.length_drop] at hlen
    refine TR.exit ?_
    refine NX.exitThen ?_
    refine NX.exitThen ?_
    refine NX.exitHere ?_
    refine NX.seq ?_
    refine TR.seq ?_
    refine TR.region ?_
    refine RL.move rfl rfl rfl ?_
    refine RL.move rfl rfl rfl ?_
    refine RL.sliceSfrom rfl ga_tstr9 rfl rfl  (by omega) (by omega) rfl ?_
    refine RL.call rfl rfl Tryz.call46 rfl (writeString_spec (by rw [List.length_drop]; omega)) (fun _ => ?_)
    refine RL.nil ?_
    refine NX.seq ?_
    refine TR.seq ?_
    refine TR.region ?_
    have h9 : x.B ++ s.drop (x.q : Int).toNat = applyGo s 0 es := by rw [Int.toNat_natCast]; exact hg1
    refine RL.call rfl rfl Tryz.call47 rfl (bString_spec (by rw [h9]; exact hb)) (fun _ => ?_)
    refine RL.assign rfl rfl rfl ?_
    refine RL.nil ?_
    refine NX.seq ?_
    refine TR.ret ?_
    exact NX.ret1 () rfl rfl (by rw [h9]) (fun w hw => hw)
theorem apply_spec {s : List UInt8} {es : List Ed} {oa : Option Addr} {ca : Nat} {M : List HP} {F : List Fact} (ha : ArrF oa (edC es) ∈ F) (hl : es.length ≤ 4611686018427387904) (hb : soundE s.length es = 0 → (applyGo s 0 es).length ≤ 140737488355328) : Ctr Tryz.prog 6 [S s, .slice oa es.length ca] M F Unit (fun _ => .tuple #[S (applyE s es).1, I (applyE s es).2]) (fun _ => M) (fun _ => F) := by
  refine Ctr.body Tryz.func6 rfl rfl ?_
  refine TR.seq ?_
  refine TR.region ?_
  refine RL.assign rfl rfl rfl ?_
  refine RL.assign rfl rfl rfl ?_
  refine RL.nil ?_
  refine NX.seq ?_
  refine TR.seq ?_
  refine TR.seq ?_
  refine TR.region ?_
  refine RL.move rfl rfl rfl ?_
  refine RL.move rfl rfl rfl ?_
  refine RL.call rfl rfl Tryz.call24 rfl (valid_spec ha hl) (fun _ => ?_)
  refine RL.assign rfl rfl rfl ?_
  refine RL.nil ?_
  refine NX.seq ?_
  refine TR.seq ?_
  refine TR.region ?_
  refine RL.move rfl rfl rfl ?_
  refine RL.bin rfl rfl rfl BinV.neq rfl ?_
  refine RL.nil ?_
  refine NX.seq ?_
  refine TR.cond rfl (fun h1 => ?_) (fun h1 => ?_)
  · skip
    have hz : ¬ soundE s.length es = 0 := of_decide_eq_true h1
    refine TR.seq ?_
    refine TR.region ?_
    refine RL.move rfl rfl rfl ?_
    refine RL.assign rfl rfl rfl ?_
    refine RL.assign rfl rfl rfl ?_
    refine RL.nil ?_
    refine NX.seq ?_
    refine TR.ret ?_
    refine NX.retThen ?_
    exact NX.ret2 () rfl rfl rfl (by unfold applyE; rw [if_neg hz]) (fun w hw => hw)
  · skip
    have hz : soundE s.length es = 0 := by have := of_decide_eq_false h1; omega
    refine TR.skip ?_
    refine NX.seq ?_
    refine TR.seq ?_
    refine TR.region ?_
    refine RL.move rfl rfl rfl ?_
    refine RL.move rfl rfl rfl ?_
    refine RL.call rfl rfl Tryz.call25 rfl (applyI_spec ha hl (soundE_sound1 hz) (hb hz)) (fun _ => ?_)
    refine RL.assign rfl rfl rfl ?_
    refine RL.assign rfl rfl rfl ?_
    refine RL.nil ?_
    refine NX.seq ?_
    refine TR.ret ?_
    exact NX.ret2 () rfl rfl rfl (by unfold applyE; rw [if_pos hz]) (fun w hw => hw)
end Go.Proofs.YtdnjoffkanjjhaaGreatDoor

namespace Go.Proofs.YtdnjoffkanjjhaaGreatDoor
open Go.GL
set_option linter.unusedVariables false
theorem gb_bs30_1_0 (x00 : Int) (x01 : Int) (x02 : List UInt8) : BuildSV Tryz.prog 30 90 1 [(0, .agg #[.int .i64 x00, .int .i64 x01, S x02])] [.int .i64 x00, .int .i64 x01, S x02] := fun w => by kernel_rfl
theorem gb_bs83_13_0_1_2_3_4_5_6_7_8_9_10_11_12 (x0 : List UInt8) (x1 : List UInt8) (x2 : List UInt8) (x3 : List UInt8) (x4 : List UInt8) (x5 : List UInt8) (x6 : List UInt8) (x7 : List UInt8) (x8 : List UInt8) (x9 : List UInt8) (x10 : List UInt8) (x11 : List UInt8) (x12 : List UInt8) : BuildSV Tryz.prog 83 9 13 [(0, S x0), (1, S x1), (2, S x2), (3, S x3), (4, S x4), (5, S x5), (6, S x6), (7, S x7), (8, S x8), (9, S x9), (10, S x10), (11, S x11), (12, S x12)] [S x0, S x1, S x2, S x3, S x4, S x5, S x6, S x7, S x8, S x9, S x10, S x11, S x12] := fun w => by kernel_rfl
theorem gb_bs83_24_0_1_2_3_4_5_6_7_8_9_10_11_12_13_14_15_16_17_18_19_20_21_22_23 (x0 : List UInt8) (x1 : List UInt8) (x2 : List UInt8) (x3 : List UInt8) (x4 : List UInt8) (x5 : List UInt8) (x6 : List UInt8) (x7 : List UInt8) (x8 : List UInt8) (x9 : List UInt8) (x10 : List UInt8) (x11 : List UInt8) (x12 : List UInt8) (x13 : List UInt8) (x14 : List UInt8) (x15 : List UInt8) (x16 : List UInt8) (x17 : List UInt8) (x18 : List UInt8) (x19 : List UInt8) (x20 : List UInt8) (x21 : List UInt8) (x22 : List UInt8) (x23 : List UInt8) : BuildSV Tryz.prog 83 9 24 [(0, S x0), (1, S x1), (2, S x2), (3, S x3), (4, S x4), (5, S x5), (6, S x6), (7, S x7), (8, S x8), (9, S x9), (10, S x10), (11, S x11), (12, S x12), (13, S x13), (14, S x14), (15, S x15), (16, S x16), (17, S x17), (18, S x18), (19, S x19), (20, S x20), (21, S x21), (22, S x22), (23, S x23)] [S x0, S x1, S x2, S x3, S x4, S x5, S x6, S x7, S x8, S x9, S x10, S x11, S x12, S x13, S x14, S x15, S x16, S x17, S x18, S x19, S x20, S x21, S x22, S x23] := fun w => by kernel_rfl
theorem gb_bs83_25_0_1_2_3_4_5_6_7_8_9_10_11_12_13_14_15_16_17_18_19_20_21_22_23_24 (x0 : List UInt8) (x1 : List UInt8) (x2 : List UInt8) (x3 : List UInt8) (x4 : List UInt8) (x5 : List UInt8) (x6 : List UInt8) (x7 : List UInt8) (x8 : List UInt8) (x9 : List UInt8) (x10 : List UInt8) (x11 : List UInt8) (x12 : List UInt8) (x13 : List UInt8) (x14 : List UInt8) (x15 : List UInt8) (x16 : List UInt8) (x17 : List UInt8) (x18 : List UInt8) (x19 : List UInt8) (x20 : List UInt8) (x21 : List UInt8) (x22 : List UInt8) (x23 : List UInt8) (x24 : List UInt8) : BuildSV Tryz.prog 83 9 25 [(0, S x0), (1, S x1), (2, S x2), (3, S x3), (4, S x4), (5, S x5), (6, S x6), (7, S x7), (8, S x8), (9, S x9), (10, S x10), (11, S x11), (12, S x12), (13, S x13), (14, S x14), (15, S x15), (16, S x16), (17, S x17), (18, S x18), (19, S x19), (20, S x20), (21, S x21), (22, S x22), (23, S x23), (24, S x24)] [S x0, S x1, S x2, S x3, S x4, S x5, S x6, S x7, S x8, S x9, S x10, S x11, S x12, S x13, S x14, S x15, S x16, S x17, S x18, S x19, S x20, S x21, S x22, S x23, S x24] := fun w => by kernel_rfl
theorem gb_bs83_26_0_1_2_3_4_5_6_7_8_9_10_11_12_13_14_15_16_17_18_19_20_21_22_23_24_25 (x0 : List UInt8) (x1 : List UInt8) (x2 : List UInt8) (x3 : List UInt8) (x4 : List UInt8) (x5 : List UInt8) (x6 : List UInt8) (x7 : List UInt8) (x8 : List UInt8) (x9 : List UInt8) (x10 : List UInt8) (x11 : List UInt8) (x12 : List UInt8) (x13 : List UInt8) (x14 : List UInt8) (x15 : List UInt8) (x16 : List UInt8) (x17 : List UInt8) (x18 : List UInt8) (x19 : List UInt8) (x20 : List UInt8) (x21 : List UInt8) (x22 : List UInt8) (x23 : List UInt8) (x24 : List UInt8) (x25 : List UInt8) : BuildSV Tryz.prog 83 9 26 [(0, S x0), (1, S x1), (2, S x2), (3, S x3), (4, S x4), (5, S x5), (6, S x6), (7, S x7), (8, S x8), (9, S x9), (10, S x10), (11, S x11), (12, S x12), (13, S x13), (14, S x14), (15, S x15), (16, S x16), (17, S x17), (18, S x18), (19, S x19), (20, S x20), (21, S x21), (22, S x22), (23, S x23), (24, S x24), (25, S x25)] [S x0, S x1, S x2, S x3, S x4, S x5, S x6, S x7, S x8, S x9, S x10, S x11, S x12, S x13, S x14, S x15, S x16, S x17, S x18, S x19, S x20, S x21, S x22, S x23, S x24, S x25] := fun w => by kernel_rfl
theorem gb_bv90_0_1_2 (x0 : Int) (x1 : Int) (x2 : List UInt8) : BuildV Tryz.prog 90 [(0, .int .i64 x0), (1, .int .i64 x1), (2, S x2)] (.agg #[.int .i64 x0, .int .i64 x1, S x2]) := fun w => by kernel_rfl
theorem gb_ni30 : noInt Tryz.prog 30 = true := by kernel_rfl
theorem gb_te90 : tyElem Tryz.prog 90 3 32 = true := by kernel_rfl
theorem gb_tl22 : tySlice Tryz.prog 22 3 = true := by kernel_rfl
theorem gb_tl30 : tySlice Tryz.prog 30 90 = true := by kernel_rfl
theorem gb_tl83 : tySlice Tryz.prog 83 9 = true := by kernel_rfl
theorem gb_ts3 : tyScalar Tryz.prog 3 = true := by kernel_rfl
theorem gb_ts9 : tyScalar Tryz.prog 9 = true := by kernel_rfl
theorem gb_tstr9 : tyStr Tryz.prog 9 = true := by kernel_rfl
theorem gb_tz3 : tySize Tryz.prog 3 1 = true := by kernel_rfl
theorem gb_tz9 : tySize Tryz.prog 9 1 = true := by kernel_rfl
theorem boundary_spec {tx : List UInt8} {a : Nat} {M : List HP} {F : List Fact} (hal : a ≤ 4611686018427387904) : Ctr Tryz.prog 49 [S tx, I (a : Nat)] M F {b : Nat // b ≤ a ∧ IsB tx b ∧ ∀ q, IsB tx q → q ≤ a → q ≤ b} (fun b => I (b.1 : Nat)) (fun _ => M) (fun _ => F) := by
  refine Ctr.body Tryz.func49 rfl rfl ?_
  refine TR.seq ?_
  refine TR.region ?_
  refine RL.assign rfl rfl rfl ?_
  refine RL.nil ?_
  refine NX.seq ?_
  refine TR.seq ?_
  refine TR.block ?_
  refine TR.loopP (ι := Nat) (fun b => b ≤ a ∧ ∀ q, IsB tx q → q ≤ a → q ≤ b) (fun b => [(0, S tx), (1, I (b : Nat))]) (fun b => M) (fun b => F) (fun b => b) a ⟨Nat.le_refl _, fun q _ h => h⟩ ⟨rfl, rfl, trivial⟩ (fun w hw => (hw.to 0 [] 0 [] rfl)) (fun b hb => ?_)
  refine TR.seq ?_
  refine TR.seq ?_
  refine TR.region ?_
  refine RL.move rfl rfl rfl ?_
  refine RL.bin rfl rfl rfl BinV.gtr rfl ?_
  refine RL.move rfl rfl rfl ?_
  refine RL.part (fun h1 => ?_) (fun h1 => ?_)
  · skip
    have hb0 : 0 < b := by have := of_decide_eq_true h1; omega
    refine RL.move rfl rfl rfl ?_
    refine RL.move rfl rfl rfl ?_
    refine RL.lenStr rfl gb_tstr9 rfl rfl ?_
    refine RL.bin rfl rfl rfl BinV.lss rfl ?_
    refine RL.pickT rfl rfl rfl rfl ?_
    refine RL.move rfl rfl rfl ?_
    refine RL.part (fun h2 => ?_) (fun h2 => ?_)
    · skip
      have hbl : b < tx.length := by have := of_decide_eq_true h2; omega
      refine RL.move rfl rfl rfl ?_
      refine RL.move rfl rfl rfl ?_
      refine RL.indexS rfl gb_tstr9 rfl rfl (by omega) (List.getElem?_eq_getElem (show ((b : Nat) : Int).toNat < tx.length by omega)) rfl ?_
      refine RL.bin rfl rfl rfl BinV.geq rfl ?_
      refine RL.pickT rfl rfl rfl rfl ?_
      refine RL.move rfl rfl rfl ?_
      refine RL.part (fun h3 => ?_) (fun h3 => ?_)
      · skip
        have hlo := of_decide_eq_true h3
        refine RL.move rfl rfl rfl ?_
        refine RL.move rfl rfl rfl ?_
        refine RL.indexS rfl gb_tstr9 rfl rfl (by omega) (List.getElem?_eq_getElem (show ((b : Nat) : Int).toNat < tx.length by omega)) rfl ?_
        refine RL.bin rfl rfl rfl BinV.lss rfl ?_
        refine RL.pickT rfl rfl rfl rfl ?_
        refine RL.nil ?_
        refine NX.seq ?_
        refine TR.cond rfl (fun h4 => ?_) (fun h4 => ?_)
        · skip
          have hhi := of_decide_eq_true h4
          have hn : ¬ IsB tx b := fun h => by
            rcases h with h | h | h
            · omega
            · omega
            · simp only [Int.toNat_natCast] at hlo hhi
              exact h ⟨tx[b], List.getElem?_eq_getElem hbl, by omega, by omega⟩
          refine TR.skip ?_
          refine NX.seq ?_
          refine TR.block ?_
          refine TR.region ?_
          refine RL.move rfl rfl rfl ?_
          refine RL.bin rfl rfl rfl (BinV.sub _ rfl (by omega) (by omega)) rfl ?_
          refine RL.assign rfl rfl rfl ?_
          refine RL.nil ?_
          refine NX.off ?_
          refine NX.roundP (b - 1) ⟨by omega, fun q h1 h2 => by
            have h3 := hb.2 q h1 h2
            rcases Nat.lt_or_ge q b with h | h
            · omega
            · exact absurd (by rw [show b = q from by omega]; exact h1) hn⟩ (by omega) ⟨rfl, congrArg (fun z => some (I z)) (by omega), trivial⟩ (fun w hw => (hw.to 0 [] 0 [] rfl))
        · skip
          have hB : IsB tx b := .inr (.inr (fun ⟨c, hc, hc1, hc2⟩ => by
            rw [List.getElem?_eq_getElem hbl] at hc
            have hc := Option.some.inj hc
            subst hc
            have := of_decide_eq_false h4
            simp only [Int.toNat_natCast] at this
            omega))
          refine TR.exit ?_
          refine NX.exitThen ?_
          refine NX.exitThen ?_
          refine NX.exitHere ?_
          refine NX.seq ?_
          refine TR.seq ?_
          refine TR.region ?_
          refine RL.move rfl rfl rfl ?_
          refine RL.assign rfl rfl rfl ?_
          refine RL.nil ?_
          refine NX.seq ?_
          refine TR.ret ?_
          exact NX.ret1 (⟨b, hb.1, hB, hb.2⟩ : {b : Nat // b ≤ a ∧ IsB tx b ∧ ∀ q, IsB tx q → q ≤ a → q ≤ b}) rfl rfl rfl (fun w hw => hw)
      · skip
        have hB : IsB tx b := .inr (.inr (fun ⟨c, hc, hc1, hc2⟩ => by
          rw [List.getElem?_eq_getElem hbl] at hc
          have hc := Option.some.inj hc
          subst hc
          have := of_decide_eq_false h3
          simp only [Int.toNat_natCast] at this
          omega))
        refine RL.skip rfl rfl rfl ?_
        refine RL.skip rfl rfl rfl ?_
        refine RL.skip rfl rfl rfl ?_
        refine RL.skip rfl rfl rfl ?_
        refine RL.pickF rfl rfl rfl rfl ?_
        refine RL.nil ?_
        refine NX.seq ?_
        refine TR.condF rfl ?_
        refine TR.exit ?_
        refine NX.exitThen ?_
        refine NX.exitThen ?_
        refine NX.exitHere ?_
        refine NX.seq ?_
        refine TR.seq ?_
        refine TR.region ?_
        refine RL.move rfl rfl rfl ?_
        refine RL.assign rfl rfl rfl ?_
        refine RL.nil ?_
        refine NX.seq ?_
        refine TR.ret ?_
        exact NX.ret1 (⟨b, hb.1, hB, hb.2⟩ : {b : Nat // b ≤ a ∧ IsB tx b ∧ ∀ q, IsB tx q → q ≤ a → q ≤ b}) rfl rfl rfl (fun w hw => hw)
    · skip
      have hB : IsB tx b := .inr (.inl (by have := of_decide_eq_false h2; omega))
      refine RL.skip rfl rfl rfl ?_
      refine RL.skip rfl rfl rfl ?_
      refine RL.skip rfl rfl rfl ?_
      refine RL.skip rfl rfl rfl ?_
      refine RL.pickF rfl rfl rfl rfl ?_
      refine RL.move rfl rfl rfl ?_
      refine RL.skip rfl rfl rfl ?_
      refine RL.skip rfl rfl rfl ?_
      refine RL.skip rfl rfl rfl ?_
      refine RL.skip rfl rfl rfl ?_
      refine RL.pickF rfl rfl rfl rfl ?_
      refine RL.nil ?_
      refine NX.seq ?_
      refine TR.condF rfl ?_
      refine TR.exit ?_
      refine NX.exitThen ?_
      refine NX.exitThen ?_
      refine NX.exitHere ?_
      refine NX.seq ?_
      refine TR.seq ?_
      refine TR.region ?_
      refine RL.move rfl rfl rfl ?_
      refine RL.assign rfl rfl rfl ?_
      refine RL.nil ?_
      refine NX.seq ?_
      refine TR.ret ?_
      exact NX.ret1 (⟨b, hb.1, hB, hb.2⟩ : {b : Nat // b ≤ a ∧ IsB tx b ∧ ∀ q, IsB tx q → q ≤ a → q ≤ b}) rfl rfl rfl (fun w hw => hw)
  · skip
    have hB : IsB tx b := .inl (by have := of_decide_eq_false h1; omega)
    refine RL.skip rfl rfl rfl ?_
    refine RL.skip rfl rfl rfl ?_
    refine RL.skip rfl rfl rfl ?_
    refine RL.skip rfl rfl rfl ?_
    refine RL.pickF rfl rfl rfl rfl ?_
    refine RL.move rfl rfl rfl ?_
    refine RL.skip rfl rfl rfl ?_
    refine RL.skip rfl rfl rfl ?_
    refine RL.skip rfl rfl rfl ?_
    refine RL.skip rfl rfl rfl ?_
    refine RL.pickF rfl rfl rfl rfl ?_
    refine RL.move rfl rfl rfl ?_
    refine RL.skip rfl rfl rfl ?_
    refine RL.skip rfl rfl rfl ?_
    refine RL.skip rfl rfl rfl ?_
    refine RL.skip rfl rfl rfl ?_
    refine RL.pickF rfl rfl rfl rfl ?_
    refine RL.nil ?_
    refine NX.seq ?_
    refine TR.condF rfl ?_
    refine TR.exit ?_
    refine NX.exitThen ?_
    refine NX.exitThen ?_
    refine NX.exitHere ?_
    refine NX.seq ?_
    refine TR.seq ?_
    refine TR.region ?_
    refine RL.move rfl rfl rfl ?_
    refine RL.assign rfl rfl rfl ?_
    refine RL.nil ?_
    refine NX.seq ?_
    refine TR.ret ?_
    exact NX.ret1 (⟨b, hb.1, hB, hb.2⟩ : {b : Nat // b ≤ a ∧ IsB tx b ∧ ∀ q, IsB tx q → q ≤ a → q ≤ b}) rfl rfl rfl (fun w hw => hw)
def wordsE : List (List UInt8) := [[], [120], [97, 98], [32], [10], [108, 101, 116], [48], [43], [195, 169], [240, 157, 132, 158, 121], [40], [34], [97, 95, 49]]
theorem wordsE_len : wordsE.length = 13 := by kernel_rfl
theorem wordsE_short {k : Nat} (h : k < wordsE.length) : wordsE[k].length ≤ 5 := short_all (by kernel_rfl) h
theorem some_w {tx : List UInt8} {xs : List Int} {oa : Option Addr} {ca : Nat} {M : List HP} {F : List Fact} (ha : ArrF oa (ints xs) ∈ F) (hxs : IntsOk xs) (hl : tx.length ≤ 1000000) : Ctr Tryz.prog 26 [S tx, .slice oa xs.length ca, .bool true] M F {z : EdX // EdsOk tx z.es} (fun z => .slice z.1.oa z.1.es.length z.1.c) (fun _ => M) (fun z => ArrF z.1.oa (edC z.1.es) :: F) := by
  refine Ctr.body Tryz.func26 rfl rfl ?_
  refine TR.seq ?_
  refine TR.region ?_
  refine RL.assign rfl rfl rfl ?_
  refine RL.nil ?_
  refine NX.seq ?_
  refine TR.seq ?_
  refine TR.region ?_
  refine RL.buildSlice rfl rfl (gb_bs83_13_0_1_2_3_4_5_6_7_8_9_10_11_12 _ _ _ _ _ _ _ _ _ _ _ _ _) rfl (fun wb => ?_)
  refine RL.weak (fun w hw => (show St w (Box _ _ (strsV wordsE) :: _) _ from hw).boxKeep) ?_
  refine RL.assign rfl rfl rfl ?_
  refine RL.nil ?_
  refine NX.seq ?_
  refine TR.seq ?_
  refine TR.region ?_
  refine RL.assign rfl rfl rfl ?_
  refine RL.weak (fun w hw => OwnSl.nil_new 90 3 hw) ?_
  refine RL.nil ?_
  refine NX.seq ?_
  refine TR.seq ?_
  refine TR.region ?_
  refine RL.assign rfl rfl rfl ?_
  refine RL.nil ?_
  refine NX.seq ?_
  refine TR.seq ?_
  refine TR.seq ?_
  refine TR.region ?_
  refine RL.assign rfl rfl rfl ?_
  refine RL.nil ?_
  refine NX.seq ?_
  refine TR.block ?_
  refine TR.loopP (ι := SmX) (fun x => x.es.length = x.i ∧ x.i ≤ 5 ∧ x.q ≤ tx.length ∧ SoundTo tx.length x.es x.q ∧ (∀ e, e ∈ x.es → Grow 5 e) ∧ (true = true → IsB tx x.q)) (fun x => [(0, S tx), (1, .slice oa xs.length ca), (2, .bool true), (7, .slice (some ⟨wb, 0, none⟩) 13 13), (8, .slice x.oa x.es.length x.c), (9, I (x.q : Nat)), (10, I (x.i : Nat))]) (fun x => OwnSl 90 3 x.oa x.es.length x.c (edC x.es) :: M) (fun x => CellsF wb 0 (strsV wordsE) :: F) (fun x => 5 - x.i) ⟨0, 0, [], none, 0⟩ ⟨rfl, Nat.zero_le _, Nat.zero_le _, SoundTo.nil _, fun e he => absurd he (by simp), fun _ => .inl rfl⟩ ⟨rfl, rfl, rfl, rfl, rfl, rfl, rfl, trivial⟩ (fun w hw => (hw.to 1 [0] 1 [0] rfl)) (fun x hx => ?_)
  refine TR.seq ?_
  refine TR.seq ?_
  refine TR.region ?_
  refine RL.move rfl rfl rfl ?_
  refine RL.move rfl rfl rfl ?_
  refine RL.call rfl rfl Tryz.call48 rfl (pick_spec (.tail _ ha) hxs (by decide)) (fun r => ?_)
  refine RL.bin rfl rfl rfl BinV.lss rfl ?_
  refine RL.nil ?_
  refine NX.seq ?_
  refine TR.cond rfl (fun h1 => ?_) (fun h1 => ?_)
  · skip
    have hi1 := of_decide_eq_true h1
    have hr := r.2
    have hi4 : x.i < 5 := by omega
    have hxe := hx.1
    have hql := hx.2.2.1
    refine TR.skip ?_
    refine NX.seq ?_
    refine TR.seq ?_
    refine TR.block ?_
    refine TR.seq ?_
    refine TR.region ?_
    refine RL.move rfl rfl rfl ?_
    refine RL.move rfl rfl rfl ?_
    refine RL.bin rfl rfl rfl (BinV.mul _ rfl (by omega) (by omega)) rfl ?_
    refine RL.bin rfl rfl rfl (BinV.add _ rfl (by omega) (by omega)) rfl ?_
    refine RL.call rfl rfl Tryz.call48 rfl (pick_spec (.tail _ ha) hxs (by decide)) (fun rn => ?_)
    obtain ⟨rnv, rnh⟩ := rn
    obtain ⟨n, rfl⟩ : ∃ n : Nat, rnv = n := ⟨rnv.toNat, by omega⟩
    dsimp only
    refine RL.assign rfl rfl rfl ?_
    refine RL.nil ?_
    refine NX.seq ?_
    refine TR.seq ?_
    refine TR.region ?_
    refine RL.move rfl rfl rfl ?_
    refine RL.move rfl rfl rfl ?_
    refine RL.move rfl rfl rfl ?_
    refine RL.lenStr rfl gb_tstr9 rfl rfl ?_
    refine RL.move rfl rfl rfl ?_
    refine RL.bin rfl rfl rfl (BinV.sub (((tx.length - x.q) : Nat) : Int) (by omega) (by omega) (by omega)) rfl ?_
    refine RL.bin rfl rfl rfl (BinV.add (((tx.length - x.q) + 1 : Nat) : Int) (by omega) (by omega) (by omega)) rfl ?_
    refine RL.bin rfl rfl rfl (BinV.remK (a := n) (b := (tx.length - x.q) + 1) (by omega)) rfl ?_
    refine RL.bin rfl rfl rfl (BinV.add ((x.q + n % ((tx.length - x.q) + 1) : Nat) : Int) (by omega) (by have := Nat.mod_lt n (show 0 < (tx.length - x.q) + 1 by omega); omega) (by have := Nat.mod_lt n (show 0 < (tx.length - x.q) + 1 by omega); omega)) rfl ?_
    have hm := Nat.mod_lt n (show 0 < (tx.length - x.q) + 1 by omega)
    generalize hf0 : n % ((tx.length - x.q) + 1) = f0 at hm ⊢
    refine RL.assign rfl rfl rfl ?_
    refine RL.nil ?_
    refine NX.seq ?_
    refine TR.seq ?_
    refine TR.seq ?_
    obtain ⟨f, hf, hfq, hfl⟩ : ∃ f : Nat, f = x.q + f0 ∧ x.q ≤ f ∧ f ≤ tx.length := ⟨_, rfl, by omega, by omega⟩
    rw [← hf]
    refine TR.region ?_
    refine RL.move rfl rfl rfl ?_
    refine RL.bin rfl rfl rfl (BinV.quo (by decide) ((n / 8 : Nat) : Int) (by rw [Int.tdiv_eq_ediv_of_nonneg (by omega)]; omega) (by omega) (by omega)) rfl ?_
    refine RL.bin rfl rfl rfl (BinV.remK (a := n / 8) (b := 2) (by decide)) rfl ?_
    refine RL.bin rfl rfl rfl BinV.eql rfl ?_
    refine RL.nil ?_
    refine NX.seq ?_
    refine TR.cond rfl (fun h2 => ?_) (fun h2 => ?_)
    · skip
      skip
      refine TR.region ?_
      refine RL.move rfl rfl rfl ?_
      refine RL.move rfl rfl rfl ?_
      refine RL.move rfl rfl rfl ?_
      refine RL.lenStr rfl gb_tstr9 rfl rfl ?_
      refine RL.move rfl rfl rfl ?_
      refine RL.bin rfl rfl rfl (BinV.sub (((tx.length - x.q) : Nat) : Int) (by omega) (by omega) (by omega)) rfl ?_
      refine RL.min rfl rfl rfl rfl ?_
      refine RL.bin rfl rfl rfl (BinV.add ((min (tx.length - x.q) 6 + 1 : Nat) : Int) (by omega) (by omega) (by omega)) rfl ?_
      refine RL.bin rfl rfl rfl (BinV.remK (a := n) (b := min (tx.length - x.q) 6 + 1) (by omega)) rfl ?_
      have hm1 := Nat.mod_lt n (show 0 < min (tx.length - x.q) 6 + 1 by omega)
      generalize hf1 : n % (min (tx.length - x.q) 6 + 1) = f1 at hm1 ⊢
      refine RL.bin rfl rfl rfl (BinV.add ((x.q + f1 : Nat) : Int) (by omega) (by omega) (by omega)) rfl ?_
      refine RL.assign rfl rfl rfl ?_
      refine RL.nil ?_
      refine NX.seq ?_
      refine TR.seq ?_
      obtain ⟨f, hf, hfq, hfl⟩ : ∃ f : Nat, f = x.q + f1 ∧ x.q ≤ f ∧ f ≤ tx.length := ⟨_, rfl, by omega, by omega⟩
      rw [← hf]
      refine TR.region ?_
      refine RL.move rfl rfl rfl ?_
      refine RL.move rfl rfl rfl ?_
      refine RL.move rfl rfl rfl ?_
      refine RL.bin rfl rfl rfl (BinV.mul _ rfl (by omega) (by omega)) rfl ?_
      refine RL.bin rfl rfl rfl (BinV.add _ rfl (by omega) (by omega)) rfl ?_
      refine RL.move rfl rfl rfl ?_
      refine RL.lenStr rfl gb_tstr9 rfl rfl ?_
      refine RL.move rfl rfl rfl ?_
      refine RL.bin rfl rfl rfl (BinV.sub ((tx.length - f : Nat) : Int) (by omega) (by omega) (by omega)) rfl ?_
      refine RL.min rfl rfl rfl rfl ?_
      refine RL.bin rfl rfl rfl (BinV.add ((min (tx.length - f) 7 + 1 : Nat) : Int) (by omega) (by omega) (by omega)) rfl ?_
      refine RL.call rfl rfl Tryz.call48 rfl (pick_spec (m := ((min (tx.length - f) 7 + 1 : Nat) : Int)) (.tail _ ha) hxs (by omega)) (fun rt => ?_)
      obtain ⟨rtv, rth⟩ := rt
      obtain ⟨t, rfl⟩ : ∃ t : Nat, rtv = t := ⟨rtv.toNat, by omega⟩
      dsimp only
      have hft0 : f + t ≤ tx.length := by omega
      refine RL.bin rfl rfl rfl (BinV.add ((f + t : Nat) : Int) (by omega) (by omega) (by omega)) rfl ?_
      refine RL.assign rfl rfl rfl ?_
      refine RL.nil ?_
      refine NX.seq ?_
      refine TR.seq ?_
      refine TR.seq ?_
      refine TR.region ?_
      refine RL.move rfl rfl rfl ?_
      refine RL.nil ?_
      refine NX.seq ?_
      refine TR.condT rfl ?_
      refine TR.seq ?_
      refine TR.region ?_
      refine RL.move rfl rfl rfl ?_
      refine RL.move rfl rfl rfl ?_
      refine RL.call rfl rfl Tryz.call49 rfl (boundary_spec (a := f) (by omega)) (fun b1 => ?_)
      refine RL.assign rfl rfl rfl ?_
      refine RL.nil ?_
      refine NX.seq ?_
      refine TR.region ?_
      refine RL.move rfl rfl rfl ?_
      refine RL.move rfl rfl rfl ?_
      refine RL.call rfl rfl Tryz.call49 rfl (boundary_spec (a := f + t) (by omega)) (fun b2 => ?_)
      refine RL.assign rfl rfl rfl ?_
      refine RL.nil ?_
      refine NX.seq ?_
      refine TR.seq ?_
      have hqf : x.q ≤ b1.1 := b1.2.2.2 _ (hx.2.2.2.2.2 rfl) hfq
      have hft : b1.1 ≤ b2.1 := b2.2.2.2 _ b1.2.2.1 (by have := b1.2.1; omega)
      have htl : b2.1 ≤ tx.length := by have := b2.2.1; omega
      refine TR.region ?_
      refine RL.move rfl rfl rfl ?_
      refine RL.move rfl rfl rfl ?_
      refine RL.move rfl rfl rfl ?_
      refine RL.bin rfl rfl rfl (BinV.mul _ rfl (by omega) (by omega)) rfl ?_
      refine RL.bin rfl rfl rfl (BinV.add _ rfl (by omega) (by omega)) rfl ?_
      refine RL.move rfl rfl rfl ?_
      refine RL.lenSlice rfl gb_tl83 rfl rfl ?_
      refine RL.call rfl rfl Tryz.call48 rfl (pick_spec (.tail _ ha) hxs (by decide)) (fun rk => ?_)
      obtain ⟨rkv, rkh⟩ := rk
      obtain ⟨k, rfl⟩ : ∃ k : Nat, rkv = k := ⟨rkv.toNat, by omega⟩
      dsimp only
      have hk : k < wordsE.length := by rw [wordsE_len]; omega
      refine RL.indexAddr rfl gb_tl83 gb_tz9 rfl rfl (by omega) (by omega) rfl ?_
      refine RL.loadF rfl rfl (fun w K hF => run_loadCell1 (j := ((k : Nat) : Int).toNat * 1) (v := S wordsE[k]) (hF (CellsF wb 0 (strsV wordsE)) (.head _)) gb_ts9 (strs_get hk)) rfl ?_
      refine RL.assign rfl rfl rfl ?_
      refine RL.nil ?_
      refine NX.seq ?_
      refine TR.seq ?_
      refine TR.seq ?_
      refine TR.region ?_
      refine RL.move rfl rfl rfl ?_
      refine RL.bin rfl rfl rfl (BinV.quo (by decide) ((n / 16 : Nat) : Int) (by rw [Int.tdiv_eq_ediv_of_nonneg (by omega)]; omega) (by omega) (by omega)) rfl ?_
      refine RL.bin rfl rfl rfl (BinV.remK (a := n / 16) (b := 5) (by decide)) rfl ?_
      refine RL.bin rfl rfl rfl BinV.eql rfl ?_
      refine RL.nil ?_
      refine NX.seq ?_
      refine TR.cond rfl (fun h3 => ?_) (fun h3 => ?_)
      · skip
        refine TR.region ?_
        refine RL.move rfl rfl rfl ?_
        refine RL.move rfl rfl rfl ?_
        refine RL.move rfl rfl rfl ?_
        refine RL.sliceS rfl gb_tstr9 rfl rfl rfl (by omega) (by omega) (by omega) rfl ?_
        refine RL.assign rfl rfl rfl ?_
        refine RL.nil ?_
        refine NX.seq ?_
        refine TR.seq ?_
        refine TR.region ?_
        refine RL.move rfl rfl rfl ?_
        refine RL.move rfl rfl rfl ?_
        refine RL.move rfl rfl rfl ?_
        refine RL.move rfl rfl rfl ?_
        refine RL.build rfl rfl (gb_bv90_0_1_2 _ _ _) rfl ?_
        refine RL.buildSlice rfl rfl (gb_bs30_1_0 _ _ _) rfl (fun b4 => ?_)
        refine RL.ofGV rfl rfl (GV.append (j := 1) gb_tl30 gb_ni30 gb_te90 rfl rfl rfl (src_box (i := 0) rfl rfl rfl) (by omega) (by omega)) (fun y => ?_)
        refine RL.assign rfl rfl rfl ?_
        refine RL.nil ?_
        refine NX.seq ?_
        refine TR.region ?_
        refine RL.move rfl rfl rfl ?_
        refine RL.assign rfl rfl rfl ?_
        refine RL.nil ?_
        refine NX.off ?_
        refine NX.seq ?_
        refine TR.region ?_
        refine RL.move rfl rfl rfl ?_
        refine RL.bin rfl rfl rfl (BinV.add _ rfl (by omega) (by omega)) rfl ?_
        refine RL.assign rfl rfl rfl ?_
        refine RL.nil ?_
        refine NX.roundP ⟨x.i + 1, b2.1, x.es ++ [⟨((b1.1 : Nat) : Int), ((b2.1 : Nat) : Int), ((tx.take ((b2.1 : Nat) : Int).toNat).drop ((b1.1 : Nat) : Int).toNat)⟩], y.1, y.2⟩ ⟨by rw [List.length_append]; show x.es.length + 1 = x.i + 1; omega, by show x.i + 1 ≤ 5; omega, htl, sm_step hx.2.2.2.1 hqf hft htl, mem_snoc_all hx.2.2.2.2.1 (by show (((tx.take ((b2.1 : Nat) : Int).toNat).drop ((b1.1 : Nat) : Int).toNat).length : Int) ≤ ((b2.1 : Nat) : Int) - ((b1.1 : Nat) : Int) + (5 : Nat); have := cut_len (l := tx) hft htl; omega), fun _ => b2.2.2.1⟩ (by show 5 - (x.i + 1) < 5 - x.i; omega) ⟨rfl, rfl, rfl, rfl, ?_, ?_, rfl, trivial⟩ (fun w hw => ?_)
        · show some (Value.slice y.1 (x.es.length + 1) y.2) = some (Value.slice y.1 (x.es ++ [_]).length y.2)
          rw [List.length_append]; rfl
        · rfl
        · have h9 := (hw.to 2 [1] 1 [0] rfl)
          show St w (OwnSl 90 3 y.1 (x.es ++ [_]).length y.2 (edC (x.es ++ [_])) :: M) _
          rw [List.length_append, edC_append]
          exact h9
      · skip
        refine TR.skip ?_
        refine NX.seq ?_
        refine TR.seq ?_
        refine TR.region ?_
        refine RL.move rfl rfl rfl ?_
        refine RL.move rfl rfl rfl ?_
        refine RL.move rfl rfl rfl ?_
        refine RL.move rfl rfl rfl ?_
        refine RL.build rfl rfl (gb_bv90_0_1_2 _ _ _) rfl ?_
        refine RL.buildSlice rfl rfl (gb_bs30_1_0 _ _ _) rfl (fun b6 => ?_)
        refine RL.ofGV rfl rfl (GV.append (j := 1) gb_tl30 gb_ni30 gb_te90 rfl rfl rfl (src_box (i := 0) rfl rfl rfl) (by omega) (by omega)) (fun y => ?_)
        refine RL.assign rfl rfl rfl ?_
        refine RL.nil ?_
        refine NX.seq ?_
        refine TR.region ?_
        refine RL.move rfl rfl rfl ?_
        refine RL.assign rfl rfl rfl ?_
        refine RL.nil ?_
        refine NX.off ?_
        refine NX.seq ?_
        refine TR.region ?_
        refine RL.move rfl rfl rfl ?_
        refine RL.bin rfl rfl rfl (BinV.add _ rfl (by omega) (by omega)) rfl ?_
        refine RL.assign rfl rfl rfl ?_
        refine RL.nil ?_
        refine NX.roundP ⟨x.i + 1, b2.1, x.es ++ [⟨((b1.1 : Nat) : Int), ((b2.1 : Nat) : Int), wordsE[k]⟩], y.1, y.2⟩ ⟨by rw [List.length_append]; show x.es.length + 1 = x.i + 1; omega, by show x.i + 1 ≤ 5; omega, htl, sm_step hx.2.2.2.1 hqf hft htl, mem_snoc_all hx.2.2.2.2.1 (by show (wordsE[k].length : Int) ≤ ((b2.1 : Nat) : Int) - ((b1.1 : Nat) : Int) + (5 : Nat); have := wordsE_short hk; omega), fun _ => b2.2.2.1⟩ (by show 5 - (x.i + 1) < 5 - x.i; omega) ⟨rfl, rfl, rfl, rfl, ?_, ?_, rfl, trivial⟩ (fun w hw => ?_)
        · show some (Value.slice y.1 (x.es.length + 1) y.2) = some (Value.slice y.1 (x.es ++ [_]).length y.2)
          rw [List.length_append]; rfl
        · rfl
        · have h9 := (hw.to 2 [1] 1 [0] rfl)
          show St w (OwnSl 90 3 y.1 (x.es ++ [_]).length y.2 (edC (x.es ++ [_])) :: M) _
          rw [List.length_append, edC_append]
          exact h9
    · skip
      refine TR.skip ?_
      refine NX.seq ?_
      refine TR.seq ?_
      skip
      refine TR.region ?_
      refine RL.move rfl rfl rfl ?_
      refine RL.move rfl rfl rfl ?_
      refine RL.move rfl rfl rfl ?_
      refine RL.bin rfl rfl rfl (BinV.mul _ rfl (by omega) (by omega)) rfl ?_
      refine RL.bin rfl rfl rfl (BinV.add _ rfl (by omega) (by omega)) rfl ?_
      refine RL.move rfl rfl rfl ?_
      refine RL.lenStr rfl gb_tstr9 rfl rfl ?_
      refine RL.move rfl rfl rfl ?_
      refine RL.bin rfl rfl rfl (BinV.sub ((tx.length - f : Nat) : Int) (by omega) (by omega) (by omega)) rfl ?_
      refine RL.min rfl rfl rfl rfl ?_
      refine RL.bin rfl rfl rfl (BinV.add ((min (tx.length - f) 7 + 1 : Nat) : Int) (by omega) (by omega) (by omega)) rfl ?_
      refine RL.call rfl rfl Tryz.call48 rfl (pick_spec (m := ((min (tx.length - f) 7 + 1 : Nat) : Int)) (.tail _ ha) hxs (by omega)) (fun rt => ?_)
      obtain ⟨rtv, rth⟩ := rt
      obtain ⟨t, rfl⟩ : ∃ t : Nat, rtv = t := ⟨rtv.toNat, by omega⟩
      dsimp only
      have hft0 : f + t ≤ tx.length := by omega
      refine RL.bin rfl rfl rfl (BinV.add ((f + t : Nat) : Int) (by omega) (by omega) (by omega)) rfl ?_
      refine RL.assign rfl rfl rfl ?_
      refine RL.nil ?_
      refine NX.seq ?_
      refine TR.seq ?_
      refine TR.seq ?_
      refine TR.region ?_
      refine RL.move rfl rfl rfl ?_
      refine RL.nil ?_
      refine NX.seq ?_
      refine TR.condT rfl ?_
      refine TR.seq ?_
      refine TR.region ?_
      refine RL.move rfl rfl rfl ?_
      refine RL.move rfl rfl rfl ?_
      refine RL.call rfl rfl Tryz.call49 rfl (boundary_spec (a := f) (by omega)) (fun b1 => ?_)
      refine RL.assign rfl rfl rfl ?_
      refine RL.nil ?_
      refine NX.seq ?_
      refine TR.region ?_
      refine RL.move rfl rfl rfl ?_
      refine RL.move rfl rfl rfl ?_
      refine RL.call rfl rfl Tryz.call49 rfl (boundary_spec (a := f + t) (by omega)) (fun b2 => ?_)
      refine RL.assign rfl rfl rfl ?_
      refine RL.nil ?_
      refine NX.seq ?_
      refine TR.seq ?_
      have hqf : x.q ≤ b1.1 := b1.2.2.2 _ (hx.2.2.2.2.2 rfl) hfq
      have hft : b1.1 ≤ b2.1 := b2.2.2.2 _ b1.2.2.1 (by have := b1.2.1; omega)
      have htl : b2.1 ≤ tx.length := by have := b2.2.1; omega
      refine TR.region ?_
      refine RL.move rfl rfl rfl ?_
      refine RL.move rfl rfl rfl ?_
      refine RL.move rfl rfl rfl ?_
      refine RL.bin rfl rfl rfl (BinV.mul _ rfl (by omega) (by omega)) rfl ?_
      refine RL.bin rfl rfl rfl (BinV.add _ rfl (by omega) (by omega)) rfl ?_
      refine RL.move rfl rfl rfl ?_
      refine RL.lenSlice rfl gb_tl83 rfl rfl ?_
      refine RL.call rfl rfl Tryz.call48 rfl (pick_spec (.tail _ ha) hxs (by decide)) (fun rk => ?_)
      obtain ⟨rkv, rkh⟩ := rk
      obtain ⟨k, rfl⟩ : ∃ k : Nat, rkv = k := ⟨rkv.toNat, by omega⟩
      dsimp only
      have hk : k < wordsE.length := by rw [wordsE_len]; omega
      refine RL.indexAddr rfl gb_tl83 gb_tz9 rfl rfl (by omega) (by omega) rfl ?_
      refine RL.loadF rfl rfl (fun w K hF => run_loadCell1 (j := ((k : Nat) : Int).toNat * 1) (v := S wordsE[k]) (hF (CellsF wb 0 (strsV wordsE)) (.head _)) gb_ts9 (strs_get hk)) rfl ?_
      refine RL.assign rfl rfl rfl ?_
      refine RL.nil ?_
      refine NX.seq ?_
      refine TR.seq ?_
      refine TR.seq ?_
      refine TR.region ?_
      refine RL.move rfl rfl rfl ?_
      refine RL.bin rfl rfl rfl (BinV.quo (by decide) ((n / 16 : Nat) : Int) (by rw [Int.tdiv_eq_ediv_of_nonneg (by omega)]; omega) (by omega) (by omega)) rfl ?_
      refine RL.bin rfl rfl rfl (BinV.remK (a := n / 16) (b := 5) (by decide)) rfl ?_
      refine RL.bin rfl rfl rfl BinV.eql rfl ?_
      refine RL.nil ?_
      refine NX.seq ?_
      refine TR.cond rfl (fun h8 => ?_) (fun h8 => ?_)
      · skip
        refine TR.region ?_
        refine RL.move rfl rfl rfl ?_
        refine RL.move rfl rfl rfl ?_
        refine RL.move rfl rfl rfl ?_
        refine RL.sliceS rfl gb_tstr9 rfl rfl rfl (by omega) (by omega) (by omega) rfl ?_
        refine RL.assign rfl rfl rfl ?_
        refine RL.nil ?_
        refine NX.seq ?_
        refine TR.seq ?_
        refine TR.region ?_
        refine RL.move rfl rfl rfl ?_
        refine RL.move rfl rfl rfl ?_
        refine RL.move rfl rfl rfl ?_
        refine RL.move rfl rfl rfl ?_
        refine RL.build rfl rfl (gb_bv90_0_1_2 _ _ _) rfl ?_
        refine RL.buildSlice rfl rfl (gb_bs30_1_0 _ _ _) rfl (fun b9 => ?_)
        refine RL.ofGV rfl rfl (GV.append (j := 1) gb_tl30 gb_ni30 gb_te90 rfl rfl rfl (src_box (i := 0) rfl rfl rfl) (by omega) (by omega)) (fun y => ?_)
        refine RL.assign rfl rfl rfl ?_
        refine RL.nil ?_
        refine NX.seq ?_
        refine TR.region ?_
        refine RL.move rfl rfl rfl ?_
        refine RL.assign rfl rfl rfl ?_
        refine RL.nil ?_
        refine NX.off ?_
        refine NX.seq ?_
        refine TR.region ?_
        refine RL.move rfl rfl rfl ?_
        refine RL.bin rfl rfl rfl (BinV.add _ rfl (by omega) (by omega)) rfl ?_
        refine RL.assign rfl rfl rfl ?_
        refine RL.nil ?_
        refine NX.roundP ⟨x.i + 1, b2.1, x.es ++ [⟨((b1.1 : Nat) : Int), ((b2.1 : Nat) : Int), ((tx.take ((b2.1 : Nat) : Int).toNat).drop ((b1.1 : Nat) : Int).toNat)⟩], y.1, y.2⟩ ⟨by rw [List.length_append]; show x.es.length + 1 = x.i + 1; omega, by show x.i + 1 ≤ 5; omega, htl, sm_step hx.2.2.2.1 hqf hft htl, mem_snoc_all hx.2.2.2.2.1 (by show (((tx.take ((b2.1 : Nat) : Int).toNat).drop ((b1.1 : Nat) : Int).toNat).length : Int) ≤ ((b2.1 : Nat) : Int) - ((b1.1 : Nat) : Int) + (5 : Nat); have := cut_len (l := tx) hft htl; omega), fun _ => b2.2.2.1⟩ (by show 5 - (x.i + 1) < 5 - x.i; omega) ⟨rfl, rfl, rfl, rfl, ?_, ?_, rfl, trivial⟩ (fun w hw => ?_)
        · show some (Value.slice y.1 (x.es.length + 1) y.2) = some (Value.slice y.1 (x.es ++ [_]).length y.2)
          rw [List.length_append]; rfl
        · rfl
        · have h9 := (hw.to 2 [1] 1 [0] rfl)
          show St w (OwnSl 90 3 y.1 (x.es ++ [_]).length y.2 (edC (x.es ++ [_])) :: M) _
          rw [List.length_append, edC_append]
          exact h9
      · skip
        refine TR.skip ?_
        refine NX.seq ?_
        refine TR.seq ?_
        refine TR.region ?_
        refine RL.move rfl rfl rfl ?_
        refine RL.move rfl rfl rfl ?_
        refine RL.move rfl rfl rfl ?_
        refine RL.move rfl rfl rfl ?_
        refine RL.build rfl rfl (gb_bv90_0_1_2 _ _ _) rfl ?_
        refine RL.buildSlice rfl rfl (gb_bs30_1_0 _ _ _) rfl (fun b11 => ?_)
        refine RL.ofGV rfl rfl (GV.append (j := 1) gb_tl30 gb_ni30 gb_te90 rfl rfl rfl (src_box (i := 0) rfl rfl rfl) (by omega) (by omega)) (fun y => ?_)
        refine RL.assign rfl rfl rfl ?_
        refine RL.nil ?_
        refine NX.seq ?_
        refine TR.region ?_
        refine RL.move rfl rfl rfl ?_
        refine RL.assign rfl rfl rfl ?_
        refine RL.nil ?_
        refine NX.off ?_
        refine NX.seq ?_
        refine TR.region ?_
        refine RL.move rfl rfl rfl ?_
        refine RL.bin rfl rfl rfl (BinV.add _ rfl (by omega) (by omega)) rfl ?_
        refine RL.assign rfl rfl rfl ?_
        refine RL.nil ?_
        refine NX.roundP ⟨x.i + 1, b2.1, x.es ++ [⟨((b1.1 : Nat) : Int), ((b2.1 : Nat) : Int), wordsE[k]⟩], y.1, y.2⟩ ⟨by rw [List.length_append]; show x.es.length + 1 = x.i + 1; omega, by show x.i + 1 ≤ 5; omega, htl, sm_step hx.2.2.2.1 hqf hft htl, mem_snoc_all hx.2.2.2.2.1 (by show (wordsE[k].length : Int) ≤ ((b2.1 : Nat) : Int) - ((b1.1 : Nat) : Int) + (5 : Nat); have := wordsE_short hk; omega), fun _ => b2.2.2.1⟩ (by show 5 - (x.i + 1) < 5 - x.i; omega) ⟨rfl, rfl, rfl, rfl, ?_, ?_, rfl, trivial⟩ (fun w hw => ?_)
        · show some (Value.slice y.1 (x.es.length + 1) y.2) = some (Value.slice y.1 (x.es ++ [_]).length y.2)
          rw [List.length_append]; rfl
        · rfl
        · have h9 := (hw.to 2 [1] 1 [0] rfl)
          show St w (OwnSl 90 3 y.1 (x.es ++ [_]).length y.2 (edC (x.es ++ [_])) :: M) _
          rw [List.length_append, edC_append]
          exact h9
  · skip
    refine TR.exit ?_
    refine NX.exitThen ?_
    refine NX.exitThen ?_
    refine NX.exitHere ?_
    refine NX.seq ?_
    refine TR.seq ?_
    refine TR.region ?_
    refine RL.move rfl rfl rfl ?_
    refine RL.assign rfl rfl rfl ?_
    refine RL.nil ?_
    refine NX.seq ?_
    refine TR.ret ?_
    exact NX.ret1 (⟨⟨x.es, x.oa, x.c⟩, by show x.es.length ≤ 5; have := hx.1; have := hx.2.1; omega, hx.2.2.2.1.sound, hx.2.2.2.2.1⟩ : {z : EdX // EdsOk tx z.es}) rfl rfl rfl (fun w hw => ((hw.to 1 [0] 1 [] rfl) : St w _ _).keepSl)
theorem gEdits_spec {tx : List UInt8} {xs : List Int} {oa : Option Addr} {ca : Nat} {M : List HP} {F : List Fact} (ha : ArrF oa (ints xs) ∈ F) (hxs : IntsOk xs) (hl : tx.length ≤ 1000000) : Ctr Tryz.prog 7 [S tx, .slice oa xs.length ca] M F {z : EdX // EdsOk tx z.es} (fun z => .slice z.1.oa z.1.es.length z.1.c) (fun _ => M) (fun z => ArrF z.1.oa (edC z.1.es) :: F) := by
  refine Ctr.body Tryz.func7 rfl rfl ?_
  refine TR.seq ?_
  refine TR.region ?_
  refine RL.assign rfl rfl rfl ?_
  refine RL.nil ?_
  refine NX.seq ?_
  refine TR.seq ?_
  refine TR.region ?_
  refine RL.move rfl rfl rfl ?_
  refine RL.move rfl rfl rfl ?_
  refine RL.call rfl rfl Tryz.call26 rfl (some_w ha hxs hl) (fun z => ?_)
  refine RL.assign rfl rfl rfl ?_
  refine RL.nil ?_
  refine NX.seq ?_
  refine TR.ret ?_
  exact NX.ret1 z rfl rfl rfl (fun w hw => hw)
def kwsT : List (List UInt8) := [[116, 121, 112, 101], [116, 97, 98, 108, 101], [107, 101, 121], [114, 101, 102], [116, 111], [99, 104, 101, 99, 107], [102, 117, 110], [112, 114, 111, 99], [108, 101, 116], [105, 110], [105, 102], [116, 104, 101, 110], [101, 108, 115, 101], [109, 97, 116, 99, 104], [105, 110, 115, 101, 114, 116], [100, 101, 108, 101, 116, 101], [97, 115], [119, 104, 101, 114, 101], [117, 112, 100, 97, 116, 101], [115, 101, 116], [119, 105, 116, 104], [97, 110, 100], [111, 114], [110, 111, 116], [116, 114, 117, 101], [102, 97, 108, 115, 101]]
theorem kwsT_len : kwsT.length = 26 := by kernel_rfl
theorem kwsT_short {k : Nat} (h : k < kwsT.length) : kwsT[k].length ≤ 6 := short_all (by kernel_rfl) h
theorem kwsT_spec {M : List HP} {F : List Fact} : Ctr Tryz.prog 43 [] M F Nat (fun b => .slice (some ⟨b, 0, none⟩) 26 26) (fun _ => M) (fun b => CellsF b 0 (strsV kwsT) :: F) := by
  refine Ctr.body Tryz.func43 rfl rfl ?_
  refine TR.seq ?_
  refine TR.region ?_
  refine RL.assign rfl rfl rfl ?_
  refine RL.nil ?_
  refine NX.seq ?_
  refine TR.seq ?_
  refine TR.region ?_
  refine RL.buildSlice rfl rfl (gb_bs83_26_0_1_2_3_4_5_6_7_8_9_10_11_12_13_14_15_16_17_18_19_20_21_22_23_24_25 _ _ _ _ _ _ _ _ _ _ _ _ _ _ _ _ _ _ _ _ _ _ _ _ _ _) rfl (fun tb => ?_)
  refine RL.assign rfl rfl rfl ?_
  refine RL.nil ?_
  refine NX.seq ?_
  refine TR.ret ?_
  exact NX.ret1 tb rfl rfl rfl (fun w hw => (show St w (Box _ _ (strsV kwsT) :: _) _ from hw).boxKeep)
def symsT : List (List UInt8) := [[61, 61], [33, 61], [60, 61], [60, 45], [45, 62], [43, 43], [60], [62], [61], [43], [45], [42], [40], [41], [123], [125], [91], [93], [44], [46], [58], [124], [59], [63]]
theorem symsT_len : symsT.length = 24 := by kernel_rfl
theorem symsT_short {k : Nat} (h : k < symsT.length) : symsT[k].length ≤ 2 := short_all (by kernel_rfl) h
theorem symsT_spec {M : List HP} {F : List Fact} : Ctr Tryz.prog 44 [] M F Nat (fun b => .slice (some ⟨b, 0, none⟩) 24 24) (fun _ => M) (fun b => CellsF b 0 (strsV symsT) :: F) := by
  refine Ctr.body Tryz.func44 rfl rfl ?_
  refine TR.seq ?_
  refine TR.region ?_
  refine RL.assign rfl rfl rfl ?_
  refine RL.nil ?_
  refine NX.seq ?_
  refine TR.seq ?_
  refine TR.region ?_
  refine RL.buildSlice rfl rfl (gb_bs83_24_0_1_2_3_4_5_6_7_8_9_10_11_12_13_14_15_16_17_18_19_20_21_22_23 _ _ _ _ _ _ _ _ _ _ _ _ _ _ _ _ _ _ _ _ _ _ _ _) rfl (fun tb => ?_)
  refine RL.assign rfl rfl rfl ?_
  refine RL.nil ?_
  refine NX.seq ?_
  refine TR.ret ?_
  exact NX.ret1 tb rfl rfl rfl (fun w hw => (show St w (Box _ _ (strsV symsT) :: _) _ from hw).boxKeep)
def partsT : List (List UInt8) := [[120], [121, 49], [97, 95, 98], [83, 111, 109, 101], [78, 48, 110, 101], [48], [52, 50], [49, 48, 57, 57, 53, 49, 49, 54, 50, 55, 55, 55, 54], [49, 48, 57, 57, 53, 49, 49, 54, 50, 55, 55, 55, 55], [34, 116, 34], [34, 195, 169, 32, 98, 34], [34, 111, 112, 101, 110], [35, 110, 111, 116, 101], [35], [33], [36], [195, 169], [38, 38], [95], [34], [10], [32], [9, 32], [97, 50, 51, 52, 53, 54, 55, 56, 57, 48, 49, 50, 51, 52, 53, 54, 55], [66, 50, 51, 52, 53, 54, 55, 56, 57, 48, 49, 50, 51, 52, 53, 54]]
theorem partsT_len : partsT.length = 25 := by kernel_rfl
theorem partsT_short {k : Nat} (h : k < partsT.length) : partsT[k].length ≤ 17 := short_all (by kernel_rfl) h
theorem part_spec {n : Int} {M : List HP} {F : List Fact} (hn : I64 n) : Ctr Tryz.prog 23 [I n] M F {l : List UInt8 // l.length ≤ 17} (fun l => S l.1) (fun _ => M) (fun _ => F) := by
  refine Ctr.body Tryz.func23 rfl rfl ?_
  refine TR.seq ?_
  refine TR.region ?_
  refine RL.assign rfl rfl rfl ?_
  refine RL.nil ?_
  refine NX.seq ?_
  refine TR.seq ?_
  refine TR.region ?_
  refine RL.buildSlice rfl rfl (gb_bs83_25_0_1_2_3_4_5_6_7_8_9_10_11_12_13_14_15_16_17_18_19_20_21_22_23_24 _ _ _ _ _ _ _ _ _ _ _ _ _ _ _ _ _ _ _ _ _ _ _ _ _) rfl (fun tb => ?_)
  refine RL.weak (fun w hw => (show St w (Box _ _ (strsV partsT) :: _) _ from hw).boxKeep) ?_
  refine RL.assign rfl rfl rfl ?_
  refine RL.nil ?_
  refine NX.seq ?_
  refine TR.seq ?_
  refine TR.region ?_
  refine RL.move rfl rfl rfl ?_
  refine RL.move rfl rfl rfl ?_
  refine RL.lenSlice rfl gb_tl83 rfl rfl ?_
  refine RL.call rfl rfl Tryz.call43 rfl (kwsT_spec) (fun k2_3 => ?_)
  refine RL.lenSlice rfl gb_tl83 rfl rfl ?_
  refine RL.bin rfl rfl rfl (BinV.add _ rfl (by omega) (by omega)) rfl ?_
  refine RL.call rfl rfl Tryz.call44 rfl (symsT_spec) (fun s2_6 => ?_)
  refine RL.lenSlice rfl gb_tl83 rfl rfl ?_
  refine RL.bin rfl rfl rfl (BinV.mul _ rfl (by omega) (by omega)) rfl ?_
  refine RL.bin rfl rfl rfl (BinV.add _ rfl (by omega) (by omega)) rfl ?_
  refine RL.call rfl rfl Tryz.call11 rfl (around_spec (by decide) hn.1 hn.2) (fun r => ?_)
  obtain ⟨rv, rh⟩ := r
  obtain ⟨k, rfl⟩ : ∃ k : Nat, rv = k := ⟨rv.toNat, by omega⟩
  dsimp only
  refine RL.assign rfl rfl rfl ?_
  refine RL.nil ?_
  refine NX.seq ?_
  refine TR.seq ?_
  refine TR.seq ?_
  refine TR.region ?_
  refine RL.move rfl rfl rfl ?_
  refine RL.move rfl rfl rfl ?_
  refine RL.lenSlice rfl gb_tl83 rfl rfl ?_
  refine RL.bin rfl rfl rfl BinV.lss rfl ?_
  refine RL.nil ?_
  refine NX.seq ?_
  refine TR.cond rfl (fun h1 => ?_) (fun h1 => ?_)
  · skip
    have hpl := partsT_len
    have hk : k < partsT.length := by have := of_decide_eq_true h1; omega
    refine TR.seq ?_
    refine TR.region ?_
    refine RL.move rfl rfl rfl ?_
    refine RL.move rfl rfl rfl ?_
    refine RL.indexAddr rfl gb_tl83 gb_tz9 rfl rfl (by omega) (by omega) rfl ?_
    refine RL.loadF rfl rfl (fun w K hF => run_loadCell1 (j := ((k : Nat) : Int).toNat * 1) (v := S partsT[k]) (hF (CellsF tb 0 (strsV partsT)) (.tail _ (.tail _ (.head _)))) gb_ts9 (strs_get hk)) rfl ?_
    refine RL.assign rfl rfl rfl ?_
    refine RL.nil ?_
    refine NX.seq ?_
    refine TR.ret ?_
    refine NX.retThen ?_
    exact NX.ret1 (⟨_, partsT_short hk⟩ : {l : List UInt8 // l.length ≤ 17}) rfl rfl rfl (fun w hw => (hw.to 0 [] 3 [] rfl))
  · skip
    have hk25 : 25 ≤ k := by have := of_decide_eq_false h1; have := partsT_len; omega
    refine TR.skip ?_
    refine NX.seq ?_
    refine TR.seq ?_
    refine TR.region ?_
    refine RL.move rfl rfl rfl ?_
    refine RL.move rfl rfl rfl ?_
    refine RL.lenSlice rfl gb_tl83 rfl rfl ?_
    refine RL.bin rfl rfl rfl (BinV.sub ((k - 25 : Nat) : Int) (by omega) (by omega) (by omega)) rfl ?_
    refine RL.assign rfl rfl rfl ?_
    refine RL.nil ?_
    refine NX.seq ?_
    refine TR.seq ?_
    refine TR.seq ?_
    refine TR.region ?_
    refine RL.move rfl rfl rfl ?_
    refine RL.call rfl rfl Tryz.call43 rfl (kwsT_spec) (fun k6_1 => ?_)
    refine RL.lenSlice rfl gb_tl83 rfl rfl ?_
    refine RL.bin rfl rfl rfl BinV.lss rfl ?_
    refine RL.nil ?_
    refine NX.seq ?_
    refine TR.cond rfl (fun h2 => ?_) (fun h2 => ?_)
    · skip
      have hpl := kwsT_len
      have hk : k - 25 < kwsT.length := by have := of_decide_eq_true h2; omega
      refine TR.seq ?_
      refine TR.region ?_
      refine RL.call rfl rfl Tryz.call43 rfl (kwsT_spec) (fun k7_0 => ?_)
      refine RL.move rfl rfl rfl ?_
      refine RL.indexAddr rfl gb_tl83 gb_tz9 rfl rfl (by omega) (by omega) rfl ?_
      refine RL.loadF rfl rfl (fun w K hF => run_loadCell1 (j := ((k - 25 : Nat) : Int).toNat * 1) (v := S kwsT[k - 25]) (hF (CellsF k7_0 0 (strsV kwsT)) (.head _)) gb_ts9 (strs_get hk)) rfl ?_
      refine RL.assign rfl rfl rfl ?_
      refine RL.nil ?_
      refine NX.seq ?_
      refine TR.ret ?_
      refine NX.retThen ?_
      exact NX.ret1 (⟨_, Nat.le_trans (kwsT_short hk) (by decide)⟩ : {l : List UInt8 // l.length ≤ 17}) rfl rfl rfl (fun w hw => (hw.to 0 [] 5 [] rfl))
    · skip
      have hpl := symsT_len
      have hk51 : 51 ≤ k := by have := of_decide_eq_false h2; have := kwsT_len; omega
      have hk : (k - 25 - 26) % 24 < symsT.length := by rw [symsT_len]; omega
      refine TR.skip ?_
      refine NX.seq ?_
      refine TR.seq ?_
      refine TR.region ?_
      refine RL.call rfl rfl Tryz.call44 rfl (symsT_spec) (fun s8_0 => ?_)
      refine RL.move rfl rfl rfl ?_
      refine RL.call rfl rfl Tryz.call43 rfl (kwsT_spec) (fun k8_2 => ?_)
      refine RL.lenSlice rfl gb_tl83 rfl rfl ?_
      refine RL.bin rfl rfl rfl (BinV.sub ((k - 25 - 26 : Nat) : Int) (by omega) (by omega) (by omega)) rfl ?_
      refine RL.call rfl rfl Tryz.call44 rfl (symsT_spec) (fun s8_5 => ?_)
      refine RL.lenSlice rfl gb_tl83 rfl rfl ?_
      refine RL.bin rfl rfl rfl (BinV.remK (a := k - 25 - 26) (b := 24) (by decide)) rfl ?_
      refine RL.indexAddr rfl gb_tl83 gb_tz9 rfl rfl (by omega) (by omega) rfl ?_
      refine RL.loadF rfl rfl (fun w K hF => run_loadCell1 (j := (((k - 25 - 26) % 24 : Nat) : Int).toNat * 1) (v := S symsT[(k - 25 - 26) % 24]) (hF (CellsF s8_0 0 (strsV symsT)) (.tail _ (.tail _ (.head _)))) gb_ts9 (strs_get hk)) rfl ?_
      refine RL.assign rfl rfl rfl ?_
      refine RL.nil ?_
      refine NX.seq ?_
      refine TR.ret ?_
      exact NX.ret1 (⟨_, Nat.le_trans (symsT_short hk) (by decide)⟩ : {l : List UInt8 // l.length ≤ 17}) rfl rfl rfl (fun w hw => (hw.to 0 [] 7 [] rfl))
theorem source_spec {xs : List Int} {oa : Option Addr} {ca : Nat} {M : List HP} {F : List Fact} (ha : ArrF oa (ints xs) ∈ F) (hxs : IntsOk xs) : Ctr Tryz.prog 5 [.slice oa xs.length ca] M F {l : List UInt8 // l.length ≤ 340} (fun l => S l.1) (fun _ => M) (fun _ => F) := by
  refine Ctr.body Tryz.func5 rfl rfl ?_
  refine TR.seq ?_
  refine TR.region ?_
  refine RL.assign rfl rfl rfl ?_
  refine RL.nil ?_
  refine NX.seq ?_
  refine TR.seq ?_
  refine TR.region ?_
  refine RL.assign rfl rfl rfl ?_
  refine RL.nil ?_
  refine NX.seq ?_
  refine TR.seq ?_
  refine TR.seq ?_
  refine TR.region ?_
  refine RL.assign rfl rfl rfl ?_
  refine RL.nil ?_
  refine NX.seq ?_
  refine TR.block ?_
  refine TR.loopP (ι := Nat × List UInt8) (fun x => x.1 ≤ 20 ∧ x.2.length ≤ 17 * x.1) (fun x => [(0, .slice oa xs.length ca), (3, S x.2), (4, I (x.1 : Nat))]) (fun x => M) (fun x => F) (fun x => 20 - x.1) (0, []) ⟨Nat.zero_le _, Nat.zero_le _⟩ ⟨rfl, rfl, rfl, trivial⟩ (fun w hw => (hw.to 0 [] 0 [] rfl)) (fun x hx => ?_)
  refine TR.seq ?_
  refine TR.seq ?_
  refine TR.region ?_
  refine RL.move rfl rfl rfl ?_
  refine RL.move rfl rfl rfl ?_
  refine RL.lenSlice rfl gb_tl22 rfl rfl ?_
  refine RL.bin rfl rfl rfl BinV.lss rfl ?_
  refine RL.move rfl rfl rfl ?_
  refine RL.part (fun h1 => ?_) (fun h1 => ?_)
  · skip
    have hk : x.1 < xs.length := by have := of_decide_eq_true h1; omega
    refine RL.move rfl rfl rfl ?_
    refine RL.bin rfl rfl rfl BinV.lss rfl ?_
    refine RL.pickT rfl rfl rfl rfl ?_
    refine RL.nil ?_
    refine NX.seq ?_
    refine TR.cond rfl (fun h2 => ?_) (fun h2 => ?_)
    · skip
      have hi := of_decide_eq_true h2
      refine TR.openP (open_arr (oa := oa) (xs := ints xs) ha (ints_ne (by omega))) (fun pq hpa => ?_)
      refine TR.skip ?_
      refine NX.seq ?_
      refine TR.seq ?_
      refine TR.block ?_
      refine TR.region ?_
      refine RL.move rfl rfl rfl ?_
      refine RL.move rfl rfl rfl ?_
      refine RL.move rfl rfl rfl ?_
      refine RL.indexAddr rfl gb_tl22 gb_tz3 (congrArg (fun a => some (Value.slice a _ _)) hpa) rfl (by omega) (by omega) rfl ?_
      refine RL.loadF rfl rfl (fun w K hF => run_loadCell1 (j := ((x.1 : Nat) : Int).toNat * 1) (v := I xs[x.1]) (hF (CellsF pq.1 pq.2 (ints xs)) (.head _)) gb_ts3 (by rw [Nat.mul_one, Int.toNat_natCast]; exact ints_get hk)) rfl ?_
      refine RL.call rfl rfl Tryz.call23 rfl (part_spec (hxs.2 _ (List.getElem_mem hk))) (fun l => ?_)
      refine RL.bin rfl rfl rfl (BinV.addS (by have := l.2; have := hx.2; omega)) rfl ?_
      refine RL.assign rfl rfl rfl ?_
      refine RL.nil ?_
      refine NX.off ?_
      refine NX.seq ?_
      refine TR.region ?_
      refine RL.move rfl rfl rfl ?_
      refine RL.bin rfl rfl rfl (BinV.add _ rfl (by omega) (by omega)) rfl ?_
      refine RL.assign rfl rfl rfl ?_
      refine RL.nil ?_
      refine NX.roundP (x.1 + 1, x.2 ++ l.1) ⟨by show x.1 + 1 ≤ 20; omega, by show (x.2 ++ l.1).length ≤ 17 * (x.1 + 1); have := l.2; have := hx.2; rw [List.length_append]; omega⟩ (by show 20 - (x.1 + 1) < 20 - x.1; omega) ⟨rfl, rfl, rfl, trivial⟩ (fun w hw => (hw.to 0 [] 1 [] rfl))
    · skip
      refine TR.exit ?_
      refine NX.exitThen ?_
      refine NX.exitThen ?_
      refine NX.exitHere ?_
      refine NX.seq ?_
      refine TR.seq ?_
      refine TR.region ?_
      refine RL.move rfl rfl rfl ?_
      refine RL.assign rfl rfl rfl ?_
      refine RL.nil ?_
      refine NX.seq ?_
      refine TR.ret ?_
      exact NX.ret1 (⟨x.2, by have := hx.1; have := hx.2; omega⟩ : {l : List UInt8 // l.length ≤ 340}) rfl rfl rfl (fun w hw => (hw.to 0 [] 0 [] rfl))
  · skip
    refine RL.skip rfl rfl rfl ?_
    refine RL.skip rfl rfl rfl ?_
    refine RL.pickF rfl rfl rfl rfl ?_
    refine RL.nil ?_
    refine NX.seq ?_
    refine TR.condF rfl ?_
    refine TR.exit ?_
    refine NX.exitThen ?_
    refine NX.exitThen ?_
    refine NX.exitHere ?_
    refine NX.seq ?_
    refine TR.seq ?_
    refine TR.region ?_
    refine RL.move rfl rfl rfl ?_
    refine RL.assign rfl rfl rfl ?_
    refine RL.nil ?_
    refine NX.seq ?_
    refine TR.ret ?_
    exact NX.ret1 (⟨x.2, by have := hx.1; have := hx.2; omega⟩ : {l : List UInt8 // l.length ≤ 340}) rfl rfl rfl (fun w hw => (hw.to 0 [] 0 [] rfl))
end Go.Proofs.YtdnjoffkanjjhaaGreatDoor

namespace Go.Proofs.YtdnjoffkanjjhaaGreatDoor
open Go.GL
set_option linter.unusedVariables false
theorem gc_tby32 : tyByte Tryz.prog 32 = true := by kernel_rfl
theorem gc_tstr9 : tyStr Tryz.prog 9 = true := by kernel_rfl
theorem IntsOk.drop {xs : List Int} (h : IntsOk xs) (k : Nat) : IntsOk (xs.drop k) := ⟨by rw [List.length_drop]; have := h.1; omega, fun x hx => h.2 x (List.mem_of_mem_drop hx)⟩
theorem rInt_enc {b : Nat} {n : Int} {rest : List UInt8} {oa : Option Addr} {c : Nat} {M : List HP} {F : List Fact} (h0 : -9223372036854775808 ≤ n) (h1 : n ≤ 9223372036854775807) (ha : ArrF oa (bytesV (encU (zz n) ++ rest)) ∈ F) (hc : (encU (zz n) ++ rest).length ≤ c) :
    Ctr Tryz.prog 20 [.pointer (some ⟨b, 0, none⟩)] (Box b 78 [.slice oa (encU (zz n) ++ rest).length c, I 0] :: M) F {z : RdX // rest.length ≤ z.c} (fun _ => I n) (fun z => Box b 78 [.slice z.1.oa rest.length z.1.c, I 0] :: M) (fun z => ArrF z.1.oa (bytesV rest) :: F) := by
  have h := rInt_spec (b := b) (e := 0) (M := M) ha hc
  rw [rdU_enc (zz_lt h0 h1), uz_zz] at h
  exact h
theorem rText_spec {b : Nat} {l : List UInt8} {oa : Option Addr} {c : Nat} {e : Int} {M : List HP} {F : List Fact} (ha : ArrF oa (bytesV l) ∈ F) (hc : l.length ≤ c) (hl : l.length ≤ 70368744177664) : Ctr Tryz.prog 19 [.pointer (some ⟨b, 0, none⟩)] (Box b 78 [.slice oa l.length c, I e] :: M) F {y : RdX // (rdRaw l e).2.1.length ≤ y.c} (fun _ => S (rdRaw l e).1) (fun y => Box b 78 [.slice y.1.oa (rdRaw l e).2.1.length y.1.c, I (rdRaw l e).2.2] :: M) (fun y => ArrF y.1.oa (bytesV (rdRaw l e).2.1) :: F) := by
  refine Ctr.body Tryz.func19 rfl rfl ?_
  refine TR.seq ?_
  refine TR.region ?_
  refine RL.assign rfl rfl rfl ?_
  refine RL.nil ?_
  refine NX.seq ?_
  refine TR.seq ?_
  refine TR.region ?_
  refine RL.move rfl rfl rfl ?_
  refine RL.call rfl rfl Tryz.call37 rfl (rRaw_spec ha hc hl) (fun z => ?_)
  refine RL.convBS rfl gc_tby32 gc_tstr9 rfl rfl (rd_own (i := 0) rfl) rfl ?_
  refine RL.assign rfl rfl rfl ?_
  refine RL.nil ?_
  refine NX.seq ?_
  refine TR.ret ?_
  exact NX.ret1 (⟨⟨z.1.oa, z.1.c⟩, z.2⟩ : {y : RdX // (rdRaw l e).2.1.length ≤ y.c}) rfl rfl rfl (fun w hw => (hw.to 2 [1] 1 [0] rfl))
theorem rText_enc {b : Nat} {x rest : List UInt8} {oa : Option Addr} {c : Nat} {M : List HP} {F : List Fact} (ha : ArrF oa (bytesV (encR x ++ rest)) ∈ F) (hc : (encR x ++ rest).length ≤ c) (hl : (encR x ++ rest).length ≤ 70368744177664) (hx : x.length < 18446744073709551616) :
    Ctr Tryz.prog 19 [.pointer (some ⟨b, 0, none⟩)] (Box b 78 [.slice oa (encR x ++ rest).length c, I 0] :: M) F {z : RdX // rest.length ≤ z.c} (fun _ => S x) (fun z => Box b 78 [.slice z.1.oa rest.length z.1.c, I 0] :: M) (fun z => ArrF z.1.oa (bytesV rest) :: F) := by
  have h := rText_spec (b := b) (e := 0) (M := M) ha hc hl
  rw [rdRaw_enc hx] at h
  exact h
theorem apply_ok {s x : List UInt8} {es : List Ed} {oa : Option Addr} {ca : Nat} {M : List HP} {F : List Fact} (ha : ArrF oa (edC es) ∈ F) (hl : es.length ≤ 4611686018427387904) (hE : soundE s.length es = 0) (hG : applyGo s 0 es = x) (hb : x.length ≤ 140737488355328) :
    Ctr Tryz.prog 6 [S s, .slice oa es.length ca] M F Unit (fun _ => .tuple #[S x, I 0]) (fun _ => M) (fun _ => F) := by
  have h := apply_spec (s := s) (ca := ca) (M := M) ha hl (fun _ => by rw [hG]; exact hb)
  unfold applyE at h
  rw [if_pos hE, hG] at h
  exact h
end Go.Proofs.YtdnjoffkanjjhaaGreatDoor

namespace Go.GL
set_option linter.unusedVariables false
structure Am where
  room : Nat
  off : Bool
  plan : Option Nat
  B : Nat → List UInt8
  D : Nat → Nat
def upd {α : Type} (f : Nat → α) (n : Nat) (v : α) : Nat → α := fun k => if k = n then v else f k
def usedA (B : Nat → List UInt8) : Nat := ((List.range 64).map fun n => (B n).length).sum
def stepA (a : Am) : Bool × Am := match a.plan with
  | none => (true, a)
  | some 0 => (false, { a with off := true, plan := none })
  | some (k + 1) => (true, { a with plan := some k })
def appA (a : Am) (n : Int) (x : List UInt8) : Int × Am :=
  if ¬ there n then (1, a) else if a.off = true then (22, a) else if a.room < usedA a.B + x.length then (21, a) else
  let q := stepA { a with B := upd a.B n.toNat (a.B n.toNat ++ x) }
  (if q.1 = true then 0 else 22, q.2)
def syncA (a : Am) : Int × Am :=
  if a.off = true then (22, a) else
  let q := stepA a
  if q.1 = true then (0, { q.2 with D := fun k => (q.2.B k).length }) else (22, q.2)
def armA (a : Am) (n : Int) : Am := if a.off = true then a else { a with plan := if 0 ≤ n then some n.toNat else none }
def crashA (a : Am) (keep : List Int) (flip : Int) : Am := { a with off := false, plan := none, B := crashB a.B a.D keep flip, D := fun k => (crashB a.B a.D keep flip k).length }
structure RelP (s : Ds) (a : Am) : Prop where
  ok : OkF s.fs
  lft : Lft s
  rm : Rm s
  room : s.room = a.room
  off : s.off = a.off
  plan : a.plan = if s.armed = true then some s.left.toNat else none
  b : ∀ n, n < 64 → vB s.fs n = a.B n
  d : ∀ n, n < 64 → vD s.fs n = a.D n
theorem RelP.used {s : Ds} {a : Am} (h : RelP s a) : Go.GL.used s.fs = usedA a.B := by
  rw [used_view h.ok]
  unfold usedA
  congr 1
  exact List.map_congr_left fun n hn => by rw [h.b n (List.mem_range.1 hn)]
theorem RelP.le {s : Ds} {a : Am} (h : RelP s a) {n : Nat} (hn : n < 64) : a.D n ≤ (a.B n).length := by
  rw [← h.b n hn, ← h.d n hn]; exact (fget_each h.ok n).2
theorem RelP.step {s : Ds} {a : Am} (h : RelP s a) : stepB s = (if s.off = true then stepB s else (stepA a).1) ∧ (s.off = false → RelP (stepS s) (stepA a).2) := by
  rcases step_cases s h.lft with ⟨e1, e2, e3⟩ | ⟨e1, e2, e3, e4⟩ | ⟨e1, e2, e3, e4⟩
  · have hp : a.plan = none := by rw [h.plan, if_neg (by rw [e1]; simp)]
    have hs : stepA a = (true, a) := by unfold stepA; rw [hp]
    rw [hs, e2]
    exact ⟨by rw [e3]; split <;> rfl, fun _ => h⟩
  · have hp : a.plan = some ((s.left - 1).toNat + 1) := by rw [h.plan, if_pos e1]; congr 1; omega
    have hs : stepA a = (true, { a with plan := some (s.left - 1).toNat }) := by unfold stepA; rw [hp]
    rw [hs, e3]
    refine ⟨?_, fun _ => ⟨h.ok, e3 ▸ step_lft h.lft, ⟨h.rm.used, h.rm.room⟩, h.room, h.off, ?_, h.b, h.d⟩⟩
    · split
      · rfl
      · rename_i ho; exact e4 (by simpa using ho)
    · show some _ = if s.armed = true then some (s.left - 1).toNat else none
      rw [if_pos e1]
  · have hp : a.plan = some 0 := by rw [h.plan, if_pos e1, e2]; rfl
    have hs : stepA a = (false, { a with off := true, plan := none }) := by unfold stepA; rw [hp]
    rw [hs, e3, e4]
    exact ⟨by split <;> rfl, fun _ => ⟨h.ok, e3 ▸ step_lft h.lft, ⟨h.rm.used, h.rm.room⟩, h.room, rfl, rfl, h.b, h.d⟩⟩
theorem RelP.fs {s : Ds} {a : Am} {fs : Fs} {B : Nat → List UInt8} {D : Nat → Nat} (h : RelP s a) (hok : OkF fs) (hu : Go.GL.used fs ≤ s.room) (hb : ∀ n, n < 64 → vB fs n = B n) (hd : ∀ n, n < 64 → vD fs n = D n) : RelP { s with fs := fs } { a with B := B, D := D } :=
  ⟨hok, h.lft.fs _, ⟨hu, h.rm.room⟩, h.room, h.off, h.plan, hb, hd⟩
theorem RelP.append {s : Ds} {a : Am} {n : Int} {x : List UInt8} {z : RdX} (h : RelP s a) (hz : ((fget s.fs n).b ++ x).length ≤ z.c) : appE s n x = (appA a n x).1 ∧ RelP (appS s n x z) (appA a n x).2 := by
  unfold appE appS appA
  by_cases h1 : ¬ there n
  · rw [if_pos h1, if_pos h1, if_pos h1]; exact ⟨rfl, h⟩
  · rw [if_neg h1, if_neg h1, if_neg h1]
    have hth := Decidable.not_not.1 h1
    by_cases h2 : s.off = true
    · rw [if_pos h2, if_pos h2, if_pos (show a.off = true by rw [← h.off]; exact h2)]; exact ⟨rfl, h⟩
    · rw [if_neg h2, if_neg h2, if_neg (show ¬ a.off = true by rw [← h.off]; exact h2)]
      have hus := h.used
      have hrm := h.room
      by_cases h3 : (s.room : Int) - Go.GL.used s.fs < x.length
      · rw [if_pos h3, if_pos h3, if_pos (show a.room < usedA a.B + x.length by omega)]; exact ⟨rfl, h⟩
      · rw [if_neg h3, if_neg h3, if_neg (show ¬ a.room < usedA a.B + x.length by omega)]
        obtain ⟨k, rfl⟩ : ∃ k : Nat, n = k := ⟨n.toNat, by have := hth.1; omega⟩
        have hk : k < 64 := by have := hth.2; omega
        simp only [Int.toNat_natCast]
        have h4 : RelP { s with fs := setF s.fs k (appF s k x z) } { a with B := upd a.B k (a.B k ++ x), D := a.D } := h.fs
          (h.ok.setF hth ⟨hz, by have := (fget_each h.ok (k : Int)).2; show (fget s.fs (k : Int)).dur ≤ ((fget s.fs (k : Int)).b ++ x).length; rw [List.length_append]; omega⟩)
          (by rw [used_append h.ok hth hz]; omega)
          (fun m hm => by
            rw [vB_setF h.ok]
            unfold upd
            by_cases e : m = k
            · rw [if_pos e, if_pos e, ← h.b k hk]; rfl
            · rw [if_neg e, if_neg e]; exact h.b m hm)
          (fun m hm => by
            rw [vD_setF h.ok]
            by_cases e : m = k
            · rw [if_pos e, e]
              split
              · rename_i e2
                have e3 : vB s.fs k ++ x = [] := e2
                have e4 : vB s.fs k = [] := (List.append_eq_nil_iff.1 e3).1
                have h5 := h.le hk
                rw [← h.b k hk, e4] at h5
                have : a.D k = 0 := Nat.le_zero.1 h5
                omega
              · exact h.d k hk
            · rw [if_neg e]; exact h.d m hm)
        have hst := h4.step
        have hso : ({ s with fs := setF s.fs k (appF s k x z) } : Ds).off = false := by show s.off = false; simpa using h2
        rw [if_neg (by rw [hso]; simp), stepB_fs] at hst
        rw [show stepB s = (stepA { a with B := upd a.B k (a.B k ++ x) }).1 from hst.1]
        exact ⟨rfl, hst.2 hso⟩
theorem RelP.sync {s : Ds} {a : Am} (h : RelP s a) : syncE s = (syncA a).1 ∧ RelP (syncS s) (syncA a).2 := by
  unfold syncE syncS syncA
  by_cases h2 : s.off = true
  · rw [if_pos (Or.inl h2), if_pos h2, if_pos (show a.off = true by rw [← h.off]; exact h2)]; exact ⟨rfl, h⟩
  · rw [if_neg h2, if_neg (show ¬ a.off = true by rw [← h.off]; exact h2)]
    have hst := h.step
    rw [if_neg h2] at hst
    have h3 := hst.2 (by simpa using h2)
    by_cases hb : stepB s = false
    · rw [if_pos (Or.inr hb), if_pos hb]
      simp only
      rw [if_neg (by rw [← hst.1, hb]; simp)]
      exact ⟨rfl, h3⟩
    · rw [if_neg (fun e => e.elim h2 hb), if_neg hb]
      simp only
      rw [if_pos (by rw [← hst.1]; simpa using hb)]
      refine ⟨rfl, ?_⟩
      exact h3.fs h3.ok.hard (by rw [used_hard]; exact h3.rm.used) (fun n hn => by rw [vB_hard]; exact h3.b n hn) (fun n hn => by rw [vD_hard, h3.b n hn])
theorem RelP.arm {s : Ds} {a : Am} {n : Int} (h : RelP s a) (h0 : -1 ≤ n) (h1 : n ≤ 4611686018427387904) : RelP (armS s n) (armA a n) := by
  unfold armA
  by_cases h2 : s.off = true
  · rw [if_pos (by rw [← h.off]; exact h2), show armS s n = s from by unfold armS; rw [if_pos h2]]; exact h
  · have ho : s.off = false := by simpa using h2
    rw [if_neg (by rw [← h.off]; exact h2), armS_on ho]
    refine ⟨h.ok, ⟨h0, h1, fun e => of_decide_eq_true e⟩, ⟨h.rm.used, h.rm.room⟩, h.room, h.off, ?_, h.b, h.d⟩
    show (if 0 ≤ n then some n.toNat else none) = if decide (0 ≤ n) = true then some n.toNat else none
    by_cases e : 0 ≤ n
    · rw [if_pos e, if_pos (decide_eq_true e)]
    · rw [if_neg e, if_neg (by simp [e])]
theorem filesB_congr {B B' : Nat → List UInt8} (h : ∀ n, n < 64 → B n = B' n) : filesB B = filesB B' := by
  unfold filesB
  exact List.filter_congr fun n hn => by rw [h n (List.mem_range.1 hn)]
theorem flatMap_cg {α β : Type} {f g : α → List β} : ∀ {l : List α}, (∀ a, a ∈ l → f a = g a) → l.flatMap f = l.flatMap g
  | [], _ => rfl
  | a :: l, h => by rw [List.flatMap_cons, List.flatMap_cons, h a (.head _), flatMap_cg fun b hb => h b (.tail _ hb)]
theorem crashB_congr {B B' : Nat → List UInt8} {D D' : Nat → Nat} (h : ∀ n, n < 64 → B n = B' n) (hd : ∀ n, n < 64 → D n = D' n) (keep : List Int) (flip : Int) {n : Nat} (hn : n < 64) : crashB B D keep flip n = crashB B' D' keep flip n := by
  have hf := filesB_congr h
  have hc : ∀ m, m < 64 → cutB B D keep m = cutB B' D' keep m := fun m hm => by unfold cutB; rw [h m hm, hd m hm, hf]
  have hl : looseB B D keep = looseB B' D' keep := by
    unfold looseB
    rw [hf]
    refine flatMap_cg fun m hm => ?_
    have hm2 := (filesB_mem.1 hm).1
    rw [hc m hm2, hd m hm2]
  unfold crashB
  rw [hl, hc n hn]
theorem RelP.crash {s t : Ds} {a : Am} {keep : List Int} {flip : Int} (h : RelP s a) (c : CrashR s keep flip t) : RelP t (crashA a keep flip) := by
  have hb : ∀ n, n < 64 → vB t.fs n = crashB a.B a.D keep flip n := fun n hn => by rw [c.b n hn, crashB_congr h.b h.d keep flip hn]
  exact ⟨c.ok, c.lft h.lft, c.rm h.ok h.rm, by rw [c.room]; exact h.room, c.off, by rw [c.armed]; rfl, hb, fun n hn => by rw [c.hard, hb n hn]; rfl⟩
theorem RelP.new {m k : Nat} (hk : k ≤ 16777216) : RelP ⟨m, [], k, false, false, 0⟩ ⟨k, false, none, fun _ => [], fun _ => 0⟩ := ⟨OkF.nil, fresh_lft, fresh_rm hk, rfl, rfl, rfl, fun _ _ => rfl, fun _ _ => rfl⟩
end Go.GL

namespace Go.GL
set_option linter.unusedVariables false
structure Rf where
  a : Am
  x : Nat → RdX
  pl : Int
  ba : Option Addr
  fa : Option Addr
section
variable {w : World} {F : List Fact} {T eS eI b : Nat} {s : Rf}
end
structure RfOk (s : Rf) : Prop where
  plan : s.a.plan = if s.pl < 0 then none else some s.pl.toNat
  lo : -2 ≤ s.pl
  hi : s.pl ≤ 4611686018427387904
  le : ∀ n, n < 64 → s.a.D n ≤ (s.a.B n).length
  cp : ∀ n, n < 64 → (s.a.B n).length ≤ (s.x n).c
  us : usedA s.a.B ≤ s.a.room
  rm : s.a.room ≤ 16777216
def usedT (B : Nat → List UInt8) (i : Nat) : Nat := ((List.range i).map fun n => (B n).length).sum
theorem usedT_succ (B : Nat → List UInt8) (i : Nat) : usedT B (i + 1) = usedT B i + (B i).length := by
  unfold usedT; rw [List.range_succ, List.map_append, List.sum_append]; simp
theorem usedT_mono (B : Nat → List UInt8) {i j : Nat} (h : i ≤ j) : usedT B i ≤ usedT B j := by
  induction h with
  | refl => exact Nat.le_refl _
  | step h ih => rw [usedT_succ]; omega
theorem usedT_all (B : Nat → List UInt8) : usedT B 64 = usedA B := rfl
theorem used_one {B : Nat → List UInt8} {n : Nat} (h : n < 64) : (B n).length ≤ usedA B := by
  have h1 := usedT_mono B (show n + 1 ≤ 64 by omega)
  rw [usedT_succ, usedT_all] at h1; omega
theorem usedT_upd (B : Nat → List UInt8) (n : Nat) (v : List UInt8) (i : Nat) : usedT (upd B n v) i + (if n < i then (B n).length else 0) = usedT B i + (if n < i then v.length else 0) := by
  induction i with
  | zero => simp [usedT]
  | succ i ih =>
    rw [usedT_succ, usedT_succ]
    unfold upd at *
    by_cases e : i = n
    · subst e
      simp at ih ⊢; omega
    · simp only [e, if_false]
      by_cases h : n < i
      · rw [if_pos h, if_pos h] at ih; rw [if_pos (by omega), if_pos (by omega)]; omega
      · rw [if_neg h, if_neg h] at ih; rw [if_neg (by omega), if_neg (by omega)]; omega
theorem used_upd {B : Nat → List UInt8} {n : Nat} {v : List UInt8} (h : n < 64) : usedA (upd B n v) + (B n).length = usedA B + v.length := by
  have := usedT_upd B n v 64
  rw [if_pos h, if_pos h, usedT_all, usedT_all] at this; exact this
theorem usedT_le {B B' : Nat → List UInt8} (h : ∀ n, n < 64 → (B n).length ≤ (B' n).length) : ∀ i, i ≤ 64 → usedT B i ≤ usedT B' i
  | 0, _ => Nat.le_refl _
  | i + 1, hi => by rw [usedT_succ, usedT_succ]; have := usedT_le h i (by omega); have := h i (by omega); omega
def stepF (s : Rf) : Rf := { s with a := (stepA s.a).2, pl := if s.pl < 0 then s.pl else s.pl - 1 }
theorem stepF_neg {s : Rf} (h : RfOk s) (hn : s.pl < 0) : (stepA s.a).1 = true ∧ stepF s = s := by
  have hp := h.plan
  rw [if_pos hn] at hp
  have hs : stepA s.a = (true, s.a) := by unfold stepA; rw [hp]
  unfold stepF
  rw [hs, if_pos hn]; exact ⟨rfl, rfl⟩
theorem stepF_zero {s : Rf} (h : RfOk s) (h0 : s.pl = 0) : (stepA s.a).1 = false ∧ stepF s = { s with a := { s.a with off := true, plan := none }, pl := -1 } := by
  have hp := h.plan
  rw [if_neg (by omega), h0] at hp
  have hs : stepA s.a = (false, { s.a with off := true, plan := none }) := by unfold stepA; rw [hp]; rfl
  unfold stepF
  rw [hs, if_neg (by omega), h0]; exact ⟨rfl, rfl⟩
theorem stepF_pos {s : Rf} (h : RfOk s) (h0 : 0 < s.pl) : (stepA s.a).1 = true ∧ stepF s = { s with a := { s.a with plan := some (s.pl - 1).toNat }, pl := s.pl - 1 } := by
  have hp := h.plan
  rw [if_neg (by omega), show s.pl.toNat = (s.pl - 1).toNat + 1 by omega] at hp
  have hs : stepA s.a = (true, { s.a with plan := some (s.pl - 1).toNat }) := by unfold stepA; rw [hp]
  unfold stepF
  rw [hs, if_neg (by omega)]; exact ⟨rfl, rfl⟩
theorem RfOk.step {s : Rf} (h : RfOk s) : RfOk (stepF s) := by
  by_cases h1 : s.pl < 0
  · rw [(stepF_neg h h1).2]; exact h
  · by_cases h2 : s.pl = 0
    · rw [(stepF_zero h h2).2]; exact ⟨rfl, (by decide : (-2 : Int) ≤ -1), (by decide : (-1 : Int) ≤ 4611686018427387904), h.le, h.cp, h.us, h.rm⟩
    · rw [(stepF_pos h (by omega)).2]
      refine ⟨?_, by show -2 ≤ s.pl - 1; omega, by show s.pl - 1 ≤ _; have := h.hi; omega, h.le, h.cp, h.us, h.rm⟩
      show _ = if s.pl - 1 < 0 then none else _
      rw [if_neg (by omega)]
theorem stepA_BD (a : Am) : (stepA a).2.B = a.B ∧ (stepA a).2.D = a.D ∧ (stepA a).2.room = a.room := by
  unfold stepA; split <;> exact ⟨rfl, rfl, rfl⟩
section
variable {P : Program} {r : Option Nat} {N : Nat} {ops : Array Oper} {rest : List Oper} {Q : Exit → Act → World → Prop} {E : Env} {ds : List Deferred} {M : List HP} {F : List Fact}
variable {d : Nat} {ty : TypeId} {pos : String} {aft : Array Edge} {gd : Option (Nat × Bool)}
end
theorem used_zero : usedA (fun _ => []) = 0 := by decide
theorem RfOk.new {k : Nat} {ba fa : Option Addr} (hk : k ≤ 16777216) : RfOk ⟨⟨k, false, none, fun _ => [], fun _ => 0⟩, fun _ => ⟨none, 0⟩, -1, ba, fa⟩ :=
  ⟨rfl, (by decide : (-2 : Int) ≤ -1), (by decide : (-1 : Int) ≤ 4611686018427387904), fun _ _ => Nat.le_refl _, fun _ _ => Nat.le_refl _, (by rw [used_zero]; exact Nat.zero_le _), hk⟩
theorem appA_arg {a : Am} {n : Int} {x : List UInt8} (h : ¬ there n) : appA a n x = (1, a) := by unfold appA; rw [if_pos h]
theorem appA_full {a : Am} {n : Int} {x : List UInt8} (h : there n) (ho : a.off = false) (hf : a.room < usedA a.B + x.length) : appA a n x = (21, a) := by unfold appA; rw [if_neg (not_not_intro h), if_neg (by rw [ho]; simp), if_pos hf]
theorem appA_go {a : Am} {n : Nat} {x : List UInt8} (h : n < 64) (ho : a.off = false) (hf : ¬ a.room < usedA a.B + x.length) : appA a (n : Int) x = (if (stepA { a with B := upd a.B n (a.B n ++ x) }).1 = true then 0 else 22, (stepA { a with B := upd a.B n (a.B n ++ x) }).2) := by
  unfold appA; rw [if_neg (not_not_intro ⟨by omega, by omega⟩), if_neg (by rw [ho]; simp), if_neg hf]; rfl
def putF (s : Rf) (n : Nat) (y : List UInt8) (z : RdX) : Rf := { s with a := { s.a with B := upd s.a.B n y }, x := upd s.x n z }
theorem RfOk.put {s : Rf} {n : Nat} {x : List UInt8} {z : RdX} (h : RfOk s) (hn : n < 64) (hz : (s.a.B n ++ x).length ≤ z.c) (hr : ¬ s.a.room < usedA s.a.B + x.length) : RfOk (putF s n (s.a.B n ++ x) z) := by
  refine ⟨h.plan, h.lo, h.hi, fun k hk => ?_, fun k hk => ?_, ?_, h.rm⟩
  · show s.a.D k ≤ (upd s.a.B n _ k).length
    unfold upd
    by_cases e : k = n
    · rw [if_pos e, e, List.length_append]; have := h.le n hn; omega
    · rw [if_neg e]; exact h.le k hk
  · show (upd s.a.B n _ k).length ≤ (upd s.x n z k).c
    unfold upd
    by_cases e : k = n
    · rw [if_pos e, if_pos e]; exact hz
    · rw [if_neg e, if_neg e]; exact h.cp k hk
  · show usedA (upd s.a.B n _) ≤ s.a.room
    have := used_upd (B := s.a.B) (v := s.a.B n ++ x) hn
    rw [List.length_append] at this; omega
section
variable {P : Program} {r : Option Nat} {N : Nat} {ops : Array Oper} {rest : List Oper} {Q : Exit → Act → World → Prop} {E : Env} {ds : List Deferred} {M : List HP} {F : List Fact}
variable {ty : TypeId} {pos : String} {aft : Array Edge} {gd : Option (Nat × Bool)}
theorem GV.boxA {d : Nat} {t : TypeId} {x : Operand} {cs : List Value} (hx : evalO E x = some (.agg cs.toArray)) : GV P E M F ⟨some d, .box t x, ty, pos, aft, gd⟩ Nat (fun b => .pointer (some ⟨b, 0, none⟩)) (fun b => Box b t cs :: M) (fun _ => F) := ⟨rfl, fun ρ hρ w hw =>
  ⟨w.heap.size, _, by simp [execOp, Instr.box, hρ _ _ hx, newVar, newRow, Value.cells], hw.alloc _⟩⟩
theorem EV.cast {o : Oper} {ι : Type} {val : ι → Value} {M1 M2 : ι → List HP} {F' : ι → List Fact} (h : EV P r Q E M F o ι val M1 F') (e : M1 = M2) : EV P r Q E M F o ι val M2 F' := e ▸ h
end
theorem RfOk.arm {s : Rf} {n : Int} (h : RfOk s) (h0 : -1 ≤ n) (h1 : n ≤ 4611686018427387904) (ho : s.a.off = false) : RfOk { s with a := armA s.a n, pl := max n (-1) } ∧ ({ s with a := armA s.a n, pl := max n (-1) } : Rf).a = armA s.a n := by
  refine ⟨?_, rfl⟩
  have e1 : armA s.a n = { s.a with plan := if 0 ≤ n then some n.toNat else none } := by unfold armA; rw [if_neg (by rw [ho]; simp)]
  rw [e1]
  refine ⟨?_, by show -2 ≤ max n (-1); omega, by show max n (-1) ≤ _; omega, h.le, h.cp, h.us, h.rm⟩
  show (if 0 ≤ n then some n.toNat else none) = if max n (-1) < 0 then none else some (max n (-1)).toNat
  by_cases e : 0 ≤ n
  · rw [if_pos e, if_neg (by omega), show max n (-1) = n by omega]
  · rw [if_neg e, if_pos (by omega)]
theorem RfOk.cut {s : Rf} {n k : Nat} {z : RdX} (h : RfOk s) (hn : n < 64) (hz : z.c = (s.x n).c) : RfOk { s with a := { s.a with B := upd s.a.B n ((s.a.B n).take k), D := upd s.a.D n (min (s.a.D n) k) }, x := upd s.x n z } := by
  refine ⟨h.plan, h.lo, h.hi, fun j hj => ?_, fun j hj => ?_, ?_, h.rm⟩
  · show upd s.a.D n _ j ≤ (upd s.a.B n _ j).length
    unfold upd
    by_cases e : j = n
    · rw [if_pos e, if_pos e, List.length_take]; have := h.le n hn; omega
    · rw [if_neg e, if_neg e]; exact h.le j hj
  · show (upd s.a.B n _ j).length ≤ (upd s.x n z j).c
    unfold upd
    by_cases e : j = n
    · rw [if_pos e, if_pos e, hz, List.length_take]; have := h.cp n hn; omega
    · rw [if_neg e, if_neg e]; exact h.cp j hj
  · show usedA (upd s.a.B n _) ≤ s.a.room
    have h1 := used_upd (B := s.a.B) (v := (s.a.B n).take k) hn
    rw [List.length_take] at h1
    have := h.us
    omega
end Go.GL

namespace Go.GL
set_option linter.unusedVariables false
section
variable (B : Nat → List UInt8) (D : Nat → Nat) (ks : List Int) (fl : Int)
end
section
variable {B : Nat → List UInt8} {D : Nat → Nat} {ks : List Int} {fl : Int}
end
theorem RfOk.crash {s : Rf} {ks : List Int} {fl : Int} {X : Nat → RdX} (h : RfOk s) (hc : ∀ n, n < 64 → (crashB s.a.B s.a.D ks fl n).length ≤ (X n).c) : RfOk { s with a := crashA s.a ks fl, x := X, pl := -1 } :=
  ⟨rfl, (by decide : (-2 : Int) ≤ -1), (by decide : (-1 : Int) ≤ 4611686018427387904), fun _ _ => Nat.le_refl _, hc, Nat.le_trans (usedT_le (i := 64) (fun n _ => by show (crashB _ _ _ _ n).length ≤ _; rw [crashB_len]; exact cutB_len _ _ _ _) (Nat.le_refl _)) h.us, h.rm⟩
end Go.GL

namespace Go.GL
set_option linter.unusedVariables false
structure OpX where
  k : Int
  f : Int
  n : Int
  b : List UInt8
  ob : Option Addr
  cb : Nat
  ks : List Int
  ok : Option Addr
  ck : Nat
def OpX.c (o : OpX) : List Value := [I o.k, I o.f, I o.n, .slice o.ob o.b.length o.cb, .slice o.ok o.ks.length o.ck]
theorem St.cutI {w : World} {M : List HP} {F : List Fact} {oa : Option Addr} {cap : Nat} {l : List Int} (k : Nat) (hc : l.length ≤ cap) (hF : ArrF oa (ints l) ∈ F) (h : St w M F) : St w M (ArrF (cutA oa 0 cap 1) (ints (l.take k)) :: F) :=
  h.derive fun K hf => by
    have h9 := ArrAt.cut (size := 1) (cap := cap) (n := l.length) (hf _ hF) 0 (min k l.length) (by simp) (Nat.min_le_right _ _) hc
    have e : ints (l.take k) = (ints l).take (min k l.length) := by
      unfold ints
      rw [← List.map_take]
      congr 1
      rw [Nat.min_def]
      split
      · rfl
      · rw [List.take_of_length_le (Nat.le_refl _), List.take_of_length_le (by omega)]
    simp only [Nat.mul_one, List.drop_zero] at h9
    show ArrAt _ _ _ _
    rw [e]
    exact h9
section
variable {P : Program} {M : List HP} {F : List Fact} {T eS eI c : Nat} {r : Rf}
end
end Go.GL
