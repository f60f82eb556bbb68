/- Lemmas and walks for the proof of RunJ: texts one behind the other. No condition. -/
import Derived.Sort.EveryDepth
import Derived.Sort.OwnSortedInts
import Derived.Shelf.Sort.AssemblyIn
import Derived.Test.YtkdeopioelocnaaChecked
import Derived.Shelf.SlMaps.Clone
import Derived.Test.YtkdeopioelocnaaRuxc
set_option linter.unusedVariables false
set_option linter.unusedSimpArgs false
namespace Go.GL
open Go.Shelf Go.Sort Go.Proofs
theorem ci_of_calls {P : Program} {f : FuncId} {args : Array Value} {w : World} {R : Ending → World → Prop} (h : Calls P f args w R) : CI P f args w R := (callsIn_wide (n := 0)).2 h
def srt (l : List Int) : List Int := l.mergeSort fun x y => decide (x ≤ y)
theorem srt_perm (l : List Int) : (srt l).Perm l := List.mergeSort_perm _ _
theorem srt_len (l : List Int) : (srt l).length = l.length := (srt_perm l).length_eq
theorem srt_nil : srt [] = [] := by unfold srt; simp
theorem srt_sorted (l : List Int) : (srt l).Pairwise (· ≤ ·) := by
  have h := List.pairwise_mergeSort (le := fun x y : Int => decide (x ≤ y)) (fun a b c h1 h2 => by simp only [decide_eq_true_eq] at *; omega) (fun a b => by simp only [Bool.or_eq_true, decide_eq_true_eq]; omega) l
  exact h.imp fun {a b} h => by simpa using h
theorem srt_of_perm {l l' : List Int} (h : l.Perm l') : srt l = srt l' := by
  refine List.Perm.eq_of_pairwise (le := fun a b : Int => a ≤ b) (fun a b _ _ h1 h2 => by omega) (srt_sorted l) (srt_sorted l') (((srt_perm l).trans h).trans (srt_perm l').symm)
theorem sortG {P : Program} {ρ : Ren} (Ly : Lays.n189 P ρ) {e g c : Nat} {l : List Int} {M : List HP} {F : List Fact} (hl : l.length < 4611686018427387904) :
    Ctr P (ρ.f 189) [.slice (some ⟨g, 0, none⟩) l.length c] (OwnSl e 1 (some ⟨g, 0, none⟩) l.length c (ints l) :: M) F Unit (fun _ => .tuple #[]) (fun _ => OwnSl e 1 (some ⟨g, 0, none⟩) l.length c (ints (srt l)) :: M) (fun _ => F) := fun w hw => by
  obtain ⟨K, ⟨K1, K2, eK, h1, h2⟩, hn, hf⟩ := hw
  rcases h1.1.2 with ⟨h0, _⟩ | ⟨g', cap', cur, hv, hbase, hb, r1, r2, r3, r4⟩
  · cases h0
  simp only [Value.slice.injEq, Option.some.injEq, Addr.mk.injEq] at hv
  obtain ⟨⟨rfl, _⟩, _, rfl⟩ := hv
  have hg : g < w.heap.size := (Array.getElem?_eq_some_iff.1 hb).1
  rw [Nat.mul_one] at r4
  have hc := calls_of_every_depth fun D => AnyS.slices_Sort_int_in Ly D g 0 c l w (holds_of_blockI hb r4) hg hl
  refine CallsIn.mono (ci_of_calls hc) ?_
  rintro e' w' ⟨rfl, n, os, rfl⟩
  refine ⟨(), rfl, ?_⟩
  obtain ⟨g1, g2, g3, g4, g5⟩ := grownBy_sortedI (w := w) (g := g) (n := n) (os := os) (srt l).toArray
  have hst : St w (OwnSl e 1 (some ⟨g, 0, none⟩) l.length c (ints l) :: M) F := ⟨K, ⟨K1, K2, eK, h1, h2⟩, hn, hf⟩
  refine hst.turn g1 g2 g3 g4 fun K' hp => ?_
  have hK' : K' = [g] := hp.2
  refine ⟨[g], ⟨?_, rfl⟩, by simp, fun b hbm => .inl (by rw [hK']; exact hbm), fun b hbl hbn => ?_⟩
  · have h9 := ownsRow_sortedI (w := w) (base := 0) (g := g) (cap := c) (n := n) (e := e) (os := os) (cur := cur) (ss := l) (ts := srt l) (srt_len l) (Nat.zero_le _) hb r1 r2 r3
    exact h9
  · refine g5 b hbl fun e2 => hbn ?_
    rw [hK']; simp at e2; simp [e2]
theorem lenG {P : Program} {ρ : Ren} (Ly : Lays.n125 P ρ) {n : Nat} {M : List HP} {F : List Fact} (hn : n < 4611686018427387904) :
    Ctr P (ρ.f 125) [U n] M F Int (fun z => I z) (fun _ => M) (fun _ => F) := fun w hw => by
  refine CallsIn.mono (ci_of_calls (calls_of_every_depth fun D => Any.lenWalkInAll Ly D n w hn)) ?_
  rintro e w' ⟨rfl, rfl⟩
  exact ⟨_, rfl, hw⟩
end Go.GL

namespace Go.Proofs.Ytkdeopioelocnaa
open Go.GL
set_option linter.unusedVariables false
theorem yd_bs22_1_0 (x0 : Int) : BuildSV Try.prog 22 3 1 [(0, .int .i64 x0)] [.int .i64 x0] := fun w => by kernel_rfl
theorem yd_ni22 : noInt Try.prog 22 = true := by kernel_rfl
theorem yd_te3 : tyElem Try.prog 3 1 8 = true := by kernel_rfl
theorem yd_tl22 : tySlice Try.prog 22 3 = true := by kernel_rfl
theorem yd_tm82 : tyMap Try.prog 82 3 28 = true := by kernel_rfl
theorem yd_ts22 : tyScalar Try.prog 22 = true := by kernel_rfl
theorem yd_ts82 : tyScalar Try.prog 82 = true := by kernel_rfl
def keyEnc : Int → List Value → Prop := fun n args => args = [I n]
theorem keyEnc_len (x : Int) (args : List Value) (h : keyEnc x args) : args.length = 1 := by rw [show args = [I x] from h]; rfl
theorem keys_step {keys pre left : List Int} {nk : Int} (hn : keys.Nodup) (h : (pre ++ left).Perm keys) (hm : nk ∈ left) : (pre ++ nk :: left.filter fun y => !decide (y = nk)).Perm keys ∧ ((pre ++ [nk]) ++ left.filter fun y => !decide (y = nk)).Perm keys := by
  have n2 := (List.nodup_append.1 (h.nodup_iff.2 hn)).2.1
  have h1 : (pre ++ nk :: left.filter fun y => !decide (y = nk)).Perm keys := by
    refine List.Perm.trans (List.Perm.append_left pre ?_) h
    refine (List.perm_ext_iff_of_nodup ?_ n2).2 fun a => ?_
    · rw [List.nodup_cons]
      exact ⟨fun h => by simp at h, n2.sublist List.filter_sublist⟩
    · by_cases e : a = nk
      · subst e; simp [hm]
      · simp [e]
  exact ⟨h1, by rw [List.append_assoc]; exact h1⟩
theorem keys_iter {bm m : Nat} {kvs : KV} {F : List Fact} (hk : (kvs.map Prod.fst).Nodup) : IterG Try.prog 89 [.pointer (some ⟨bm, 0, none⟩)] keyEnc (fun pre x => ∃ suf, (pre ++ x :: suf).Perm (kvs.map Prod.fst)) (fun xs => xs.Perm (kvs.map Prod.fst)) [Box bm 82 [.map (some m)], MpB m kvs] F := by
  intro l J hY Mi G hG
  refine Ctr.weak (M := [Box bm 82 [.map (some m)], MpB m kvs] ++ (J [] ++ Mi)) (M' := fun xs : {xs : List Int // xs.Perm (kvs.map Prod.fst)} => [Box bm 82 [.map (some m)], MpB m kvs] ++ (J xs.1 ++ Mi)) (F := G) (F' := fun _ => G) ?_ (fun w hw => hw.perm (perm_mid _ _ _)) id (fun _ => rfl) (fun i w hw => hw.perm (perm_mid _ _ _))
  refine Ctr.body Try.func89 rfl rfl ?_
  refine TR.seq ?_
  refine TR.region ?_
  refine RL.load1 0 rfl yd_ts82 rfl rfl rfl rfl ?_
  refine RL.ofGV rfl rfl (GV.range 1 yd_tm82 rfl rfl) (fun q => ?_)
  refine RL.nil ?_
  refine NX.seq ?_
  refine TR.block ?_
  refine TR.loopP (ι := (List Int × List Int × Option Int)) (fun x => (x.1 ++ x.2.1).Perm (kvs.map Prod.fst)) (fun x => [(0, .func (.yield l) #[] #[]), (5, .pointer (some ⟨q, 0, none⟩))]) (fun x => Box bm 82 [.map (some m)] :: RgB m q kvs x.2.1 x.2.2 :: (J x.1 ++ Mi)) (fun _ => G) (fun x => x.2.1.length) ([], kvs.map Prod.fst, none) (List.Perm.refl _) ⟨rfl, rfl, trivial⟩ (fun w hw => hw) (fun x hx => ?_)
  refine TR.seq ?_
  refine TR.region ?_
  refine RL.ofGV rfl rfl (GV.next 1 rfl rfl) (fun nx => ?_)
  obtain ⟨_ | nx, hnx⟩ := nx
  · skip
    refine RL.extract rfl rfl rfl rfl ?_
    refine RL.nil ?_
    refine NX.seq ?_
    refine TR.seq ?_
    refine TR.condF rfl ?_
    refine TR.exit ?_
    refine NX.exitThen ?_
    refine NX.exitThen ?_
    refine NX.exitHere ?_
    have hl : x.2.1 = [] := hnx
    exact NX.end0 (⟨x.1, by have h9 := hx; rw [hl, List.append_nil] at h9; exact h9⟩ : {xs : List Int // xs.Perm (kvs.map Prod.fst)}) rfl rfl (fun w hw => hw)
  · skip
    refine RL.extract rfl rfl rfl rfl ?_
    refine RL.nil ?_
    refine NX.seq ?_
    refine TR.seq ?_
    refine TR.condT rfl ?_
    refine TR.skip ?_
    refine NX.seq ?_
    refine TR.block ?_
    refine TR.seq ?_
    refine TR.region ?_
    obtain ⟨nk, nv⟩ := nx
    have hst := keys_step hk hx hnx.1
    refine RL.entry 1 rfl rfl rfl hnx.2 rfl ?_
    refine RL.extract rfl rfl rfl rfl ?_
    refine RL.assign rfl rfl rfl ?_
    refine RL.nil ?_
    refine NX.seq ?_
    refine TR.seq ?_
    refine TR.region ?_
    refine RL.move rfl rfl rfl ?_
    refine RL.move rfl rfl rfl ?_
    refine RL.callYield rfl rfl rfl rfl (YSpec.frame [_, _] (hY x.1 nk _ ⟨_, hst.1⟩ rfl ([_, _] ++ Mi) G hG)) ?_
    refine RL.not rfl rfl rfl ?_
    refine RL.nil ?_
    refine NX.seq ?_
    refine TR.condF rfl ?_
    refine TR.skip ?_
    refine NX.off ?_
    exact NX.roundP (x.1 ++ [nk], x.2.1.filter fun y => !decide (y = nk), some nk) hst.2 (left_lt hnx.1) ⟨rfl, rfl, trivial⟩ (fun w hw => hw)
theorem mkeys_spec {m : Nat} {M : List HP} {F : List Fact} : Ctr Try.prog 67 [.map (some m)] M F Nat (fun bm => .func (.func 89) #[] #[.pointer (some ⟨bm, 0, none⟩)]) (fun bm => Box bm 82 [.map (some m)] :: M) (fun _ => F) := by
  refine Ctr.body Try.func67 rfl rfl ?_
  refine TR.seq ?_
  refine TR.region ?_
  refine RL.box1 rfl rfl rfl rfl (fun b1 => ?_)
  refine RL.assign rfl rfl rfl ?_
  refine RL.nil ?_
  refine NX.seq ?_
  refine TR.seq ?_
  refine TR.region ?_
  refine RL.makeFunc rfl rfl rfl rfl ?_
  refine RL.assign rfl rfl rfl ?_
  refine RL.nil ?_
  refine NX.seq ?_
  refine TR.ret ?_
  exact NX.ret1 b1 rfl rfl rfl (fun w hw => hw)
def IntB (b1 : Nat) (xs : List Int) : HP := Ex (ι := Option Addr × Nat) fun i => [Box b1 22 [.slice i.1 xs.length i.2], OwnSl 3 1 i.1 xs.length i.2 (ints xs)]
theorem apseq_spec {gf : FuncId} {cap : List Value} {step : List Int → Int → Prop} {fin : List Int → Prop} {L0 M : List HP} {F : List Fact} (hcall : ∀ args w, (callFunc gf args).run Try.prog w = .ok (.enter gf args) w) (hit : IterG Try.prog gf cap keyEnc step fin L0 F) (hst : ∀ pre x, step pre x → pre.length < 1000) : Ctr Try.prog 97 [.slice none 0 0, .func (.func gf) #[] cap.toArray] (L0 ++ M) F {z : List Int × Option Addr × Nat // fin z.1} (fun z => .slice z.1.2.1 z.1.1.length z.1.2.2) (fun z => OwnSl 3 1 z.1.2.1 z.1.1.length z.1.2.2 (ints z.1.1) :: (L0 ++ M)) (fun _ => F) := by
  refine Ctr.bodyM Try.func97 rfl rfl ?_
  refine TR.seq ?_
  refine TR.region ?_
  refine RL.box1 rfl rfl rfl rfl (fun b1 => ?_)
  refine RL.assign rfl rfl rfl ?_
  refine RL.nil ?_
  refine NX.seq ?_
  refine TR.seq ?_
  refine TR.seq ?_
  refine TR.region ?_
  refine RL.move rfl rfl rfl ?_
  refine RL.nil ?_
  refine NX.seq ?_
  refine TR.block ?_
  refine TR.rangeFuncG (κ := Unit) rfl hcall (by simp) keyEnc_len hit (fun pre => [IntB b1 pre]) M (fun w hw => (by have h9 := hw.tail; exact St.exClose (M0 := fun i : Option Addr × Nat => [Box b1 22 [.slice i.1 ([] : List Int).length i.2], OwnSl 3 1 i.1 ([] : List Int).length i.2 (ints [])]) (none, 0) (show St w ([_, _] ++ (L0 ++ M)) F from (OwnSl.nil_new 3 1 hw).swap))) (fun pre x args _ => [(2, .pointer (some ⟨b1, 0, none⟩)), (5, I x)]) (fun pre x args _ => [IntB b1 pre]) ?as0 ?bd0 ?ki0
  case as0 =>
    intro l pre x args hx he Mi G hG
    obtain rfl : args = [I x] := he
    have hpl := hst pre x hx
    refine TR.region ?_
    refine RL.assign rfl rfl rfl ?_
    refine RL.nil ?_
    exact NX.meet () ⟨rfl, rfl, trivial⟩ (fun w hw => hw)
  case bd0 =>
    intro l pre x args i hx he Mi G hG
    obtain rfl : args = [I x] := he
    have hpl := hst pre x hx
    refine TR.open (fun w hw => (St.exOpen (show St w (Ex _ :: _) G from hw))) (fun oc => ?_)
    refine TR.block ?_
    refine TR.region ?_
    refine RL.load1 0 rfl yd_ts22 rfl rfl rfl rfl ?_
    refine RL.move rfl rfl rfl ?_
    refine RL.buildSlice rfl rfl (yd_bs22_1_0 _) rfl (fun b2 => ?_)
    refine RL.ofGV rfl rfl (GV.append (j := 2) yd_tl22 yd_ni22 yd_te3 rfl rfl rfl (src_box (i := 0) rfl rfl rfl) (by omega) (by omega)) (fun z => ?_)
    refine RL.store1 1 rfl yd_ts22 rfl rfl rfl rfl rfl ?_
    refine RL.nil ?_
    refine NX.off ?_
    exact fun aa w _ hw => by
      have h9 : St w (Box b1 22 [.slice z.1 (pre.length + 1) z.2] :: OwnSl 3 1 z.1 (pre.length + 1) z.2 (ints pre ++ [I x]) :: Mi) G := hw.drop 0 rfl
      refine St.exClose (M0 := fun i : Option Addr × Nat => [Box b1 22 [.slice i.1 (pre ++ [x]).length i.2], OwnSl 3 1 i.1 (pre ++ [x]).length i.2 (ints (pre ++ [x]))]) z ?_
      rw [List.length_append, show ints (pre ++ [x]) = ints pre ++ [I x] from List.map_append]
      exact h9
  case ki0 =>
    intro xs hfin D
    refine NX.off ?_
    refine NX.seq ?_
    refine TR.seq ?_
    refine TR.pick 2 [1, 0] rfl ?_
    refine TR.open (fun w hw => (St.exOpen (show St w (Ex _ :: _) F from hw))) (fun oc => ?_)
    refine TR.region ?_
    refine RL.load1 0 rfl yd_ts22 rfl rfl rfl rfl ?_
    refine RL.assign rfl rfl rfl ?_
    refine RL.nil ?_
    refine NX.seq ?_
    refine TR.ret ?_
    refine NX.retM 2 (⟨(xs, oc), hfin⟩ : {z : List Int × Option Addr × Nat // fin z.1}) rfl rfl rfl rfl (fun w hw => ?_)
    exact hw.drop 0 rfl
end Go.Proofs.Ytkdeopioelocnaa

namespace Go.Proofs
open Go.Shelf
def Try.lays189_ren : Go.Shelf.Ren := ⟨fun | 189 => 88 | 125 => 99 | 257 => 98 | 128 => 115 | 129 => 116 | 294 => 106 | 295 => 107 | 296 => 108 | 297 => 109 | 298 => 110 | 299 => 111 | 216 => 112 | 300 => 113 | 301 => 114 | 328 => 117 | 329 => 118 | 330 => 119 | 331 => 120 | 332 => 121 | 215 => 122 | 343 => 123 | n => n, fun | 28 => 22 | 3 => 3 | 46 => 142 | 0 => 0 | 51 => 158 | 53 => 160 | 4 => 4 | 183 => 151 | 182 => 150 | 131 => 92 | 5 => 5 | 9 => 9 | 218 => 161 | 222 => 165 | 228 => 167 | 229 => 134 | n => n, fun | n => n⟩
theorem Try.lays189 : Go.Proofs.Lays.n189 Try.prog Try.lays189_ren := {
  mixed := by kernel_rfl
  f125 := Try.func99.trans (congrArg some (by kernel_rfl))
  f128 := Try.func115.trans (congrArg some (by kernel_rfl))
  f129 := Try.func116.trans (congrArg some (by kernel_rfl))
  f189 := Try.func88.trans (congrArg some (by kernel_rfl))
  f215 := Try.func122.trans (congrArg some (by kernel_rfl))
  f216 := Try.func112.trans (congrArg some (by kernel_rfl))
  f257 := Try.func98.trans (congrArg some (by kernel_rfl))
  f294 := Try.func106.trans (congrArg some (by kernel_rfl))
  f295 := Try.func107.trans (congrArg some (by kernel_rfl))
  f296 := Try.func108.trans (congrArg some (by kernel_rfl))
  f297 := Try.func109.trans (congrArg some (by kernel_rfl))
  f298 := Try.func110.trans (congrArg some (by kernel_rfl))
  f299 := Try.func111.trans (congrArg some (by kernel_rfl))
  f300 := Try.func113.trans (congrArg some (by kernel_rfl))
  f301 := Try.func114.trans (congrArg some (by kernel_rfl))
  f328 := Try.func117.trans (congrArg some (by kernel_rfl))
  f329 := Try.func118.trans (congrArg some (by kernel_rfl))
  f330 := Try.func119.trans (congrArg some (by kernel_rfl))
  f331 := Try.func120.trans (congrArg some (by kernel_rfl))
  f332 := Try.func121.trans (congrArg some (by kernel_rfl))
  f343 := Try.func123.trans (congrArg some (by kernel_rfl))
  t0 := Try.underlying0
  a0 := Try.isAgg0
  z0 := Try.sizeOf0
  v0 := Try.zeroValue0
  t3 := Try.underlying3
  a3 := Try.isAgg3
  z3 := Try.sizeOf3
  v3 := Try.zeroValue3
  t4 := Try.underlying4
  a4 := Try.isAgg4
  z4 := Try.sizeOf4
  v4 := Try.zeroValue4
  t5 := Try.underlying5
  a5 := Try.isAgg5
  z5 := Try.sizeOf5
  v5 := Try.zeroValue5
  t9 := Try.underlying9
  a9 := Try.isAgg9
  z9 := Try.sizeOf9
  v9 := Try.zeroValue9
  t28 := Try.underlying22
  a28 := Try.isAgg22
  z28 := Try.sizeOf22
  v28 := Try.zeroValue22
  t46 := Try.underlying142
  a46 := Try.isAgg142
  z46 := Try.sizeOf142
  v46 := Try.zeroValue142
  t51 := Try.underlying158
  a51 := Try.isAgg158
  z51 := Try.sizeOf158
  v51 := Try.zeroValue158
  t53 := Try.underlying160
  a53 := Try.isAgg160
  z53 := Try.sizeOf160
  v53 := Try.zeroValue160
  t131 := Try.underlying92
  a131 := Try.isAgg92
  z131 := Try.sizeOf92
  v131 := Try.zeroValue92
  t182 := Try.underlying150
  a182 := Try.isAgg150
  z182 := Try.sizeOf150
  v182 := Try.zeroValue150
  t183 := Try.underlying151
  a183 := Try.isAgg151
  z183 := Try.sizeOf151
  v183 := Try.zeroValue151
  t218 := Try.underlying161
  a218 := Try.isAgg161
  z218 := Try.sizeOf161
  v218 := Try.zeroValue161
  t222 := Try.underlying165
  a222 := Try.isAgg165
  z222 := Try.sizeOf165
  v222 := Try.zeroValue165
  t228 := Try.underlying167
  a228 := Try.isAgg167
  z228 := Try.sizeOf167
  v228 := Try.zeroValue167
  t229 := Try.underlying134
  a229 := Try.isAgg134
  z229 := Try.sizeOf134
  v229 := Try.zeroValue134 }
end Go.Proofs

namespace Go.Proofs.Ytkdeopioelocnaa
open Go.GL
set_option linter.unusedVariables false
theorem ye_ti142 : tyInt Try.prog 142 .u64 = true := by kernel_rfl
theorem ye_ti3 : tyInt Try.prog 3 .i64 = true := by kernel_rfl
theorem ye_tl22 : tySlice Try.prog 22 3 = true := by kernel_rfl
theorem collect_spec {gf : FuncId} {cap : List Value} {step : List Int → Int → Prop} {fin : List Int → Prop} {L0 M : List HP} {F : List Fact} (hcall : ∀ args w, (callFunc gf args).run Try.prog w = .ok (.enter gf args) w) (hit : IterG Try.prog gf cap keyEnc step fin L0 F) (hst : ∀ pre x, step pre x → pre.length < 1000) : Ctr Try.prog 87 [.func (.func gf) #[] cap.toArray] (L0 ++ M) F {z : List Int × Option Addr × Nat // fin z.1} (fun z => .slice z.1.2.1 z.1.1.length z.1.2.2) (fun z => OwnSl 3 1 z.1.2.1 z.1.1.length z.1.2.2 (ints z.1.1) :: (L0 ++ M)) (fun _ => F) := by
  refine Ctr.body Try.func87 rfl rfl ?_
  refine TR.seq ?_
  refine TR.region ?_
  refine RL.assign rfl rfl rfl ?_
  refine RL.nil ?_
  refine NX.seq ?_
  refine TR.seq ?_
  refine TR.region ?_
  refine RL.move rfl rfl rfl ?_
  refine RL.call rfl rfl Try.call97 rfl (apseq_spec hcall hit hst) (fun z => ?_)
  refine RL.assign rfl rfl rfl ?_
  refine RL.nil ?_
  refine NX.seq ?_
  refine TR.ret ?_
  exact NX.ret1 z rfl rfl rfl (fun w hw => hw)
theorem sort_nil {M : List HP} {F : List Fact} : Ctr Try.prog 88 [.slice none 0 0] (OwnSl 3 1 none 0 0 (ints []) :: M) F Unit (fun _ => .tuple #[]) (fun _ => OwnSl 3 1 none 0 0 (ints []) :: M) (fun _ => F) := by
  refine Ctr.body Try.func88 rfl rfl ?_
  refine TR.seq ?_
  refine TR.region ?_
  refine RL.move rfl rfl rfl ?_
  refine RL.lenSlice rfl ye_tl22 rfl rfl ?_
  refine RL.assign rfl rfl rfl ?_
  refine RL.nil ?_
  refine NX.seq ?_
  refine TR.region ?_
  refine RL.move rfl rfl rfl ?_
  refine RL.move rfl rfl rfl ?_
  refine RL.move rfl rfl rfl ?_
  refine RL.conv rfl rfl (ConvV.iu (n := 0) ye_ti3 ye_ti142 (by decide)) rfl ?_
  refine RL.call rfl rfl Try.call99 rfl (lenG (ρ := Try.lays189_ren) { Try.lays189 with } (n := 0) (by decide)) (fun zl => ?_)
  refine RL.call rfl rfl Try.call98 rfl (pdq_spec (l0 := []) (by decide) (by decide)) (fun z => ?_)
  refine RL.nil ?_
  exact NX.end0 () rfl rfl (fun w hw => by have h9 := List.perm_nil.1 z.2.1; rw [h9] at hw; exact hw)
theorem sort_spec {l : List Int} {oa : Option Addr} {c : Nat} {M : List HP} {F : List Fact} (hl : l.length < 4611686018427387904) :
    Ctr Try.prog 88 [.slice oa l.length c] (OwnSl 3 1 oa l.length c (ints l) :: M) F Unit (fun _ => .tuple #[]) (fun _ => OwnSl 3 1 oa l.length c (ints (srt l)) :: M) (fun _ => F) := by
  have key : ∀ w, St w (OwnSl 3 1 oa l.length c (ints l) :: M) F → (oa = none ∧ l = [] ∧ c = 0) ∨ ∃ g, oa = some ⟨g, 0, none⟩ := by
    intro w hw
    obtain ⟨K, ⟨K1, K2, eK, h1, h2⟩, hn, hf⟩ := hw
    rcases h1.1.2 with ⟨h0, h0'⟩ | ⟨g', cap', cur, hv, _⟩
    · simp only [Value.slice.injEq] at h0
      exact .inl ⟨h0.1, List.length_eq_zero_iff.1 h0.2.1, h0.2.2⟩
    · simp only [Value.slice.injEq] at hv
      exact .inr ⟨g', hv.1⟩
  intro w hw
  rcases key w hw with ⟨rfl, rfl, rfl⟩ | ⟨g, rfl⟩
  · rw [srt_nil]; exact sort_nil w hw
  · exact sortG Try.lays189 hl w hw
theorem sorted_spec {gf : FuncId} {cap : List Value} {step : List Int → Int → Prop} {fin : List Int → Prop} {L0 M : List HP} {F : List Fact} (hcall : ∀ args w, (callFunc gf args).run Try.prog w = .ok (.enter gf args) w) (hit : IterG Try.prog gf cap keyEnc step fin L0 F) (hst : ∀ pre x, step pre x → pre.length < 1000) (hfl : ∀ xs, fin xs → xs.length ≤ 1000) : Ctr Try.prog 66 [.func (.func gf) #[] cap.toArray] (L0 ++ M) F {z : List Int × Option Addr × Nat // fin z.1} (fun z => .slice z.1.2.1 z.1.1.length z.1.2.2) (fun z => OwnSl 3 1 z.1.2.1 z.1.1.length z.1.2.2 (ints (srt z.1.1)) :: (L0 ++ M)) (fun _ => F) := by
  refine Ctr.body Try.func66 rfl rfl ?_
  refine TR.seq ?_
  refine TR.region ?_
  refine RL.assign rfl rfl rfl ?_
  refine RL.nil ?_
  refine NX.seq ?_
  refine TR.seq ?_
  refine TR.region ?_
  refine RL.move rfl rfl rfl ?_
  refine RL.call rfl rfl Try.call87 rfl (collect_spec hcall hit hst) (fun z => ?_)
  refine RL.assign rfl rfl rfl ?_
  refine RL.nil ?_
  refine NX.seq ?_
  refine TR.seq ?_
  refine TR.region ?_
  refine RL.move rfl rfl rfl ?_
  refine RL.call rfl rfl Try.call88 rfl (sort_spec (by have := hfl z.1.1 z.2; omega)) (fun _ => ?_)
  refine RL.nil ?_
  refine NX.seq ?_
  refine TR.seq ?_
  refine TR.region ?_
  refine RL.move rfl rfl rfl ?_
  refine RL.assign rfl rfl rfl ?_
  refine RL.nil ?_
  refine NX.seq ?_
  refine TR.ret ?_
  exact NX.ret1 z rfl rfl rfl (fun w hw => hw)
end Go.Proofs.Ytkdeopioelocnaa

namespace Go.Proofs
open Go.Shelf
end Go.Proofs

namespace Go.GL
open Go.Shelf Go.Proofs
end Go.GL

namespace Go.Proofs.Ytkdeopioelocnaa
open Go.GL
set_option linter.unusedVariables false
theorem ql_bs81_1_0 (x00 : List UInt8) (x01 : Option Addr) (x01n x01c : Nat) : BuildSV Try.prog 81 80 1 [(0, .agg #[S x00, .slice x01 x01n x01c])] [S x00, .slice x01 x01n x01c] := fun w => by kernel_rfl
theorem ql_bv80_0 (x0 : List UInt8) : BuildV Try.prog 80 [(0, S x0)] (.agg #[S x0, .slice none 0 0]) := fun w => by kernel_rfl
theorem ql_bv84_0_1_2 (x0 : Int) (x1 : Option Addr) (x1n x1c : Nat) (x2 : Option Nat) : BuildV Try.prog 84 [(0, .int .i64 x0), (1, .slice x1 x1n x1c), (2, .map x2)] (.agg #[.int .i64 x0, .slice x1 x1n x1c, .map x2]) := fun w => by kernel_rfl
theorem ql_tf84_0 : fieldOff Try.prog 84 0 0 = true := by kernel_rfl
theorem ql_tf84_1 : fieldOff Try.prog 84 1 1 = true := by kernel_rfl
theorem ql_tf84_2 : fieldOff Try.prog 84 2 2 = true := by kernel_rfl
theorem ql_tl81 : tySlice Try.prog 81 80 = true := by kernel_rfl
theorem ql_tm82 : tyMap Try.prog 82 3 28 = true := by kernel_rfl
theorem ql_ts3 : tyScalar Try.prog 3 = true := by kernel_rfl
theorem ql_ts81 : tyScalar Try.prog 81 = true := by kernel_rfl
theorem ql_ts82 : tyScalar Try.prog 82 = true := by kernel_rfl
theorem ql_tstr9 : tyStr Try.prog 9 = true := by kernel_rfl
theorem held_spec {b : Nat} {d : Dp} {h : Hs} {M : List HP} {F : List Fact} (hr : RelD d h) : Ctr Try.prog 33 [.pointer (some ⟨b, 0, none⟩)] (DocB 84 80 b (d) :: M) F (Option Addr × Nat) (fun z => .slice z.1 (srt (h.held.map Prod.fst)).length z.2) (fun _ => DocB 84 80 b (d) :: M) (fun z => ArrF z.1 (ints (srt (h.held.map Prod.fst))) :: F) := by
  refine Ctr.body Try.func33 rfl rfl ?_
  refine TR.seq ?_
  refine TR.region ?_
  refine RL.assign rfl rfl rfl ?_
  refine RL.nil ?_
  refine NX.seq ?_
  refine TR.seq ?_
  have hfw := hr.ok.few
  have hhl := hr.heldLen
  refine TR.open (fun w hw => (St.exOpen (show St w (Ex _ :: _) _ from hw))) (fun ic => ?_)
  refine TR.region ?_
  refine RL.move rfl rfl rfl ?_
  refine RL.nilCheck rfl rfl rfl ?_
  refine RL.fieldAddr rfl ql_tf84_2 rfl rfl ?_
  refine RL.load1 0 rfl ql_ts82 rfl rfl rfl rfl ?_
  refine RL.call rfl rfl Try.call67 rfl (mkeys_spec) (fun bm => ?_)
  refine RL.call rfl rfl Try.call66 rfl (Ctr.pick 4 [0, 3, 1, 2] rfl (sorted_spec (L0 := [Box bm 82 [.map (some d.m)], MpB d.m (heldV d.held)]) Try.call89 (keys_iter (by rw [heldV_keys]; exact hr.keys)) (fun pre x ⟨suf, hp⟩ => by have h9 := hp.length_eq; rw [heldV_keys, List.length_append, List.length_cons, List.length_map] at h9; omega) (fun xs hp => by have h9 := hp.length_eq; rw [heldV_keys, List.length_map] at h9; omega))) (fun z => ?_)
  refine RL.assign rfl rfl rfl ?_
  refine RL.nil ?_
  refine NX.seq ?_
  refine TR.ret ?_
  have hz : srt z.1.1 = srt (h.held.map Prod.fst) := srt_of_perm (z.2.trans (List.Perm.of_eq ((heldV_keys _).trans hr.keysH)))
  have hzl : z.1.1.length = (srt (h.held.map Prod.fst)).length := by rw [← hz, srt_len]
  refine NX.ret1 (z.1.2.1, z.1.2.2) rfl rfl (by rw [hzl]) (fun w hw => ?_)
  have h9 := (hw.to 5 [0, 3, 4, 2] 0 [] rfl)
  rw [hz] at h9
  exact St.docClose rfl rfl rfl rfl rfl (show St w _ _ from h9.keepSl)
theorem new_spec {tx : List UInt8} {ver : Int} {M : List HP} {F : List Fact} (htx : tx.length ≤ 4096) (hv0 : 0 ≤ ver) (hv1 : ver ≤ 1099511627776) : Ctr Try.prog 13 [S tx, I ver] M F {q : Nat × Dp // RelD q.2 ⟨ver, [(tx, [])], []⟩} (fun q => .tuple #[.pointer (some ⟨q.1.1, 0, none⟩), I 0]) (fun q => DocB 84 80 q.1.1 (q.1.2) :: M) (fun q => DocF q.1.2 :: F) := by
  refine Ctr.body Try.func13 rfl rfl ?_
  refine TR.seq ?_
  refine TR.region ?_
  refine RL.assign rfl rfl rfl ?_
  refine RL.assign rfl rfl rfl ?_
  refine RL.nil ?_
  refine NX.seq ?_
  refine TR.seq ?_
  refine TR.seq ?_
  refine TR.region ?_
  refine RL.move rfl rfl rfl ?_
  refine RL.lenStr rfl ql_tstr9 rfl rfl ?_
  refine RL.bin rfl rfl rfl (BinV.to (d := false) BinV.gtr (decide_eq_false (by omega))) rfl ?_
  refine RL.nil ?_
  refine NX.seq ?_
  refine TR.condF rfl ?_
  refine TR.skip ?_
  refine NX.seq ?_
  refine TR.seq ?_
  refine TR.seq ?_
  refine TR.region ?_
  refine RL.move rfl rfl rfl ?_
  refine RL.bin rfl rfl rfl (BinV.to (d := false) BinV.lss (decide_eq_false (by omega))) rfl ?_
  refine RL.move rfl rfl rfl ?_
  refine RL.move rfl rfl rfl ?_
  refine RL.bin rfl rfl rfl (BinV.to (d := false) BinV.gtr (decide_eq_false (by omega))) rfl ?_
  refine RL.pickF rfl rfl rfl rfl ?_
  refine RL.nil ?_
  refine NX.seq ?_
  refine TR.condF rfl ?_
  refine TR.skip ?_
  refine NX.seq ?_
  refine TR.seq ?_
  refine TR.region ?_
  refine RL.move rfl rfl rfl ?_
  refine RL.move rfl rfl rfl ?_
  refine RL.build rfl rfl (ql_bv80_0 _) rfl ?_
  refine RL.buildSlice rfl rfl (ql_bs81_1_0 _ _ _ _) rfl (fun b1 => ?_)
  refine RL.weak (fun w hw => St.boxSl (n := 1) (size := 2) rfl (by decide) hw) ?_
  refine RL.ofGV rfl rfl GV.makeMap (fun m => ?_)
  refine RL.build rfl rfl (ql_bv84_0_1_2 _ _ _ _ _) rfl ?_
  refine RL.boxA rfl rfl rfl (fun b2 => ?_)
  refine RL.assign rfl rfl rfl ?_
  refine RL.assign rfl rfl rfl ?_
  refine RL.nil ?_
  refine NX.seq ?_
  refine TR.ret ?_
  refine NX.ret2 (⟨(b2, ⟨ver, [⟨tx, [], none, 0⟩], m, []⟩), RelD.new htx hv0 hv1⟩ : {q : Nat × Dp // RelD q.2 ⟨ver, [(tx, [])], []⟩}) rfl rfl rfl rfl (fun w hw => ?_)
  have h9 : St w (DocB 84 80 b2 (⟨ver, [⟨tx, [], none, 0⟩], m, []⟩) :: M) F := St.docClose rfl rfl rfl rfl rfl (show St w (_ :: _ :: _ :: M) F from (hw.to 3 [0, 2, 1] 0 [] rfl))
  exact h9.derive (fun K hf => ⟨fun r hr => by rw [List.mem_singleton.1 hr]; exact .inl rfl, fun x hx => absurd hx (by simp)⟩)
theorem new_bad {tx : List UInt8} {ver : Int} {M : List HP} {F : List Fact} (htx : tx.length ≤ 4096) (hb : ver < 0 ∨ 1099511627776 < ver) : Ctr Try.prog 13 [S tx, I ver] M F Unit (fun _ => .tuple #[.pointer none, I 1]) (fun _ => M) (fun _ => F) := by
  refine Ctr.body Try.func13 rfl rfl ?_
  refine TR.seq ?_
  refine TR.region ?_
  refine RL.assign rfl rfl rfl ?_
  refine RL.assign rfl rfl rfl ?_
  refine RL.nil ?_
  refine NX.seq ?_
  refine TR.seq ?_
  refine TR.seq ?_
  refine TR.region ?_
  refine RL.move rfl rfl rfl ?_
  refine RL.lenStr rfl ql_tstr9 rfl rfl ?_
  refine RL.bin rfl rfl rfl (BinV.to (d := false) BinV.gtr (decide_eq_false (by omega))) rfl ?_
  refine RL.nil ?_
  refine NX.seq ?_
  refine TR.condF rfl ?_
  refine TR.skip ?_
  refine NX.seq ?_
  refine TR.seq ?_
  refine TR.seq ?_
  refine TR.region ?_
  refine RL.move rfl rfl rfl ?_
  refine RL.bin rfl rfl rfl BinV.lss rfl ?_
  refine RL.move rfl rfl rfl ?_
  refine RL.part (fun h1 => ?_) (fun h1 => ?_)
  · skip
    refine RL.skip rfl rfl rfl ?_
    refine RL.skip rfl rfl rfl ?_
    refine RL.pickT rfl rfl rfl rfl ?_
    refine RL.nil ?_
    refine NX.seq ?_
    refine TR.condT rfl ?_
    refine TR.seq ?_
    refine TR.region ?_
    refine RL.assign rfl rfl rfl ?_
    refine RL.assign rfl rfl rfl ?_
    refine RL.nil ?_
    refine NX.seq ?_
    refine TR.ret ?_
    refine NX.retThen ?_
    exact NX.ret2 () rfl rfl rfl rfl (fun w hw => hw)
  · skip
    have hn0 := of_decide_eq_false h1
    refine RL.move rfl rfl rfl ?_
    refine RL.bin rfl rfl rfl (BinV.to (d := true) BinV.gtr (decide_eq_true (by omega))) rfl ?_
    refine RL.pickF rfl rfl rfl rfl ?_
    refine RL.nil ?_
    refine NX.seq ?_
    refine TR.condT rfl ?_
    refine TR.seq ?_
    refine TR.region ?_
    refine RL.assign rfl rfl rfl ?_
    refine RL.assign rfl rfl rfl ?_
    refine RL.nil ?_
    refine NX.seq ?_
    refine TR.ret ?_
    refine NX.retThen ?_
    exact NX.ret2 () rfl rfl rfl rfl (fun w hw => hw)
theorem dedit_spec {l : List Ed} {oa : Option Addr} {ca : Nat} {b : Nat} {d : Dp} {h : Hs} {M : List HP} {F : List Fact} (hr : RelD d h) (hD : DocF d ∈ F) (hl : ArrF oa (edC l) ∈ F) (hll : l.length ≤ 1099511627776) (hb : soundE h.tx.length l = 0 → (applyGo h.tx 0 l).length ≤ 140737488355328) : Ctr Try.prog 16 [.pointer (some ⟨b, 0, none⟩), .slice oa l.length ca] (DocB 84 80 b (d) :: M) F {q : Dp // RelD q (editH h l).2} (fun _ => .tuple #[I (editH h l).1.1, I (editH h l).1.2]) (fun q => DocB 84 80 b (q.1) :: M) (fun q => DocF q.1 :: F) := by
  refine Ctr.body Try.func16 rfl rfl ?_
  refine TR.seq ?_
  refine TR.region ?_
  refine RL.assign rfl rfl rfl ?_
  refine RL.assign rfl rfl rfl ?_
  refine RL.nil ?_
  refine NX.seq ?_
  refine TR.seq ?_
  refine TR.seq ?_
  have hhl := hr.heldLen
  have hkv : (heldV d.held).length = d.held.length := List.length_map _
  have hv1x := hr.ok.v1
  have hvv := hr.v
  refine TR.open (fun w hw => (St.exOpen (show St w (Ex _ :: _) _ from hw))) (fun ic => ?_)
  refine TR.region ?_
  refine RL.move rfl rfl rfl ?_
  refine RL.nilCheck rfl rfl rfl ?_
  refine RL.fieldAddr rfl ql_tf84_2 rfl rfl ?_
  refine RL.load1 0 rfl ql_ts82 rfl rfl rfl rfl ?_
  refine RL.lenMap 2 rfl ql_tm82 rfl rfl rfl ?_
  refine RL.bin rfl rfl rfl BinV.gtr rfl ?_
  refine RL.nil ?_
  refine NX.seq ?_
  refine TR.cond rfl (fun h1 => ?_) (fun h1 => ?_)
  · skip
    have hh0 : 0 < h.held.length := by have := of_decide_eq_true h1; omega
    refine TR.seq ?_
    refine TR.region ?_
    refine RL.assign rfl rfl rfl ?_
    refine RL.assign rfl rfl rfl ?_
    refine RL.nil ?_
    refine NX.seq ?_
    refine TR.ret ?_
    refine NX.retThen ?_
    have hee : editH h l = ((0, 23), h) := if_pos hh0
    exact NX.ret2 (⟨d, by rw [hee]; exact hr⟩ : {q : Dp // RelD q (editH h l).2}) rfl rfl rfl (by rw [hee]) (fun w hw => (show St w (DocB 84 80 b (d) :: M) F from St.docClose (d := d) rfl rfl rfl rfl rfl (hw.to 3 [0, 1, 2] 0 [] rfl)).derive (ψ := DocF d) (fun K hf => hf _ hD))
  · skip
    have hh0 : ¬ 0 < h.held.length := by have := of_decide_eq_false h1; omega
    refine TR.skip ?_
    refine NX.seq ?_
    refine TR.seq ?_
    refine TR.seq ?_
    refine TR.region ?_
    refine RL.move rfl rfl rfl ?_
    refine RL.nilCheck rfl rfl rfl ?_
    refine RL.fieldAddr rfl ql_tf84_0 rfl rfl ?_
    refine RL.load1 0 rfl ql_ts3 rfl rfl rfl rfl ?_
    refine RL.bin rfl rfl rfl BinV.eql rfl ?_
    refine RL.nil ?_
    refine NX.seq ?_
    refine TR.cond rfl (fun h2 => ?_) (fun h2 => ?_)
    · skip
      have hvm : h.v = 1099511627776 := by have := of_decide_eq_true h2; omega
      refine TR.seq ?_
      refine TR.region ?_
      refine RL.assign rfl rfl rfl ?_
      refine RL.assign rfl rfl rfl ?_
      refine RL.nil ?_
      refine NX.seq ?_
      refine TR.ret ?_
      refine NX.retThen ?_
      have hee : editH h l = ((0, 5), h) := (if_neg hh0).trans (if_pos hvm)
      exact NX.ret2 (⟨d, by rw [hee]; exact hr⟩ : {q : Dp // RelD q (editH h l).2}) rfl rfl rfl (by rw [hee]) (fun w hw => (show St w (DocB 84 80 b (d) :: M) F from St.docClose (d := d) rfl rfl rfl rfl rfl (hw.to 3 [0, 1, 2] 0 [] rfl)).derive (ψ := DocF d) (fun K hf => hf _ hD))
    · skip
      have hvm : ¬ h.v = 1099511627776 := by have := of_decide_eq_false h2; omega
      have hv : h.v < 1099511627776 := by omega
      refine TR.skip ?_
      refine NX.seq ?_
      refine TR.seq ?_
      refine TR.seq ?_
      refine TR.weak (fun w hw => St.docClose (d := d) rfl rfl rfl rfl rfl (show St w (_ :: _ :: _ :: _) _ from hw.toM 3 [0, 1, 2] rfl)) ?_
      refine TR.region ?_
      refine RL.move rfl rfl rfl ?_
      refine RL.move rfl rfl rfl ?_
      refine RL.call rfl rfl Try.call49 rfl (bec_spec (l := l) hr hD hl hll hb hv) (fun q => ?_)
      refine RL.assign rfl rfl rfl ?_
      refine RL.nil ?_
      refine NX.seq ?_
      refine TR.seq ?_
      refine TR.region ?_
      refine RL.move rfl rfl rfl ?_
      refine RL.bin rfl rfl rfl BinV.neq rfl ?_
      refine RL.nil ?_
      refine NX.seq ?_
      refine TR.cond rfl (fun h3 => ?_) (fun h3 => ?_)
      · skip
        have hbe : (becH h l).1 ≠ 0 := of_decide_eq_true h3
        refine TR.seq ?_
        refine TR.region ?_
        refine RL.move rfl rfl rfl ?_
        refine RL.assign rfl rfl rfl ?_
        refine RL.assign rfl rfl rfl ?_
        refine RL.nil ?_
        refine NX.seq ?_
        refine TR.ret ?_
        refine NX.retThen ?_
        have hee : editH h l = ((0, (becH h l).1), h) := (if_neg hh0).trans ((if_neg hvm).trans (if_pos hbe))
        refine NX.ret2 (⟨q.1, by rw [hee]; exact q.2.of ((becH_ok (l := l) hr.ok hv).2.2 hbe)⟩ : {q : Dp // RelD q (editH h l).2}) rfl rfl rfl (by rw [hee]) (fun w hw => (hw.to 1 [0] 1 [0] rfl))
      · skip
        have hbe : ¬ (becH h l).1 ≠ 0 := of_decide_eq_false h3
        refine TR.skip ?_
        refine NX.seq ?_
        refine TR.seq ?_
        refine TR.open (fun w hw => (St.exOpen (show St w (Ex _ :: _) _ from hw))) (fun ic => ?_)
        refine TR.region ?_
        refine RL.move rfl rfl rfl ?_
        refine RL.nilCheck rfl rfl rfl ?_
        refine RL.fieldAddr rfl ql_tf84_0 rfl rfl ?_
        refine RL.load1 0 rfl ql_ts3 rfl rfl rfl rfl ?_
        refine RL.assign rfl rfl rfl ?_
        refine RL.assign rfl rfl rfl ?_
        refine RL.nil ?_
        refine NX.seq ?_
        refine TR.ret ?_
        have hee : editH h l = (((becH h l).2.v, 0), (becH h l).2) := (if_neg hh0).trans ((if_neg hvm).trans (if_neg hbe))
        refine NX.ret2 (⟨q.1, by rw [hee]; exact q.2⟩ : {q : Dp // RelD q (editH h l).2}) rfl rfl rfl (by rw [hee, q.2.v]) (fun w hw => St.docClose (d := q.1) rfl rfl rfl rfl rfl (hw.to 3 [0, 1, 2] 1 [0] rfl))
theorem index_spec {ver : Int} {b : Nat} {d : Dp} {h : Hs} {M : List HP} {F : List Fact} (hr : RelD d h) (hver : I64 ver) : Ctr Try.prog 53 [.pointer (some ⟨b, 0, none⟩), I ver] (DocB 84 80 b (d) :: M) F {q : Int × Bool // IdxR d h ver q} (fun q => .tuple #[I q.1.1, .bool q.1.2]) (fun _ => DocB 84 80 b (d) :: M) (fun _ => F) := by
  obtain ⟨hver0, hver1⟩ := hver
  refine Ctr.body Try.func53 rfl rfl ?_
  refine TR.seq ?_
  refine TR.region ?_
  refine RL.assign rfl rfl rfl ?_
  refine RL.assign rfl rfl rfl ?_
  refine RL.nil ?_
  refine NX.seq ?_
  refine TR.seq ?_
  refine TR.seq ?_
  have hrl := hr.len
  have hv0 := hr.ok.v0
  have hv1x := hr.ok.v1
  have hvv := hr.v
  refine TR.open (fun w hw => (St.exOpen (show St w (Ex _ :: _) _ from hw))) (fun ic => ?_)
  refine TR.region ?_
  refine RL.move rfl rfl rfl ?_
  refine RL.move rfl rfl rfl ?_
  refine RL.nilCheck rfl rfl rfl ?_
  refine RL.fieldAddr rfl ql_tf84_0 rfl rfl ?_
  refine RL.load1 0 rfl ql_ts3 rfl rfl rfl rfl ?_
  refine RL.bin rfl rfl rfl BinV.gtr rfl ?_
  refine RL.move rfl rfl rfl ?_
  refine RL.part (fun h1 => ?_) (fun h1 => ?_)
  · skip
    have hno : d.v < ver ∨ ver < d.v - 16 := .inl (of_decide_eq_true h1)
    refine RL.skip rfl rfl rfl ?_
    refine RL.skip rfl rfl rfl ?_
    refine RL.skip rfl rfl rfl ?_
    refine RL.skip rfl rfl rfl ?_
    refine RL.skip rfl rfl rfl ?_
    refine RL.skip rfl rfl rfl ?_
    refine RL.skip rfl rfl rfl ?_
    refine RL.pickT rfl rfl rfl rfl ?_
    refine RL.nil ?_
    refine NX.seq ?_
    refine TR.condT rfl ?_
    refine TR.seq ?_
    refine TR.region ?_
    refine RL.assign rfl rfl rfl ?_
    refine RL.assign rfl rfl rfl ?_
    refine RL.nil ?_
    refine NX.seq ?_
    refine TR.ret ?_
    refine NX.retThen ?_
    exact NX.ret2 (⟨(0, false), hr.idxNo hno⟩ : {q : Int × Bool // IdxR d h ver q}) rfl rfl rfl rfl (fun w hw => St.docClose (d := d) rfl rfl rfl rfl rfl (hw.to 3 [0, 1, 2] 0 [] rfl))
  · skip
    have hy1 := of_decide_eq_false h1
    refine RL.move rfl rfl rfl ?_
    refine RL.move rfl rfl rfl ?_
    refine RL.nilCheck rfl rfl rfl ?_
    refine RL.fieldAddr rfl ql_tf84_0 rfl rfl ?_
    refine RL.load1 0 rfl ql_ts3 rfl rfl rfl rfl ?_
    refine RL.bin rfl rfl rfl (BinV.sub _ rfl (by omega) (by omega)) rfl ?_
    refine RL.bin rfl rfl rfl BinV.lss rfl ?_
    refine RL.pickF rfl rfl rfl rfl ?_
    refine RL.nil ?_
    refine NX.seq ?_
    refine TR.cond rfl (fun h2 => ?_) (fun h2 => ?_)
    · skip
      have hno : d.v < ver ∨ ver < d.v - 16 := .inr (of_decide_eq_true h2)
      refine TR.seq ?_
      refine TR.region ?_
      refine RL.assign rfl rfl rfl ?_
      refine RL.assign rfl rfl rfl ?_
      refine RL.nil ?_
      refine NX.seq ?_
      refine TR.ret ?_
      refine NX.retThen ?_
      exact NX.ret2 (⟨(0, false), hr.idxNo hno⟩ : {q : Int × Bool // IdxR d h ver q}) rfl rfl rfl rfl (fun w hw => St.docClose (d := d) rfl rfl rfl rfl rfl (hw.to 3 [0, 1, 2] 0 [] rfl))
    · skip
      have hy2 := of_decide_eq_false h2
      refine TR.skip ?_
      refine NX.seq ?_
      refine TR.seq ?_
      refine TR.sub (E' := [(0, _), (1, _), (4, _), (5, _)]) ⟨rfl, rfl, rfl, rfl, trivial⟩ ?_
      refine TR.draw mixed ?_
      apply AR.more [(0, _), (1, _), (2, _), (3, _), (4, _), (5, _), (6, _), (7, _), (8, _), (9, _), (10, _), (11, _), (12, _), (13, _)]
      refine AR.last [0, 1, 2, 3, 4, 5, 6, 7, 8, 9, 10, 11, 12, 13] [0, 1, 2, 3, 4, 5, 6, 7, 8, 9, 10, 11, 12, 13] ⟨QOne.yes rfl rfl rfl (PV.move rfl), QOne.yes rfl rfl rfl (PV.nilCheck rfl), QOne.yes rfl rfl rfl (PV.fieldAddr ql_tf84_1 rfl), QOne.yes rfl rfl rfl (PV.load1 0 ql_ts81 rfl rfl rfl), QOne.yes rfl rfl rfl (PV.lenSlice ql_tl81 rfl), QOne.yes rfl rfl rfl (PV.bin rfl rfl (BinV.sub _ rfl (by omega) (by omega))), QOne.yes rfl rfl rfl (PV.move rfl), QOne.yes rfl rfl rfl (PV.nilCheck rfl), QOne.yes rfl rfl rfl (PV.fieldAddr ql_tf84_0 rfl), QOne.yes rfl rfl rfl (PV.load1 0 ql_ts3 rfl rfl rfl), QOne.yes rfl rfl rfl (PV.move rfl), QOne.yes rfl rfl rfl (PV.bin rfl rfl (BinV.sub _ rfl (by omega) (by omega))), QOne.yes rfl rfl rfl (PV.bin rfl rfl (BinV.sub _ rfl (by omega) (by omega))), QOne.yes rfl rfl rfl (PV.assign rfl), trivial⟩ rfl rfl rfl ?_
      refine NX.sub (E' := [(4, _), (5, _), (6, _)]) ⟨rfl, rfl, rfl, trivial⟩ ?_
      refine NX.seq ?_
      refine TR.seq ?_
      refine TR.region ?_
      refine RL.move rfl rfl rfl ?_
      refine RL.move rfl rfl rfl ?_
      refine RL.bin rfl rfl rfl BinV.geq rfl ?_
      refine RL.assign rfl rfl rfl ?_
      refine RL.assign rfl rfl rfl ?_
      refine RL.nil ?_
      refine NX.seq ?_
      refine TR.ret ?_
      exact NX.ret2 (⟨_, hr.idx (by omega) (by omega)⟩ : {q : Int × Bool // IdxR d h ver q}) rfl rfl rfl rfl (fun w hw => St.docClose (d := d) rfl rfl rfl rfl rfl (hw.to 3 [0, 1, 2] 0 [] rfl))
end Go.Proofs.Ytkdeopioelocnaa

namespace Go.Proofs.Ytkdeopioelocnaa
open Go.GL
set_option linter.unusedVariables false
theorem qm_bs26_1_0 (x00 : Int) (x01 : Int) (x02 : List UInt8) : BuildSV Try.prog 26 78 1 [(0, .agg #[.int .i64 x00, .int .i64 x01, S x02])] [.int .i64 x00, .int .i64 x01, S x02] := fun w => by kernel_rfl
theorem qm_bv78_0_1_2 (x0 : Int) (x1 : Int) (x2 : List UInt8) : BuildV Try.prog 78 [(0, .int .i64 x0), (1, .int .i64 x1), (2, S x2)] (.agg #[.int .i64 x0, .int .i64 x1, S x2]) := fun w => by kernel_rfl
theorem qm_ta78 : tyAgg Try.prog 78 3 = true := by kernel_rfl
theorem qm_tl26 : tySlice Try.prog 26 78 = true := by kernel_rfl
theorem qm_tstr9 : tyStr Try.prog 9 = true := by kernel_rfl
theorem qm_tz78 : tySize Try.prog 78 3 = true := by kernel_rfl
theorem diffx_spec {a b : List UInt8} {M : List HP} {F : List Fact} (hla : a.length ≤ 4611686018427387904) (hlb : b.length ≤ 4611686018427387904) : Ctr Try.prog 55 [S a, S b] M F RdX (fun z => .slice z.oa (diffE a b).length z.c) (fun _ => M) (fun z => ArrF z.oa (edC (diffE a b)) :: F) := by
  refine Ctr.body Try.func55 rfl rfl ?_
  refine TR.seq ?_
  refine TR.region ?_
  refine RL.assign rfl rfl rfl ?_
  refine RL.nil ?_
  refine NX.seq ?_
  refine TR.seq ?_
  refine TR.seq ?_
  refine TR.region ?_
  refine RL.move rfl rfl rfl ?_
  refine RL.move rfl rfl rfl ?_
  refine RL.bin rfl rfl rfl BinV.eqlS rfl ?_
  refine RL.nil ?_
  refine NX.seq ?_
  refine TR.cond rfl (fun h1 => ?_) (fun h1 => ?_)
  · skip
    have hab : a = b := of_decide_eq_true h1
    refine TR.seq ?_
    refine TR.region ?_
    refine RL.assign rfl rfl rfl ?_
    refine RL.nil ?_
    refine NX.seq ?_
    refine TR.ret ?_
    refine NX.retThen ?_
    rw [diffE_same hab]
    exact NX.ret1x rfl rfl (fun w hw => ⟨⟨none, 0⟩, rfl, hw.arr0⟩)
  · skip
    have hab : ¬ a = b := of_decide_eq_false h1
    refine TR.skip ?_
    refine NX.seq ?_
    refine TR.seq ?_
    refine TR.region ?_
    refine RL.move rfl rfl rfl ?_
    refine RL.lenStr rfl qm_tstr9 rfl rfl ?_
    refine RL.move rfl rfl rfl ?_
    refine RL.lenStr rfl qm_tstr9 rfl rfl ?_
    refine RL.min rfl rfl rfl rfl ?_
    refine RL.assign rfl rfl rfl ?_
    refine RL.nil ?_
    refine NX.seq ?_
    refine TR.seq ?_
    refine TR.region ?_
    refine RL.assign rfl rfl rfl ?_
    refine RL.nil ?_
    refine NX.seq ?_
    refine TR.seq ?_
    refine TR.block ?_
    refine TR.loopP (ι := Nat) (fun x => x ≤ a.length ∧ x ≤ b.length ∧ a.take x = b.take x) (fun x => [(0, S a), (1, S b), (5, I (min (a.length : Int) b.length)), (6, I x)]) (fun _ => M) (fun _ => F) (fun x => a.length - x) 0 ⟨Nat.zero_le _, Nat.zero_le _, rfl⟩ ⟨rfl, rfl, rfl, rfl, trivial⟩ (fun w hw => hw) (fun x hx => ?_)
    refine TR.seq ?_
    refine TR.seq ?_
    refine TR.sub (E' := [(0, _), (1, _), (5, _), (6, _)]) ⟨rfl, rfl, rfl, rfl, trivial⟩ ?_
    refine TR.draw mixed ?_
    cases h2 : decide ((x : Int) < min (a.length : Int) b.length)
    · skip
      have hpx : lcp a b = x := lcp_stop hx.1 hx.2.1 hx.2.2 (by have := of_decide_eq_false h2; omega)
      apply AR.more [(0, _), (1, _), (2, _), (3, .bool false), (4, undef), (5, undef), (6, undef), (7, undef), (8, undef), (9, undef), (10, undef), (11, .bool false)]
      refine AR.last [0, 1, 2, 3, 4, 5, 6, 7, 8, 9, 10, 11] [0, 1, 2, 3, 4, 5, 6, 7, 8, 9, 10, 11] ⟨QOne.yes rfl rfl rfl (PV.move rfl), QOne.yes rfl rfl rfl (PV.move rfl), QOne.yes rfl rfl rfl (PV.bin rfl rfl BinV.lss), QOne.yes rfl rfl rfl (PV.cast (congrArg Value.bool h2) (PV.move rfl)), QOne.no rfl rfl rfl, QOne.no rfl rfl rfl, QOne.no rfl rfl rfl, QOne.no rfl rfl rfl, QOne.no rfl rfl rfl, QOne.no rfl rfl rfl, QOne.no rfl rfl rfl, QOne.yes rfl rfl rfl (PV.pickF rfl rfl), trivial⟩ rfl rfl rfl ?_
      refine NX.sub (E' := [(0, _), (1, _), (5, _), (6, _), (16, _), (17, _), (18, _), (19, _), (20, _), (21, _), (22, _), (23, _), (24, _), (25, _), (26, _), (27, _)]) ⟨rfl, rfl, rfl, rfl, rfl, rfl, rfl, rfl, rfl, rfl, rfl, rfl, rfl, rfl, rfl, rfl, trivial⟩ ?_
      refine NX.seq ?_
      refine TR.condF rfl ?_
      refine TR.exit ?_
      refine NX.exitThen ?_
      refine NX.exitThen ?_
      refine NX.exitHere ?_
      refine NX.seq ?_
      refine TR.seq ?_
      refine TR.region ?_
      refine RL.assign rfl rfl rfl ?_
      refine RL.nil ?_
      refine NX.seq ?_
      refine TR.seq ?_
      refine TR.block ?_
      refine TR.loopP (ι := Nat) (fun y => x + y ≤ a.length ∧ x + y ≤ b.length ∧ a.drop (a.length - y) = b.drop (b.length - y)) (fun y => [(0, S a), (1, S b), (5, I (min (a.length : Int) b.length)), (6, I x), (7, I y)]) (fun _ => M) (fun _ => F) (fun y => a.length - y) 0 ⟨hx.1, hx.2.1, by simp⟩ ⟨rfl, rfl, rfl, rfl, rfl, trivial⟩ (fun w hw => hw) (fun y hy => ?_)
      refine TR.seq ?_
      refine TR.seq ?_
      refine TR.sub (E' := [(0, _), (1, _), (5, _), (6, _), (7, _)]) ⟨rfl, rfl, rfl, rfl, rfl, trivial⟩ ?_
      refine TR.draw mixed ?_
      cases h3 : decide ((y : Int) < min (a.length : Int) b.length - x)
      · skip
        have hqy := suf_stop hy.1 hy.2.1 hy.2.2 (by have := of_decide_eq_false h3; omega)
        apply AR.more [(0, _), (1, _), (2, _), (3, _), (4, _), (5, .bool false), (6, undef), (7, undef), (8, undef), (9, undef), (10, undef), (11, undef), (12, undef), (13, undef), (14, undef), (15, undef), (16, undef), (17, undef), (18, undef), (19, undef), (20, undef), (21, .bool false)]
        refine AR.last [0, 1, 2, 3, 4, 5, 6, 7, 8, 9, 10, 11, 12, 13, 14, 15, 16, 17, 18, 19, 20, 21] [0, 1, 2, 3, 4, 5, 6, 7, 8, 9, 10, 11, 12, 13, 14, 15, 16, 17, 18, 19, 20, 21] ⟨QOne.yes rfl rfl rfl (PV.move rfl), QOne.yes rfl rfl rfl (PV.move rfl), QOne.yes rfl rfl rfl (PV.move rfl), QOne.yes rfl rfl rfl (PV.bin rfl rfl (BinV.sub _ rfl (by omega) (by omega))), QOne.yes rfl rfl rfl (PV.bin rfl rfl BinV.lss), QOne.yes rfl rfl rfl (PV.cast (congrArg Value.bool h3) (PV.move rfl)), QOne.no rfl rfl rfl, QOne.no rfl rfl rfl, QOne.no rfl rfl rfl, QOne.no rfl rfl rfl, QOne.no rfl rfl rfl, QOne.no rfl rfl rfl, QOne.no rfl rfl rfl, QOne.no rfl rfl rfl, QOne.no rfl rfl rfl, QOne.no rfl rfl rfl, QOne.no rfl rfl rfl, QOne.no rfl rfl rfl, QOne.no rfl rfl rfl, QOne.no rfl rfl rfl, QOne.no rfl rfl rfl, QOne.yes rfl rfl rfl (PV.pickF rfl rfl), trivial⟩ rfl rfl rfl ?_
        refine NX.sub (E' := [(0, _), (1, _), (5, _), (6, _), (7, _), (30, _), (31, _), (32, _), (33, _), (34, _), (35, _), (36, _), (37, _), (38, _), (39, _), (40, _), (41, _), (42, _), (43, _), (44, _), (45, _), (46, _), (47, _), (48, _), (49, _), (50, _), (51, _)]) ⟨rfl, rfl, rfl, rfl, rfl, rfl, rfl, rfl, rfl, rfl, rfl, rfl, rfl, rfl, rfl, rfl, rfl, rfl, rfl, rfl, rfl, rfl, rfl, rfl, rfl, rfl, rfl, trivial⟩ ?_
        refine NX.seq ?_
        refine TR.condF rfl ?_
        refine TR.exit ?_
        refine NX.exitThen ?_
        refine NX.exitThen ?_
        refine NX.exitHere ?_
        refine NX.seq ?_
        refine TR.seq ?_
        refine TR.region ?_
        refine RL.move rfl rfl rfl ?_
        refine RL.move rfl rfl rfl ?_
        refine RL.lenStr rfl qm_tstr9 rfl rfl ?_
        refine RL.move rfl rfl rfl ?_
        refine RL.bin rfl rfl rfl (BinV.sub _ rfl (by omega) (by omega)) rfl ?_
        refine RL.move rfl rfl rfl ?_
        refine RL.move rfl rfl rfl ?_
        refine RL.move rfl rfl rfl ?_
        refine RL.lenStr rfl qm_tstr9 rfl rfl ?_
        refine RL.move rfl rfl rfl ?_
        refine RL.bin rfl rfl rfl (BinV.sub _ rfl (by omega) (by omega)) rfl ?_
        refine RL.sliceS rfl qm_tstr9 rfl rfl rfl (by omega) (by omega) (by omega) rfl ?_
        refine RL.build rfl rfl (qm_bv78_0_1_2 _ _ _) rfl ?_
        refine RL.buildSlice rfl rfl (qm_bs26_1_0 _ _ _) rfl (fun b4 => ?_)
        refine RL.assign rfl rfl rfl ?_
        refine RL.nil ?_
        refine NX.seq ?_
        refine TR.ret ?_
        rw [diffE_is hab hpx hqy]
        have e1 : ((b.length : Int) - y).toNat = b.length - y := by omega
        have e2 : ((a.length : Int) - y) = ((a.length - y : Nat) : Int) := by omega
        refine NX.ret1x rfl rfl (fun w hw => ⟨⟨_, 1⟩, rfl, ?_⟩)
        have h9 := hw.boxArr
        rw [e1, e2, Int.toNat_natCast] at h9
        exact h9
      · skip
        have hy1 : x + y < a.length ∧ x + y < b.length := by have := of_decide_eq_true h3; omega
        have hya : (((a.length : Int) - 1) - y).toNat < a.length := by omega
        have hyb : (((b.length : Int) - 1) - y).toNat < b.length := by omega
        apply AR.more [(0, _), (1, _), (2, _), (3, _), (4, _), (5, .bool true), (6, _), (7, _), (8, _), (9, _), (10, _), (11, _), (12, _), (13, _), (14, _), (15, _), (16, _), (17, _), (18, _), (19, _), (20, _), (21, _)]
        refine AR.last [0, 1, 2, 3, 4, 5, 6, 7, 8, 9, 10, 11, 12, 13, 14, 15, 16, 17, 18, 19, 20, 21] [0, 1, 2, 3, 4, 5, 6, 7, 8, 9, 10, 11, 12, 13, 14, 15, 16, 17, 18, 19, 20, 21] ⟨QOne.yes rfl rfl rfl (PV.move rfl), QOne.yes rfl rfl rfl (PV.move rfl), QOne.yes rfl rfl rfl (PV.move rfl), QOne.yes rfl rfl rfl (PV.bin rfl rfl (BinV.sub _ rfl (by omega) (by omega))), QOne.yes rfl rfl rfl (PV.bin rfl rfl BinV.lss), QOne.yes rfl rfl rfl (PV.cast (congrArg Value.bool h3) (PV.move rfl)), QOne.yes rfl rfl rfl (PV.move rfl), QOne.yes rfl rfl rfl (PV.move rfl), QOne.yes rfl rfl rfl (PV.lenStr qm_tstr9 rfl), QOne.yes rfl rfl rfl (PV.bin rfl rfl (BinV.sub _ rfl (by omega) (by omega))), QOne.yes rfl rfl rfl (PV.move rfl), QOne.yes rfl rfl rfl (PV.bin rfl rfl (BinV.sub _ rfl (by omega) (by omega))), QOne.yes rfl rfl rfl (PV.indexS qm_tstr9 rfl rfl (by omega) (List.getElem?_eq_getElem hya)), QOne.yes rfl rfl rfl (PV.move rfl), QOne.yes rfl rfl rfl (PV.move rfl), QOne.yes rfl rfl rfl (PV.lenStr qm_tstr9 rfl), QOne.yes rfl rfl rfl (PV.bin rfl rfl (BinV.sub _ rfl (by omega) (by omega))), QOne.yes rfl rfl rfl (PV.move rfl), QOne.yes rfl rfl rfl (PV.bin rfl rfl (BinV.sub _ rfl (by omega) (by omega))), QOne.yes rfl rfl rfl (PV.indexS qm_tstr9 rfl rfl (by omega) (List.getElem?_eq_getElem hyb)), QOne.yes rfl rfl rfl (PV.bin rfl rfl BinV.eql), QOne.yes rfl rfl rfl (PV.pickT rfl rfl), trivial⟩ rfl rfl rfl ?_
        refine NX.sub (E' := [(0, _), (1, _), (5, _), (6, _), (7, _), (30, _), (31, _), (32, _), (33, _), (34, _), (35, _), (36, _), (37, _), (38, _), (39, _), (40, _), (41, _), (42, _), (43, _), (44, _), (45, _), (46, _), (47, _), (48, _), (49, _), (50, _), (51, _)]) ⟨rfl, rfl, rfl, rfl, rfl, rfl, rfl, rfl, rfl, rfl, rfl, rfl, rfl, rfl, rfl, rfl, rfl, rfl, rfl, rfl, rfl, rfl, rfl, rfl, rfl, rfl, rfl, trivial⟩ ?_
        refine NX.seq ?_
        refine TR.cond rfl (fun h5 => ?_) (fun h5 => ?_)
        · skip
          have hch : a[a.length - 1 - y]'(by omega) = b[b.length - 1 - y]'(by omega) := by
            have h8 := byte_eq (of_decide_eq_true h5)
            have e1 : (((a.length : Int) - 1) - y).toNat = a.length - 1 - y := by omega
            have e2 : (((b.length : Int) - 1) - y).toNat = b.length - 1 - y := by omega
            simp only [e1, e2] at h8
            exact h8
          refine TR.skip ?_
          refine NX.seq ?_
          refine TR.block ?_
          refine TR.region ?_
          refine RL.move rfl rfl rfl ?_
          refine RL.bin rfl rfl rfl (BinV.add _ rfl (by omega) (by omega)) rfl ?_
          refine RL.assign rfl rfl rfl ?_
          refine RL.nil ?_
          refine NX.off ?_
          refine NX.roundP (y + 1) ⟨by omega, by omega, suffix_step (by omega) (by omega) hy.2.2 hch⟩ (by omega) ⟨rfl, rfl, rfl, rfl, rfl, trivial⟩ (fun w hw => hw)
        · skip
          have hqy := suf_stop hy.1 hy.2.1 hy.2.2 (.inr (.inr ⟨hy1.1, hy1.2, fun h8 => by
            have e1 : (((a.length : Int) - 1) - y).toNat = a.length - 1 - y := by omega
            have e2 : (((b.length : Int) - 1) - y).toNat = b.length - 1 - y := by omega
            have h9 := of_decide_eq_false h5
            simp only [e1, e2] at h9
            exact h9 (by rw [h8])⟩))
          refine TR.exit ?_
          refine NX.exitThen ?_
          refine NX.exitThen ?_
          refine NX.exitHere ?_
          refine NX.seq ?_
          refine TR.seq ?_
          refine TR.region ?_
          refine RL.move rfl rfl rfl ?_
          refine RL.move rfl rfl rfl ?_
          refine RL.lenStr rfl qm_tstr9 rfl rfl ?_
          refine RL.move rfl rfl rfl ?_
          refine RL.bin rfl rfl rfl (BinV.sub _ rfl (by omega) (by omega)) rfl ?_
          refine RL.move rfl rfl rfl ?_
          refine RL.move rfl rfl rfl ?_
          refine RL.move rfl rfl rfl ?_
          refine RL.lenStr rfl qm_tstr9 rfl rfl ?_
          refine RL.move rfl rfl rfl ?_
          refine RL.bin rfl rfl rfl (BinV.sub _ rfl (by omega) (by omega)) rfl ?_
          refine RL.sliceS rfl qm_tstr9 rfl rfl rfl (by omega) (by omega) (by omega) rfl ?_
          refine RL.build rfl rfl (qm_bv78_0_1_2 _ _ _) rfl ?_
          refine RL.buildSlice rfl rfl (qm_bs26_1_0 _ _ _) rfl (fun b6 => ?_)
          refine RL.assign rfl rfl rfl ?_
          refine RL.nil ?_
          refine NX.seq ?_
          refine TR.ret ?_
          rw [diffE_is hab hpx hqy]
          have e1 : ((b.length : Int) - y).toNat = b.length - y := by omega
          have e2 : ((a.length : Int) - y) = ((a.length - y : Nat) : Int) := by omega
          refine NX.ret1x rfl rfl (fun w hw => ⟨⟨_, 1⟩, rfl, ?_⟩)
          have h9 := hw.boxArr
          rw [e1, e2, Int.toNat_natCast] at h9
          exact h9
    · skip
      have hx1 : x < a.length ∧ x < b.length := by have := of_decide_eq_true h2; omega
      have hxa : (x : Int).toNat < a.length := by omega
      have hxb : (x : Int).toNat < b.length := by omega
      apply AR.more [(0, _), (1, _), (2, _), (3, .bool true), (4, _), (5, _), (6, _), (7, _), (8, _), (9, _), (10, _), (11, _)]
      refine AR.last [0, 1, 2, 3, 4, 5, 6, 7, 8, 9, 10, 11] [0, 1, 2, 3, 4, 5, 6, 7, 8, 9, 10, 11] ⟨QOne.yes rfl rfl rfl (PV.move rfl), QOne.yes rfl rfl rfl (PV.move rfl), QOne.yes rfl rfl rfl (PV.bin rfl rfl BinV.lss), QOne.yes rfl rfl rfl (PV.cast (congrArg Value.bool h2) (PV.move rfl)), QOne.yes rfl rfl rfl (PV.move rfl), QOne.yes rfl rfl rfl (PV.move rfl), QOne.yes rfl rfl rfl (PV.indexS qm_tstr9 rfl rfl (by omega) (List.getElem?_eq_getElem hxa)), QOne.yes rfl rfl rfl (PV.move rfl), QOne.yes rfl rfl rfl (PV.move rfl), QOne.yes rfl rfl rfl (PV.indexS qm_tstr9 rfl rfl (by omega) (List.getElem?_eq_getElem hxb)), QOne.yes rfl rfl rfl (PV.bin rfl rfl BinV.eql), QOne.yes rfl rfl rfl (PV.pickT rfl rfl), trivial⟩ rfl rfl rfl ?_
      refine NX.sub (E' := [(0, _), (1, _), (5, _), (6, _), (16, _), (17, _), (18, _), (19, _), (20, _), (21, _), (22, _), (23, _), (24, _), (25, _), (26, _), (27, _)]) ⟨rfl, rfl, rfl, rfl, rfl, rfl, rfl, rfl, rfl, rfl, rfl, rfl, rfl, rfl, rfl, rfl, trivial⟩ ?_
      refine NX.seq ?_
      refine TR.cond rfl (fun h7 => ?_) (fun h7 => ?_)
      · skip
        have hch : a[x]'hx1.1 = b[x]'hx1.2 := byte_eq (of_decide_eq_true h7)
        refine TR.skip ?_
        refine NX.seq ?_
        refine TR.block ?_
        refine TR.region ?_
        refine RL.move rfl rfl rfl ?_
        refine RL.bin rfl rfl rfl (BinV.add _ rfl (by omega) (by omega)) rfl ?_
        refine RL.assign rfl rfl rfl ?_
        refine RL.nil ?_
        refine NX.off ?_
        refine NX.roundP (x + 1) ⟨by omega, by omega, takeEq_step hx1.1 hx1.2 hx.2.2 hch⟩ (by omega) ⟨rfl, rfl, rfl, rfl, trivial⟩ (fun w hw => hw)
      · skip
        have hpx : lcp a b = x := lcp_stop hx.1 hx.2.1 hx.2.2 (.inr (.inr (by rw [List.getElem?_eq_getElem hx1.1, List.getElem?_eq_getElem hx1.2]; exact fun e => of_decide_eq_false h7 (by simp only [Int.toNat_natCast]; rw [Option.some.inj e]))))
        refine TR.exit ?_
        refine NX.exitThen ?_
        refine NX.exitThen ?_
        refine NX.exitHere ?_
        refine NX.seq ?_
        refine TR.seq ?_
        refine TR.region ?_
        refine RL.assign rfl rfl rfl ?_
        refine RL.nil ?_
        refine NX.seq ?_
        refine TR.seq ?_
        refine TR.block ?_
        refine TR.loopP (ι := Nat) (fun y => x + y ≤ a.length ∧ x + y ≤ b.length ∧ a.drop (a.length - y) = b.drop (b.length - y)) (fun y => [(0, S a), (1, S b), (5, I (min (a.length : Int) b.length)), (6, I x), (7, I y)]) (fun _ => M) (fun _ => F) (fun y => a.length - y) 0 ⟨hx.1, hx.2.1, by simp⟩ ⟨rfl, rfl, rfl, rfl, rfl, trivial⟩ (fun w hw => hw) (fun y hy => ?_)
        refine TR.seq ?_
        refine TR.seq ?_
        refine TR.sub (E' := [(0, _), (1, _), (5, _), (6, _), (7, _)]) ⟨rfl, rfl, rfl, rfl, rfl, trivial⟩ ?_
        refine TR.draw mixed ?_
        cases h8 : decide ((y : Int) < min (a.length : Int) b.length - x)
        · skip
          have hqy := suf_stop hy.1 hy.2.1 hy.2.2 (by have := of_decide_eq_false h8; omega)
          apply AR.more [(0, _), (1, _), (2, _), (3, _), (4, _), (5, .bool false), (6, undef), (7, undef), (8, undef), (9, undef), (10, undef), (11, undef), (12, undef), (13, undef), (14, undef), (15, undef), (16, undef), (17, undef), (18, undef), (19, undef), (20, undef), (21, .bool false)]
          refine AR.last [0, 1, 2, 3, 4, 5, 6, 7, 8, 9, 10, 11, 12, 13, 14, 15, 16, 17, 18, 19, 20, 21] [0, 1, 2, 3, 4, 5, 6, 7, 8, 9, 10, 11, 12, 13, 14, 15, 16, 17, 18, 19, 20, 21] ⟨QOne.yes rfl rfl rfl (PV.move rfl), QOne.yes rfl rfl rfl (PV.move rfl), QOne.yes rfl rfl rfl (PV.move rfl), QOne.yes rfl rfl rfl (PV.bin rfl rfl (BinV.sub _ rfl (by omega) (by omega))), QOne.yes rfl rfl rfl (PV.bin rfl rfl BinV.lss), QOne.yes rfl rfl rfl (PV.cast (congrArg Value.bool h8) (PV.move rfl)), QOne.no rfl rfl rfl, QOne.no rfl rfl rfl, QOne.no rfl rfl rfl, QOne.no rfl rfl rfl, QOne.no rfl rfl rfl, QOne.no rfl rfl rfl, QOne.no rfl rfl rfl, QOne.no rfl rfl rfl, QOne.no rfl rfl rfl, QOne.no rfl rfl rfl, QOne.no rfl rfl rfl, QOne.no rfl rfl rfl, QOne.no rfl rfl rfl, QOne.no rfl rfl rfl, QOne.no rfl rfl rfl, QOne.yes rfl rfl rfl (PV.pickF rfl rfl), trivial⟩ rfl rfl rfl ?_
          refine NX.sub (E' := [(0, _), (1, _), (5, _), (6, _), (7, _), (30, _), (31, _), (32, _), (33, _), (34, _), (35, _), (36, _), (37, _), (38, _), (39, _), (40, _), (41, _), (42, _), (43, _), (44, _), (45, _), (46, _), (47, _), (48, _), (49, _), (50, _), (51, _)]) ⟨rfl, rfl, rfl, rfl, rfl, rfl, rfl, rfl, rfl, rfl, rfl, rfl, rfl, rfl, rfl, rfl, rfl, rfl, rfl, rfl, rfl, rfl, rfl, rfl, rfl, rfl, rfl, trivial⟩ ?_
          refine NX.seq ?_
          refine TR.condF rfl ?_
          refine TR.exit ?_
          refine NX.exitThen ?_
          refine NX.exitThen ?_
          refine NX.exitHere ?_
          refine NX.seq ?_
          refine TR.seq ?_
          refine TR.region ?_
          refine RL.move rfl rfl rfl ?_
          refine RL.move rfl rfl rfl ?_
          refine RL.lenStr rfl qm_tstr9 rfl rfl ?_
          refine RL.move rfl rfl rfl ?_
          refine RL.bin rfl rfl rfl (BinV.sub _ rfl (by omega) (by omega)) rfl ?_
          refine RL.move rfl rfl rfl ?_
          refine RL.move rfl rfl rfl ?_
          refine RL.move rfl rfl rfl ?_
          refine RL.lenStr rfl qm_tstr9 rfl rfl ?_
          refine RL.move rfl rfl rfl ?_
          refine RL.bin rfl rfl rfl (BinV.sub _ rfl (by omega) (by omega)) rfl ?_
          refine RL.sliceS rfl qm_tstr9 rfl rfl rfl (by omega) (by omega) (by omega) rfl ?_
          refine RL.build rfl rfl (qm_bv78_0_1_2 _ _ _) rfl ?_
          refine RL.buildSlice rfl rfl (qm_bs26_1_0 _ _ _) rfl (fun b9 => ?_)
          refine RL.assign rfl rfl rfl ?_
          refine RL.nil ?_
          refine NX.seq ?_
          refine TR.ret ?_
          rw [diffE_is hab hpx hqy]
          have e1 : ((b.length : Int) - y).toNat = b.length - y := by omega
          have e2 : ((a.length : Int) - y) = ((a.length - y : Nat) : Int) := by omega
          refine NX.ret1x rfl rfl (fun w hw => ⟨⟨_, 1⟩, rfl, ?_⟩)
          have h9 := hw.boxArr
          rw [e1, e2, Int.toNat_natCast] at h9
          exact h9
        · skip
          have hy1 : x + y < a.length ∧ x + y < b.length := by have := of_decide_eq_true h8; omega
          have hya : (((a.length : Int) - 1) - y).toNat < a.length := by omega
          have hyb : (((b.length : Int) - 1) - y).toNat < b.length := by omega
          apply AR.more [(0, _), (1, _), (2, _), (3, _), (4, _), (5, .bool true), (6, _), (7, _), (8, _), (9, _), (10, _), (11, _), (12, _), (13, _), (14, _), (15, _), (16, _), (17, _), (18, _), (19, _), (20, _), (21, _)]
          refine AR.last [0, 1, 2, 3, 4, 5, 6, 7, 8, 9, 10, 11, 12, 13, 14, 15, 16, 17, 18, 19, 20, 21] [0, 1, 2, 3, 4, 5, 6, 7, 8, 9, 10, 11, 12, 13, 14, 15, 16, 17, 18, 19, 20, 21] ⟨QOne.yes rfl rfl rfl (PV.move rfl), QOne.yes rfl rfl rfl (PV.move rfl), QOne.yes rfl rfl rfl (PV.move rfl), QOne.yes rfl rfl rfl (PV.bin rfl rfl (BinV.sub _ rfl (by omega) (by omega))), QOne.yes rfl rfl rfl (PV.bin rfl rfl BinV.lss), QOne.yes rfl rfl rfl (PV.cast (congrArg Value.bool h8) (PV.move rfl)), QOne.yes rfl rfl rfl (PV.move rfl), QOne.yes rfl rfl rfl (PV.move rfl), QOne.yes rfl rfl rfl (PV.lenStr qm_tstr9 rfl), QOne.yes rfl rfl rfl (PV.bin rfl rfl (BinV.sub _ rfl (by omega) (by omega))), QOne.yes rfl rfl rfl (PV.move rfl), QOne.yes rfl rfl rfl (PV.bin rfl rfl (BinV.sub _ rfl (by omega) (by omega))), QOne.yes rfl rfl rfl (PV.indexS qm_tstr9 rfl rfl (by omega) (List.getElem?_eq_getElem hya)), QOne.yes rfl rfl rfl (PV.move rfl), QOne.yes rfl rfl rfl (PV.move rfl), QOne.yes rfl rfl rfl (PV.lenStr qm_tstr9 rfl), QOne.yes rfl rfl rfl (PV.bin rfl rfl (BinV.sub _ rfl (by omega) (by omega))), QOne.yes rfl rfl rfl (PV.move rfl), QOne.yes rfl rfl rfl (PV.bin rfl rfl (BinV.sub _ rfl (by omega) (by omega))), QOne.yes rfl rfl rfl (PV.indexS qm_tstr9 rfl rfl (by omega) (List.getElem?_eq_getElem hyb)), QOne.yes rfl rfl rfl (PV.bin rfl rfl BinV.eql), QOne.yes rfl rfl rfl (PV.pickT rfl rfl), trivial⟩ rfl rfl rfl ?_
          refine NX.sub (E' := [(0, _), (1, _), (5, _), (6, _), (7, _), (30, _), (31, _), (32, _), (33, _), (34, _), (35, _), (36, _), (37, _), (38, _), (39, _), (40, _), (41, _), (42, _), (43, _), (44, _), (45, _), (46, _), (47, _), (48, _), (49, _), (50, _), (51, _)]) ⟨rfl, rfl, rfl, rfl, rfl, rfl, rfl, rfl, rfl, rfl, rfl, rfl, rfl, rfl, rfl, rfl, rfl, rfl, rfl, rfl, rfl, rfl, rfl, rfl, rfl, rfl, rfl, trivial⟩ ?_
          refine NX.seq ?_
          refine TR.cond rfl (fun h10 => ?_) (fun h10 => ?_)
          · skip
            have hch : a[a.length - 1 - y]'(by omega) = b[b.length - 1 - y]'(by omega) := by
              have h8 := byte_eq (of_decide_eq_true h10)
              have e1 : (((a.length : Int) - 1) - y).toNat = a.length - 1 - y := by omega
              have e2 : (((b.length : Int) - 1) - y).toNat = b.length - 1 - y := by omega
              simp only [e1, e2] at h8
              exact h8
            refine TR.skip ?_
            refine NX.seq ?_
            refine TR.block ?_
            refine TR.region ?_
            refine RL.move rfl rfl rfl ?_
            refine RL.bin rfl rfl rfl (BinV.add _ rfl (by omega) (by omega)) rfl ?_
            refine RL.assign rfl rfl rfl ?_
            refine RL.nil ?_
            refine NX.off ?_
            refine NX.roundP (y + 1) ⟨by omega, by omega, suffix_step (by omega) (by omega) hy.2.2 hch⟩ (by omega) ⟨rfl, rfl, rfl, rfl, rfl, trivial⟩ (fun w hw => hw)
          · skip
            have hqy := suf_stop hy.1 hy.2.1 hy.2.2 (.inr (.inr ⟨hy1.1, hy1.2, fun h8 => by
              have e1 : (((a.length : Int) - 1) - y).toNat = a.length - 1 - y := by omega
              have e2 : (((b.length : Int) - 1) - y).toNat = b.length - 1 - y := by omega
              have h9 := of_decide_eq_false h10
              simp only [e1, e2] at h9
              exact h9 (by rw [h8])⟩))
            refine TR.exit ?_
            refine NX.exitThen ?_
            refine NX.exitThen ?_
            refine NX.exitHere ?_
            refine NX.seq ?_
            refine TR.seq ?_
            refine TR.region ?_
            refine RL.move rfl rfl rfl ?_
            refine RL.move rfl rfl rfl ?_
            refine RL.lenStr rfl qm_tstr9 rfl rfl ?_
            refine RL.move rfl rfl rfl ?_
            refine RL.bin rfl rfl rfl (BinV.sub _ rfl (by omega) (by omega)) rfl ?_
            refine RL.move rfl rfl rfl ?_
            refine RL.move rfl rfl rfl ?_
            refine RL.move rfl rfl rfl ?_
            refine RL.lenStr rfl qm_tstr9 rfl rfl ?_
            refine RL.move rfl rfl rfl ?_
            refine RL.bin rfl rfl rfl (BinV.sub _ rfl (by omega) (by omega)) rfl ?_
            refine RL.sliceS rfl qm_tstr9 rfl rfl rfl (by omega) (by omega) (by omega) rfl ?_
            refine RL.build rfl rfl (qm_bv78_0_1_2 _ _ _) rfl ?_
            refine RL.buildSlice rfl rfl (qm_bs26_1_0 _ _ _) rfl (fun b11 => ?_)
            refine RL.assign rfl rfl rfl ?_
            refine RL.nil ?_
            refine NX.seq ?_
            refine TR.ret ?_
            rw [diffE_is hab hpx hqy]
            have e1 : ((b.length : Int) - y).toNat = b.length - y := by omega
            have e2 : ((a.length : Int) - y) = ((a.length - y : Nat) : Int) := by omega
            refine NX.ret1x rfl rfl (fun w hw => ⟨⟨_, 1⟩, rfl, ?_⟩)
            have h9 := hw.boxArr
            rw [e1, e2, Int.toNat_natCast] at h9
            exact h9
theorem same_spec {xs ys : List Ed} {oa ob : Option Addr} {ca cb : Nat} {M : List HP} {F : List Fact} (ha : ArrF oa (edC xs) ∈ F) (hb : ArrF ob (edC ys) ∈ F) (hl : xs.length ≤ 4611686018427387904) : Ctr Try.prog 21 [.slice oa xs.length ca, .slice ob ys.length cb] M F Unit (fun _ => .bool (decide (xs = ys))) (fun _ => M) (fun _ => F) := by
  refine Ctr.body Try.func21 rfl rfl ?_
  refine TR.seq ?_
  refine TR.region ?_
  refine RL.assign rfl rfl rfl ?_
  refine RL.nil ?_
  refine NX.seq ?_
  refine TR.seq ?_
  refine TR.seq ?_
  refine TR.region ?_
  refine RL.move rfl rfl rfl ?_
  refine RL.lenSlice rfl qm_tl26 rfl rfl ?_
  refine RL.move rfl rfl rfl ?_
  refine RL.lenSlice rfl qm_tl26 rfl rfl ?_
  refine RL.bin rfl rfl rfl BinV.neq rfl ?_
  refine RL.nil ?_
  refine NX.seq ?_
  refine TR.cond rfl (fun h1 => ?_) (fun h1 => ?_)
  · skip
    have hln : ¬ xs.length = ys.length := by have := of_decide_eq_true h1; omega
    refine TR.seq ?_
    refine TR.region ?_
    refine RL.assign rfl rfl rfl ?_
    refine RL.nil ?_
    refine NX.seq ?_
    refine TR.ret ?_
    refine NX.retThen ?_
    exact NX.ret1 () rfl rfl (congrArg Value.bool (decide_eq_false (fun e => hln (congrArg List.length e))).symm) (fun w hw => (hw.to 0 [] 0 [] rfl))
  · skip
    have hln : xs.length = ys.length := by have := of_decide_eq_false h1; omega
    refine TR.skip ?_
    refine NX.seq ?_
    refine TR.seq ?_
    refine TR.seq ?_
    refine TR.region ?_
    refine RL.assign rfl rfl rfl ?_
    refine RL.nil ?_
    refine NX.seq ?_
    refine TR.block ?_
    refine TR.loopP (ι := Nat) (fun k => k ≤ xs.length ∧ xs.take k = ys.take k) (fun k => [(0, .slice oa xs.length ca), (1, .slice ob ys.length cb), (5, I (k : Nat))]) (fun k => M) (fun k => F) (fun k => xs.length - k) 0 ⟨Nat.zero_le _, rfl⟩ ⟨rfl, rfl, rfl, trivial⟩ (fun w hw => (hw.to 0 [] 0 [] rfl)) (fun k hk => ?_)
    refine TR.seq ?_
    refine TR.seq ?_
    refine TR.region ?_
    refine RL.move rfl rfl rfl ?_
    refine RL.move rfl rfl rfl ?_
    refine RL.lenSlice rfl qm_tl26 rfl rfl ?_
    refine RL.bin rfl rfl rfl BinV.lss rfl ?_
    refine RL.nil ?_
    refine NX.seq ?_
    refine TR.cond rfl (fun h2 => ?_) (fun h2 => ?_)
    · skip
      have hk1 : k < xs.length := by have := of_decide_eq_true h2; omega
      have hk2 : k < ys.length := by omega
      refine TR.openP (open_arr (oa := oa) (xs := edC xs) ha (fun e => by have h8 := edC_length xs; rw [e] at h8; simp at h8; omega)) (fun pa hpa => ?_)
      refine TR.openP (open_arr (oa := ob) (xs := edC ys) (.tail _ hb) (fun e => by have h8 := edC_length ys; rw [e] at h8; simp at h8; omega)) (fun pb hpb => ?_)
      refine TR.skip ?_
      refine NX.seq ?_
      refine TR.seq ?_
      refine TR.block ?_
      refine TR.seq ?_
      refine TR.sub (E' := [(0, _), (1, _), (5, _), (11, _), (12, _), (13, _), (14, _)]) ⟨rfl, rfl, rfl, rfl, rfl, rfl, rfl, trivial⟩ ?_
      refine TR.draw mixed ?_
      apply AR.more [(0, _), (1, _), (2, _), (3, _), (4, _), (5, _), (6, _), (7, _), (8, _)]
      refine AR.last [0, 1, 2, 3, 4, 5, 6, 7, 8] [0, 1, 2, 3, 4, 5, 6, 7, 8] ⟨QOne.yes rfl rfl rfl (PV.move rfl), QOne.yes rfl rfl rfl (PV.move rfl), QOne.yes rfl rfl rfl (PV.indexAddr qm_tl26 qm_tz78 (congrArg (fun a => some (Value.slice a _ _)) hpa) rfl (by omega) (by omega)), QOne.yes rfl rfl rfl (PV.loadF rfl (fun w K hF => run_ed (hF (CellsF pa.1 pa.2 (edC xs)) (.tail _ (.head _))) qm_ta78 hk1)), QOne.yes rfl rfl rfl (PV.move rfl), QOne.yes rfl rfl rfl (PV.move rfl), QOne.yes rfl rfl rfl (PV.indexAddr qm_tl26 qm_tz78 (congrArg (fun a => some (Value.slice a _ _)) hpb) rfl (by omega) (by omega)), QOne.yes rfl rfl rfl (PV.loadF rfl (fun w K hF => run_ed (hF (CellsF pb.1 pb.2 (edC ys)) (.head _)) qm_ta78 hk2)), QOne.yes rfl rfl rfl (PV.bin rfl rfl (BinV.neqEd edOk_ edUnd_ edHeld_ edGrd_ _ _ _ _ _ _)), trivial⟩ rfl rfl rfl ?_
      refine NX.sub (E' := [(0, _), (1, _), (5, _), (11, _), (12, _), (13, _), (14, _), (17, _), (18, _), (19, _), (20, _), (21, _), (22, _), (23, _), (24, _), (25, _)]) ⟨rfl, rfl, rfl, rfl, rfl, rfl, rfl, rfl, rfl, rfl, rfl, rfl, rfl, rfl, rfl, rfl, trivial⟩ ?_
      refine NX.seq ?_
      refine TR.cond rfl (fun h3 => ?_) (fun h3 => ?_)
      · skip
        have hne : ¬ xs[k] = ys[k] := fun e => by have h7 := h3; rw [e] at h7; simp at h7
        refine TR.seq ?_
        refine TR.region ?_
        refine RL.assign rfl rfl rfl ?_
        refine RL.nil ?_
        refine NX.seq ?_
        refine TR.ret ?_
        refine NX.retBlock ?_
        refine NX.retThen ?_
        refine NX.retThen ?_
        refine NX.retBlock ?_
        refine NX.retThen ?_
        exact NX.ret1 () rfl rfl (congrArg Value.bool (decide_eq_false (fun e => by subst e; exact hne rfl)).symm) (fun w hw => (hw.to 0 [] 2 [] rfl))
      · skip
        have heq : xs[k] = ys[k] := ed_eq.1 (by have h7 := h3; simpa using h7)
        refine TR.skip ?_
        refine NX.off ?_
        refine NX.seq ?_
        refine TR.region ?_
        refine RL.move rfl rfl rfl ?_
        refine RL.bin rfl rfl rfl (BinV.add _ rfl (by omega) (by omega)) rfl ?_
        refine RL.assign rfl rfl rfl ?_
        refine RL.nil ?_
        refine NX.roundP (k + 1) ⟨hk1, by rw [List.take_succ_eq_append_getElem hk1, List.take_succ_eq_append_getElem hk2, hk.2, heq]⟩ (by omega) ⟨rfl, rfl, rfl, trivial⟩ (fun w hw => (hw.to 0 [] 2 [] rfl))
    · skip
      have hke : k = xs.length := by have := of_decide_eq_false h2; have := hk.1; omega
      refine TR.exit ?_
      refine NX.exitThen ?_
      refine NX.exitThen ?_
      refine NX.exitHere ?_
      refine NX.seq ?_
      refine TR.seq ?_
      refine TR.region ?_
      refine RL.assign rfl rfl rfl ?_
      refine RL.nil ?_
      refine NX.seq ?_
      refine TR.ret ?_
      exact NX.ret1 () rfl rfl (congrArg Value.bool (decide_eq_true (by have h9 := hk.2; rw [hke, List.take_length, hln, List.take_length] at h9; exact h9)).symm) (fun w hw => (hw.to 0 [] 0 [] rfl))
end Go.Proofs.Ytkdeopioelocnaa

namespace Go.Proofs.Ytkdeopioelocnaa
open Go.GL
set_option linter.unusedVariables false
theorem qn_ta80 : tyAgg Try.prog 80 2 = true := by kernel_rfl
theorem qn_tf80_0 : fieldOff Try.prog 80 0 0 = true := by kernel_rfl
theorem qn_tf80_1 : fieldOff Try.prog 80 1 1 = true := by kernel_rfl
theorem qn_tf84_1 : fieldOff Try.prog 84 1 1 = true := by kernel_rfl
theorem qn_tl81 : tySlice Try.prog 81 80 = true := by kernel_rfl
theorem qn_ts26 : tyScalar Try.prog 26 = true := by kernel_rfl
theorem qn_ts81 : tyScalar Try.prog 81 = true := by kernel_rfl
theorem qn_ts9 : tyScalar Try.prog 9 = true := by kernel_rfl
theorem qn_tz80 : tySize Try.prog 80 2 = true := by kernel_rfl
set_option maxHeartbeats 1000000 in
theorem since_spec {ver : Int} {b : Nat} {d : Dp} {h : Hs} {M : List HP} {F : List Fact} (hr : RelD d h) (hD : DocF d ∈ F) (hver : I64 ver) : Ctr Try.prog 18 [.pointer (some ⟨b, 0, none⟩), I ver] (DocB 84 80 b (d) :: M) F RdX (fun z => .tuple #[.slice z.oa (sinceH h ver).1.length z.c, I (sinceH h ver).2]) (fun _ => DocB 84 80 b (d) :: M) (fun z => ArrF z.oa (edC (sinceH h ver).1) :: F) := by
  refine Ctr.body Try.func18 rfl rfl ?_
  refine TR.seq ?_
  refine TR.region ?_
  refine RL.assign rfl rfl rfl ?_
  refine RL.assign rfl rfl rfl ?_
  refine RL.nil ?_
  refine NX.seq ?_
  refine TR.seq ?_
  refine TR.region ?_
  refine RL.move rfl rfl rfl ?_
  refine RL.move rfl rfl rfl ?_
  refine RL.call rfl rfl Try.call53 rfl (index_spec hr hver) (fun q => ?_)
  refine RL.move rfl rfl rfl ?_
  refine RL.extract rfl rfl rfl rfl ?_
  refine RL.extract rfl rfl rfl rfl ?_
  refine RL.assign rfl rfl rfl ?_
  refine RL.assign rfl rfl rfl ?_
  refine RL.nil ?_
  refine NX.seq ?_
  refine TR.seq ?_
  refine TR.seq ?_
  refine TR.region ?_
  rcases hq : q.1.2 with _ | _
  · skip
    have hno := q.2.no hq
    have hsi : sinceH h ver = ([], 7) := by unfold sinceH; rw [hno]
    refine RL.move rfl rfl rfl ?_
    refine RL.not rfl rfl rfl ?_
    refine RL.nil ?_
    refine NX.seq ?_
    refine TR.condT rfl ?_
    refine TR.seq ?_
    refine TR.region ?_
    refine RL.assign rfl rfl rfl ?_
    refine RL.assign rfl rfl rfl ?_
    refine RL.nil ?_
    refine NX.seq ?_
    refine TR.ret ?_
    refine NX.retThen ?_
    refine NX.ret2 (⟨none, 0⟩ : RdX) rfl rfl rfl (by rw [hsi]; rfl) (fun w hw => ?_)
    rw [hsi]
    exact ((hw.to 1 [0] 0 [] rfl) : St w (DocB 84 80 b (d) :: M) F).arr0
  · skip
    obtain ⟨hy1, hy2, hy3⟩ := q.2.yes hq
    have hrw := hr.row hy2
    have hsi : sinceH h ver = (sinceGo ((h.hist.getD (h.hist.length - 17 + q.1.1.toNat) ([], [])).1) h.tx (h.hist.drop ((h.hist.length - 17 + q.1.1.toNat) + 1)) [], 0) := by unfold sinceH; rw [hy3]
    have hs0 : (sinceH h ver).2 = 0 := by rw [hsi]
    obtain ⟨tf, htf0⟩ : ∃ tf, tf = (h.hist.getD (h.hist.length - 17 + q.1.1.toNat) ([], [])).1 := ⟨_, rfl⟩
    rw [← htf0] at hsi
    have htf : tf = d.rows[q.1.1.toNat].t := by rw [htf0, List.getD_eq_getElem?_getD, hrw.2]; rfl
    have htx := hr.ok.tx
    have htl : tf.length ≤ 4096 := by have := (hr.ok.txt _ (List.mem_of_getElem? hrw.2)).1; rw [htf]; exact this
    have hln := hr.len
    have hrl : (h.hist.drop ((h.hist.length - 17 + q.1.1.toNat) + 1)).length = d.rows.length - (q.1.1.toNat + 1) := by rw [List.length_drop]; omega
    refine RL.move rfl rfl rfl ?_
    refine RL.not rfl rfl rfl ?_
    refine RL.nil ?_
    refine NX.seq ?_
    refine TR.condF rfl ?_
    refine TR.skip ?_
    refine NX.seq ?_
    refine TR.seq ?_
    refine TR.open (fun w hw => (St.exOpen (show St w (Ex _ :: _) _ from hw))) (fun ic => ?_)
    refine TR.openP (fun w hw => own_at (i := 1) rfl (rowC_ne hr.len.2) hw) (fun gr hgr => ?_)
    refine TR.open1 (fun w hw => ⟨(hw.front (i := 1) rfl).ownLen, hw⟩) (fun hol => ?_)
    refine TR.region ?_
    refine RL.move rfl rfl rfl ?_
    refine RL.nilCheck rfl rfl rfl ?_
    refine RL.fieldAddr rfl qn_tf84_1 rfl rfl ?_
    refine RL.load1 0 rfl qn_ts81 rfl rfl rfl rfl ?_
    refine RL.move rfl rfl rfl ?_
    refine RL.indexAddr rfl qn_tl81 qn_tz80 (congrArg (fun a => some (Value.slice a _ _)) hgr) rfl (by omega) (by omega) rfl ?_
    refine RL.fieldAddr rfl qn_tf80_0 rfl rfl ?_
    refine RL.loadS rfl rfl (own_one (i := 1) rfl hgr qn_ts9 (show (rowC d.rows)[0 + q.1.1.toNat * 2 + 0]? = some (S tf) from by rw [htf]; have h9 := rowC_at1 (j := 0) hy2 rfl; rw [Int.toNat_of_nonneg hy1] at h9; exact h9)) rfl ?_
    refine RL.assign rfl rfl rfl ?_
    refine RL.nil ?_
    refine NX.seq ?_
    refine TR.seq ?_
    refine TR.region ?_
    refine RL.assign rfl rfl rfl ?_
    refine RL.weak (fun w hw => hw.derive (ψ := ArrF none (edC [])) (fun K hf => .inl rfl)) ?_
    refine RL.nil ?_
    refine NX.seq ?_
    refine TR.seq ?_
    refine TR.seq ?_
    refine TR.region ?_
    refine RL.move rfl rfl rfl ?_
    refine RL.nilCheck rfl rfl rfl ?_
    refine RL.fieldAddr rfl qn_tf84_1 rfl rfl ?_
    refine RL.load1 0 rfl qn_ts81 rfl rfl rfl rfl ?_
    refine RL.move rfl rfl rfl ?_
    refine RL.bin rfl rfl rfl (BinV.add ((q.1.1.toNat + 1 : Nat) : Int) (by omega) (by omega) (by omega)) rfl ?_
    refine RL.sliceLH (l := q.1.1.toNat + 1) (h := d.rows.length) rfl qn_tl81 qn_tz80 rfl (.inr ⟨_, rfl, rfl⟩) (.inl ⟨rfl, rfl⟩) (by omega) hol.2 rfl ?_
    refine RL.lenSlice rfl qn_tl81 rfl rfl ?_
    refine RL.move rfl rfl rfl ?_
    refine RL.nil ?_
    refine NX.seq ?_
    refine TR.block ?_
    refine TR.loopP (ι := SiX) (fun x => x.k ≤ d.rows.length - (q.1.1.toNat + 1) ∧ txs x.x ≤ 8192 * x.k ∧ x.x.length ≤ 64 ∧ sinceGo tf h.tx ((h.hist.drop ((h.hist.length - 17 + q.1.1.toNat) + 1)).drop x.k) x.x = sinceGo tf h.tx (h.hist.drop ((h.hist.length - 17 + q.1.1.toNat) + 1)) []) (fun x => [(0, .pointer (some ⟨b, 0, none⟩)), (8, S tf), (9, .slice x.oa x.x.length x.c), (36, .slice (cutA ic.1 (q.1.1.toNat + 1) ic.2 2) (d.rows.length - (q.1.1.toNat + 1)) (ic.2 - (q.1.1.toNat + 1))), (37, I ((d.rows.length - (q.1.1.toNat + 1) : Nat) : Int)), (38, I (x.k : Nat))]) (fun x => Box b 84 [I d.v, .slice ic.1 d.rows.length ic.2, .map (some d.m)] :: OwnSl 80 2 ic.1 d.rows.length ic.2 (rowC d.rows) :: MpB d.m (heldV d.held) :: M) (fun x => ArrF x.oa (edC x.x) :: F) (fun x => d.rows.length - (q.1.1.toNat + 1) - x.k) ⟨0, [], none, 0⟩ ⟨Nat.zero_le _, Nat.zero_le _, Nat.zero_le _, rfl⟩ ⟨rfl, rfl, rfl, rfl, rfl, rfl, trivial⟩ (fun w hw => (hw.to 3 [0, 1, 2] 1 [0] rfl)) (fun x hx => ?_)
    refine TR.seq ?_
    refine TR.region ?_
    refine RL.bin rfl rfl rfl BinV.lss rfl ?_
    refine RL.nil ?_
    refine NX.seq ?_
    refine TR.seq ?_
    refine TR.cond rfl (fun h1 => ?_) (fun h1 => ?_)
    · skip
      have hk1 : x.k < d.rows.length - (q.1.1.toNat + 1) := by have := of_decide_eq_true h1; omega
      have hrk : q.1.1.toNat + 1 + x.k < d.rows.length := by omega
      have hrx := (hr.row hrk).2
      have hre := (hr.ok.txt _ (List.mem_of_getElem? hrx)).2
      have hre1 : d.rows[q.1.1.toNat + 1 + x.k].es.length ≤ 64 := hre.1
      have hre2 : txs d.rows[q.1.1.toNat + 1 + x.k].es ≤ 4096 := hre.2
      have hdk : (h.hist.drop ((h.hist.length - 17 + q.1.1.toNat) + 1)).drop x.k = (d.rows[q.1.1.toNat + 1 + x.k].t, d.rows[q.1.1.toNat + 1 + x.k].es) :: (h.hist.drop ((h.hist.length - 17 + q.1.1.toNat) + 1)).drop (x.k + 1) := by
        have hkl : x.k < (h.hist.drop ((h.hist.length - 17 + q.1.1.toNat) + 1)).length := by omega
        rw [List.drop_eq_getElem_cons hkl]
        congr 1
        have h9 : (h.hist.drop ((h.hist.length - 17 + q.1.1.toNat) + 1))[x.k]? = some (d.rows[q.1.1.toNat + 1 + x.k].t, d.rows[q.1.1.toNat + 1 + x.k].es) := by rw [List.getElem?_drop, ← hrx]; congr 1; omega
        rw [List.getElem?_eq_getElem hkl] at h9
        exact Option.some.inj h9
      have hcut : cutA ic.1 (q.1.1.toNat + 1) ic.2 2 = some ⟨gr, (q.1.1.toNat + 1) * 2, none⟩ := by
        unfold cutA; rw [if_neg (by omega), hgr]; show some (Addr.add _ _) = _; rw [addr_add, Nat.zero_add]
      refine TR.weak (fun w hw => hw.derive (ψ := ArrF d.rows[q.1.1.toNat + 1 + x.k].oa (edC d.rows[q.1.1.toNat + 1 + x.k].es)) (fun K hf => (hf (DocF d) (.tail _ hD)).1 _ (List.getElem_mem hrk))) ?_
      refine TR.skip ?_
      refine NX.seq ?_
      refine TR.seq ?_
      refine TR.block ?_
      refine TR.seq ?_
      refine TR.region ?_
      refine RL.indexAddr rfl qn_tl81 qn_tz80 (congrArg (fun a => some (Value.slice a _ _)) hcut) rfl (by omega) (by omega) rfl ?_
      refine RL.loadS rfl rfl (own_agg (vs := d.rows[q.1.1.toNat + 1 + x.k].cs) (i := 1) rfl hgr qn_ta80 (fun j v hj => by have h9 := rowC_at (j := j) hrk hj; rw [show (q.1.1.toNat + 1) * 2 + ((x.k : Nat) : Int).toNat * 2 + j = (q.1.1.toNat + 1 + x.k) * 2 + j from by omega]; exact h9)) rfl ?_
      refine RL.allocA rfl (Try.zeroValue80) rfl (fun b2 => ?_)
      refine RL.storeA 0 rfl rfl rfl rfl qn_tz80 rfl rfl ?_
      refine RL.nil ?_
      refine NX.seq ?_
      refine TR.seq ?_
      refine TR.region ?_
      refine RL.move rfl rfl rfl ?_
      refine RL.move rfl rfl rfl ?_
      refine RL.fieldAddr rfl qn_tf80_1 rfl rfl ?_
      refine RL.load1 0 rfl qn_ts26 rfl rfl rfl rfl ?_
      refine RL.call rfl rfl Try.call54 rfl (compose_spec (tx := tf) (a := x.x) (b := d.rows[q.1.1.toNat + 1 + x.k].es) (.tail _ (.head _)) (.head _) (by omega) (by omega) (by omega) (fun e => by have := apply_le (s := tf) (es := x.x) (q := 0) (soundE_sound1 e); omega) (fun e e2 => by have := apply_le (s := tf) (es := x.x) (q := 0) (soundE_sound1 e); have := apply_le (s := applyGo tf 0 x.x) (es := d.rows[q.1.1.toNat + 1 + x.k].es) (q := 0) (soundE_sound1 e2); omega)) (fun zc => ?_)
      refine RL.move rfl rfl rfl ?_
      refine RL.extract rfl rfl rfl rfl ?_
      refine RL.extract rfl rfl rfl rfl ?_
      refine RL.assign rfl rfl rfl ?_
      refine RL.assign rfl rfl rfl ?_
      refine RL.nil ?_
      refine NX.seq ?_
      refine TR.seq ?_
      refine TR.seq ?_
      refine TR.region ?_
      refine RL.move rfl rfl rfl ?_
      refine RL.bin rfl rfl rfl BinV.neq rfl ?_
      refine RL.nil ?_
      refine NX.seq ?_
      refine TR.cond rfl (fun h3 => ?_) (fun h3 => ?_)
      · skip
        have hce : (composeE tf x.x d.rows[q.1.1.toNat + 1 + x.k].es).2 ≠ 0 := of_decide_eq_true h3
        refine TR.seq ?_
        refine TR.weak (fun w hw => St.docClose (d := d) rfl rfl rfl rfl rfl (show St w (_ :: _ :: _ :: _) _ from hw.toM 4 [1, 2, 3, 0] rfl)) ?_
        refine TR.region ?_
        refine RL.move rfl rfl rfl ?_
        refine RL.move rfl rfl rfl ?_
        refine RL.call rfl rfl Try.call20 rfl (dtext_spec hr) (fun _ => ?_)
        refine RL.call rfl rfl Try.call55 rfl (diffx_spec (a := tf) (b := h.tx) (by omega) (by omega)) (fun zd => ?_)
        refine RL.assign rfl rfl rfl ?_
        refine RL.assign rfl rfl rfl ?_
        refine RL.nil ?_
        refine NX.seq ?_
        refine TR.ret ?_
        refine NX.retThen ?_
        refine NX.retBlock ?_
        refine NX.retThen ?_
        refine NX.retThen ?_
        refine NX.retBlock ?_
        refine NX.retThen ?_
        have hsg : (sinceH h ver).1 = diffE tf h.tx := by rw [hsi, ← hx.2.2.2, hdk, sinceGo, if_pos hce]
        refine NX.ret2 zd rfl rfl rfl (by rw [hsg, hs0]) (fun w hw => ?_)
        rw [hsg]
        exact (hw.to 2 [0] 4 [0] rfl)
      · skip
        have hce : ¬ (composeE tf x.x d.rows[q.1.1.toNat + 1 + x.k].es).2 ≠ 0 := of_decide_eq_false h3
        have hct := composeE_txs (Decidable.not_not.1 hce)
        refine TR.skip ?_
        refine NX.seq ?_
        refine TR.region ?_
        refine RL.move rfl rfl rfl ?_
        refine RL.assign rfl rfl rfl ?_
        refine RL.nil ?_
        refine NX.off ?_
        refine NX.seq ?_
        refine TR.region ?_
        refine RL.bin rfl rfl rfl (BinV.add _ rfl (by omega) (by omega)) rfl ?_
        refine RL.move rfl rfl rfl ?_
        refine RL.nil ?_
        refine NX.roundP ⟨x.k + 1, (composeE tf x.x d.rows[q.1.1.toNat + 1 + x.k].es).1, zc.oa, zc.c⟩ ⟨by show x.k + 1 ≤ _; omega, by show txs (composeE tf x.x d.rows[q.1.1.toNat + 1 + x.k].es).1 ≤ 8192 * (x.k + 1); omega, hct.2, by rw [← hx.2.2.2, hdk, sinceGo, if_neg hce]⟩ (by show _ - (x.k + 1) < _ - x.k; omega) ⟨rfl, rfl, rfl, rfl, rfl, rfl, trivial⟩ (fun w hw => (hw.to 4 [1, 2, 3] 3 [0] rfl))
    · skip
      have hk2 : x.k = d.rows.length - (q.1.1.toNat + 1) := by have := of_decide_eq_false h1; have := hx.1; omega
      refine TR.exit ?_
      refine NX.exitThen ?_
      refine NX.exitThen ?_
      refine NX.exitHere ?_
      refine NX.seq ?_
      refine TR.seq ?_
      refine TR.region ?_
      refine RL.move rfl rfl rfl ?_
      refine RL.assign rfl rfl rfl ?_
      refine RL.assign rfl rfl rfl ?_
      refine RL.nil ?_
      refine NX.seq ?_
      refine TR.ret ?_
      have hsg : (sinceH h ver).1 = x.x := by rw [hsi, ← hx.2.2.2, hk2, List.drop_of_length_le (by omega)]; rfl
      refine NX.ret2 (⟨x.oa, x.c⟩ : RdX) rfl rfl rfl (by rw [hsg, hs0]) (fun w hw => ?_)
      rw [hsg]
      exact St.docClose (d := d) rfl rfl rfl rfl rfl (hw.to 3 [0, 1, 2] 1 [0] rfl)
end Go.Proofs.Ytkdeopioelocnaa

namespace Go.Proofs.Ytkdeopioelocnaa
open Go.GL
set_option linter.unusedVariables false
theorem qo_bs26_2_0_1 (x00 : Int) (x01 : Int) (x02 : List UInt8) (x10 : Int) (x11 : Int) (x12 : List UInt8) : BuildSV Try.prog 26 78 2 [(0, .agg #[.int .i64 x00, .int .i64 x01, S x02]), (1, .agg #[.int .i64 x10, .int .i64 x11, S x12])] [.int .i64 x00, .int .i64 x01, S x02, .int .i64 x10, .int .i64 x11, S x12] := fun w => by kernel_rfl
theorem qo_bs28_1_0 (x000 : Int) (x001 : Int) (x010 : Int) (x011 : Int) (x02 : List UInt8) : BuildSV Try.prog 28 63 1 [(0, .agg #[.int .i64 x000, .int .i64 x001, .int .i64 x010, .int .i64 x011, S x02])] [.int .i64 x000, .int .i64 x001, .int .i64 x010, .int .i64 x011, S x02] := fun w => by kernel_rfl
theorem qo_bv39_0_1 (x0 : Int) (x1 : Option Addr) (x1n x1c : Nat) : BuildV Try.prog 39 [(0, .int .i64 x0), (1, .slice x1 x1n x1c)] (.agg #[.int .i64 x0, .slice x1 x1n x1c]) := fun w => by kernel_rfl
theorem qo_bv61_1 (x1 : Int) : BuildV Try.prog 61 [(1, .int .i64 x1)] (.agg #[.int .i64 0, .int .i64 x1]) := fun w => by kernel_rfl
theorem qo_bv63_0_1_2 (x00 : Int) (x01 : Int) (x10 : Int) (x11 : Int) (x2 : List UInt8) : BuildV Try.prog 63 [(0, .agg #[.int .i64 x00, .int .i64 x01]), (1, .agg #[.int .i64 x10, .int .i64 x11]), (2, S x2)] (.agg #[.int .i64 x00, .int .i64 x01, .int .i64 x10, .int .i64 x11, S x2]) := fun w => by kernel_rfl
theorem qo_bv78_0_1_2 (x0 : Int) (x1 : Int) (x2 : List UInt8) : BuildV Try.prog 78 [(0, .int .i64 x0), (1, .int .i64 x1), (2, S x2)] (.agg #[.int .i64 x0, .int .i64 x1, S x2]) := fun w => by kernel_rfl
theorem qo_ta39 : tyAgg Try.prog 39 2 = true := by kernel_rfl
theorem qo_tp31 : tyPtr Try.prog 31 84 = true := by kernel_rfl
theorem qo_tz39 : tySize Try.prog 39 2 = true := by kernel_rfl
set_option maxHeartbeats 1000000 in
theorem lives_spec {M : List HP} {F : List Fact} : Ctr Try.prog 14 [] M F Unit (fun _ => .bool true) (fun _ => M) (fun _ => F) := by
  refine Ctr.body Try.func14 rfl rfl ?_
  refine TR.seq ?_
  refine TR.region ?_
  refine RL.assign rfl rfl rfl ?_
  refine RL.nil ?_
  refine NX.seq ?_
  refine TR.seq ?_
  refine TR.region ?_
  refine RL.call rfl rfl Try.call13 rfl (new_spec (tx := ab) (ver := 3) (by decide) (by decide) (by decide)) (fun q0 => ?_)
  refine RL.move rfl rfl rfl ?_
  refine RL.extract rfl rfl rfl rfl ?_
  refine RL.extract rfl rfl rfl rfl ?_
  refine RL.assign rfl rfl rfl ?_
  refine RL.assign rfl rfl rfl ?_
  refine RL.nil ?_
  refine NX.seq ?_
  refine TR.seq ?_
  refine TR.seq ?_
  refine TR.region ?_
  refine RL.move rfl rfl rfl ?_
  refine RL.bin rfl rfl rfl (BinV.to (d := false) BinV.neq (decide_eq_false (by simp))) rfl ?_
  refine RL.move rfl rfl rfl ?_
  refine RL.move rfl rfl rfl ?_
  refine RL.bin rfl rfl rfl (BinV.eqlPtrNil qo_tp31) rfl ?_
  refine RL.pickF rfl rfl rfl rfl ?_
  refine RL.nil ?_
  refine NX.seq ?_
  refine TR.condF rfl ?_
  refine TR.skip ?_
  refine NX.seq ?_
  refine TR.seq ?_
  refine TR.region ?_
  refine RL.move rfl rfl rfl ?_
  refine RL.build rfl rfl (qo_bv61_1 _) rfl ?_
  refine RL.build rfl rfl (qo_bv61_1 _) rfl ?_
  refine RL.build rfl rfl (qo_bv63_0_1_2 _ _ _ _ _) rfl ?_
  refine RL.buildSlice rfl rfl (qo_bs28_1_0 _ _ _ _ _) rfl (fun b1 => ?_)
  refine RL.weak (fun w hw => hw.boxArr) ?_
  refine RL.build rfl rfl (qo_bv39_0_1 _ _ _ _) rfl ?_
  refine RL.call rfl rfl Try.call15 rfl (recv_spec (b := q0.1.1) (d := q0.1.2) (h := h_0) (ver := 5) (l := exY) q0.2 (.tail _ (.head _)) (.head _) (by decide) (by decide) ⟨by decide, by decide⟩) (fun q1 => ?_)
  refine RL.move rfl rfl rfl ?_
  refine RL.extract rfl rfl rfl rfl ?_
  refine RL.extract rfl rfl rfl rfl ?_
  refine RL.assign rfl rfl rfl ?_
  refine RL.assign rfl rfl rfl ?_
  refine RL.nil ?_
  refine NX.seq ?_
  refine TR.seq ?_
  refine TR.region ?_
  refine RL.build rfl rfl (qo_bv61_1 _) rfl ?_
  refine RL.build rfl rfl (qo_bv61_1 _) rfl ?_
  refine RL.build rfl rfl (qo_bv63_0_1_2 _ _ _ _ _) rfl ?_
  refine RL.buildSlice rfl rfl (qo_bs28_1_0 _ _ _ _ _) rfl (fun b2 => ?_)
  refine RL.weak (fun w hw => hw.boxArr) ?_
  refine RL.build rfl rfl (qo_bv39_0_1 _ _ _ _) rfl ?_
  refine RL.allocA rfl (Try.zeroValue39) rfl (fun b3 => ?_)
  refine RL.storeA 0 rfl rfl rfl rfl qo_tz39 rfl rfl ?_
  refine RL.nil ?_
  refine NX.seq ?_
  refine TR.seq ?_
  refine TR.region ?_
  refine RL.move rfl rfl rfl ?_
  refine RL.loadA 0 rfl rfl rfl qo_ta39 rfl ?_
  refine RL.call rfl rfl Try.call15 rfl (Ctr.pick 2 [1, 0] rfl (recv_spec (b := q0.1.1) (d := q1.1) (h := h_1) (ver := 4) (l := exX) (q1.2.of (congrArg Prod.snd ex_recv1)) (.tail _ (.head _)) (.head _) (by decide) (by decide) ⟨by decide, by decide⟩)) (fun q2 => ?_)
  refine RL.move rfl rfl rfl ?_
  refine RL.extract rfl rfl rfl rfl ?_
  refine RL.extract rfl rfl rfl rfl ?_
  refine RL.assign rfl rfl rfl ?_
  refine RL.assign rfl rfl rfl ?_
  refine RL.nil ?_
  refine NX.seq ?_
  refine TR.seq ?_
  refine TR.region ?_
  refine RL.move rfl rfl rfl ?_
  refine RL.loadA 1 rfl rfl rfl qo_ta39 rfl ?_
  refine RL.call rfl rfl Try.call15 rfl (recv_spec (b := q0.1.1) (d := q2.1) (h := h_2) (ver := 4) (l := exX) (q2.2.of (congrArg Prod.snd ex_recv2)) (.head _) (.tail _ (.head _)) (by decide) (by decide) ⟨by decide, by decide⟩) (fun q3 => ?_)
  refine RL.move rfl rfl rfl ?_
  refine RL.extract rfl rfl rfl rfl ?_
  refine RL.extract rfl rfl rfl rfl ?_
  refine RL.assign rfl rfl rfl ?_
  refine RL.assign rfl rfl rfl ?_
  refine RL.nil ?_
  refine NX.seq ?_
  refine TR.seq ?_
  refine TR.region ?_
  refine RL.move rfl rfl rfl ?_
  refine RL.call rfl rfl Try.call18 rfl (since_spec (b := q0.1.1) (d := q3.1) (h := h_2) (ver := 3) (q3.2.of (congrArg Prod.snd ex_recv3)) (.head _) ⟨by decide, by decide⟩) (fun zs => ?_)
  refine RL.move rfl rfl rfl ?_
  refine RL.extract rfl rfl rfl rfl ?_
  refine RL.extract rfl rfl rfl rfl ?_
  refine RL.assign rfl rfl rfl ?_
  refine RL.assign rfl rfl rfl ?_
  refine RL.nil ?_
  refine NX.seq ?_
  refine TR.seq ?_
  refine TR.region ?_
  refine RL.move rfl rfl rfl ?_
  refine RL.bin rfl rfl rfl (BinV.to (d := true) BinV.eql (decide_eq_true (by rw [ex_recv1]))) rfl ?_
  refine RL.move rfl rfl rfl ?_
  refine RL.move rfl rfl rfl ?_
  refine RL.bin rfl rfl rfl (BinV.to (d := true) BinV.eql (decide_eq_true (by rw [ex_recv1]))) rfl ?_
  refine RL.pickT rfl rfl rfl rfl ?_
  refine RL.move rfl rfl rfl ?_
  refine RL.move rfl rfl rfl ?_
  refine RL.bin rfl rfl rfl (BinV.to (d := true) BinV.eql (decide_eq_true (by rw [ex_recv2]))) rfl ?_
  refine RL.pickT rfl rfl rfl rfl ?_
  refine RL.move rfl rfl rfl ?_
  refine RL.move rfl rfl rfl ?_
  refine RL.bin rfl rfl rfl (BinV.to (d := true) BinV.eql (decide_eq_true (by rw [ex_recv2]))) rfl ?_
  refine RL.pickT rfl rfl rfl rfl ?_
  refine RL.move rfl rfl rfl ?_
  refine RL.move rfl rfl rfl ?_
  refine RL.bin rfl rfl rfl (BinV.to (d := true) BinV.eql (decide_eq_true (by rw [ex_recv3]))) rfl ?_
  refine RL.pickT rfl rfl rfl rfl ?_
  refine RL.move rfl rfl rfl ?_
  refine RL.move rfl rfl rfl ?_
  refine RL.call rfl rfl Try.call20 rfl (dtext_spec (b := q0.1.1) (d := q3.1) (h := h_2) (q3.2.of (congrArg Prod.snd ex_recv3))) (fun _ => ?_)
  refine RL.bin rfl rfl rfl (BinV.to (d := true) BinV.eqlS (decide_eq_true rfl)) rfl ?_
  refine RL.pickT rfl rfl rfl rfl ?_
  refine RL.move rfl rfl rfl ?_
  refine RL.move rfl rfl rfl ?_
  refine RL.bin rfl rfl rfl (BinV.to (d := true) BinV.eql (decide_eq_true (by rw [ex_since]))) rfl ?_
  refine RL.pickT rfl rfl rfl rfl ?_
  refine RL.move rfl rfl rfl ?_
  refine RL.move rfl rfl rfl ?_
  refine RL.build rfl rfl (qo_bv78_0_1_2 _ _ _) rfl ?_
  refine RL.build rfl rfl (qo_bv78_0_1_2 _ _ _) rfl ?_
  refine RL.buildSlice rfl rfl (qo_bs26_2_0_1 _ _ _ _ _ _) rfl (fun b4 => ?_)
  refine RL.weak (fun w hw => hw.boxArr) ?_
  refine RL.call rfl rfl Try.call21 rfl (Ctr.boolT (decide_eq_true (by rw [ex_since])) (same_spec (xs := (sinceH h_2 3).1) (ys := [⟨1, 1, [120]⟩, ⟨2, 2, [121]⟩]) (.tail _ (.head _)) (.head _) (by rw [ex_since]; decide))) (fun _ => ?_)
  refine RL.pickT rfl rfl rfl rfl ?_
  refine RL.assign rfl rfl rfl ?_
  refine RL.nil ?_
  refine NX.seq ?_
  refine TR.ret ?_
  exact NX.ret1 () rfl rfl rfl (fun w hw => (hw.to 2 [] 8 [] rfl))
end Go.Proofs.Ytkdeopioelocnaa

namespace Go.Proofs.Ytkdeopioelocnaa
open Go.GL
set_option linter.unusedVariables false
theorem qq_bs22_1_0 (x0 : Int) : BuildSV Try.prog 22 3 1 [(0, .int .i64 x0)] [.int .i64 x0] := fun w => by kernel_rfl
theorem qq_bv61_  : BuildV Try.prog 61 [] (.agg #[.int .i64 0, .int .i64 0]) := fun w => by kernel_rfl
theorem qq_bv61_0_1 (x0 : Int) (x1 : Int) : BuildV Try.prog 61 [(0, .int .i64 x0), (1, .int .i64 x1)] (.agg #[.int .i64 x0, .int .i64 x1]) := fun w => by kernel_rfl
theorem qq_ni22 : noInt Try.prog 22 = true := by kernel_rfl
theorem qq_ta61 : tyAgg Try.prog 61 2 = true := by kernel_rfl
theorem qq_te3 : tyElem Try.prog 3 1 8 = true := by kernel_rfl
theorem qq_tl22 : tySlice Try.prog 22 3 = true := by kernel_rfl
theorem qq_ts3 : tyScalar Try.prog 3 = true := by kernel_rfl
theorem qq_tstr9 : tyStr Try.prog 9 = true := by kernel_rfl
theorem qq_tz3 : tySize Try.prog 3 1 = true := by kernel_rfl
theorem qq_tz61 : tySize Try.prog 61 2 = true := by kernel_rfl
theorem second_spec {c : Nat} {M : List HP} {F : List Fact} : Ctr Try.prog 100 [.int .u8 (c : Int)] M F Unit (fun _ => .tuple #[.int .u8 ((secB c).1 : Nat), .int .u8 ((secB c).2 : Nat)]) (fun _ => M) (fun _ => F) := by
  refine Ctr.body Try.func100 rfl rfl ?_
  refine TR.seq ?_
  refine TR.region ?_
  refine RL.assign rfl rfl rfl ?_
  refine RL.assign rfl rfl rfl ?_
  refine RL.nil ?_
  refine NX.seq ?_
  refine TR.seq ?_
  refine TR.seq ?_
  refine TR.region ?_
  refine RL.move rfl rfl rfl ?_
  refine RL.nil ?_
  refine NX.seq ?_
  refine TR.block ?_
  refine TR.seq ?_
  refine TR.region ?_
  refine RL.bin rfl rfl rfl BinV.eql rfl ?_
  refine RL.assign rfl rfl rfl ?_
  refine RL.nil ?_
  refine NX.seq ?_
  refine TR.cond rfl (fun h1 => ?_) (fun h1 => ?_)
  · skip
    have g5 : c = 224 := by have := of_decide_eq_true h1; omega
    refine TR.seq ?_
    refine TR.region ?_
    refine RL.assign rfl rfl rfl ?_
    refine RL.assign rfl rfl rfl ?_
    refine RL.nil ?_
    refine NX.seq ?_
    refine TR.ret ?_
    refine NX.retBlock ?_
    refine NX.retThen ?_
    have e9 : secB c = (160, 191) := by unfold secB; rw [if_pos g5]
    exact NX.ret2 () rfl rfl rfl (by rw [e9]; rfl) (fun w hw => hw)
  · skip
    have g5 : ¬ c = 224 := by have := of_decide_eq_false h1; omega
    refine TR.seq ?_
    refine TR.region ?_
    refine RL.bin rfl rfl rfl BinV.eql rfl ?_
    refine RL.assign rfl rfl rfl ?_
    refine RL.nil ?_
    refine NX.seq ?_
    refine TR.cond rfl (fun h2 => ?_) (fun h2 => ?_)
    · skip
      have g7 : c = 237 := by have := of_decide_eq_true h2; omega
      refine TR.seq ?_
      refine TR.region ?_
      refine RL.assign rfl rfl rfl ?_
      refine RL.assign rfl rfl rfl ?_
      refine RL.nil ?_
      refine NX.seq ?_
      refine TR.ret ?_
      refine NX.retBlock ?_
      refine NX.retThen ?_
      have e9 : secB c = (128, 159) := by unfold secB; rw [if_neg g5, if_pos g7]
      exact NX.ret2 () rfl rfl rfl (by rw [e9]; rfl) (fun w hw => hw)
    · skip
      have g7 : ¬ c = 237 := by have := of_decide_eq_false h2; omega
      refine TR.seq ?_
      refine TR.region ?_
      refine RL.bin rfl rfl rfl BinV.eql rfl ?_
      refine RL.assign rfl rfl rfl ?_
      refine RL.nil ?_
      refine NX.seq ?_
      refine TR.cond rfl (fun h3 => ?_) (fun h3 => ?_)
      · skip
        have g9 : c = 240 := by have := of_decide_eq_true h3; omega
        refine TR.seq ?_
        refine TR.region ?_
        refine RL.assign rfl rfl rfl ?_
        refine RL.assign rfl rfl rfl ?_
        refine RL.nil ?_
        refine NX.seq ?_
        refine TR.ret ?_
        refine NX.retBlock ?_
        refine NX.retThen ?_
        have e9 : secB c = (144, 191) := by unfold secB; rw [if_neg g5, if_neg g7, if_pos g9]
        exact NX.ret2 () rfl rfl rfl (by rw [e9]; rfl) (fun w hw => hw)
      · skip
        have g9 : ¬ c = 240 := by have := of_decide_eq_false h3; omega
        refine TR.seq ?_
        refine TR.region ?_
        refine RL.bin rfl rfl rfl BinV.eql rfl ?_
        refine RL.assign rfl rfl rfl ?_
        refine RL.nil ?_
        refine NX.seq ?_
        refine TR.cond rfl (fun h4 => ?_) (fun h4 => ?_)
        · skip
          have g11 : c = 244 := by have := of_decide_eq_true h4; omega
          refine TR.seq ?_
          refine TR.region ?_
          refine RL.assign rfl rfl rfl ?_
          refine RL.assign rfl rfl rfl ?_
          refine RL.nil ?_
          refine NX.seq ?_
          refine TR.ret ?_
          refine NX.retBlock ?_
          refine NX.retThen ?_
          have e9 : secB c = (128, 143) := by unfold secB; rw [if_neg g5, if_neg g7, if_neg g9, if_pos g11]
          exact NX.ret2 () rfl rfl rfl (by rw [e9]; rfl) (fun w hw => hw)
        · skip
          have g11 : ¬ c = 244 := by have := of_decide_eq_false h4; omega
          refine TR.skip ?_
          refine NX.off ?_
          refine NX.seq ?_
          refine TR.seq ?_
          refine TR.region ?_
          refine RL.assign rfl rfl rfl ?_
          refine RL.assign rfl rfl rfl ?_
          refine RL.nil ?_
          refine NX.seq ?_
          refine TR.ret ?_
          have e9 : secB c = (128, 191) := by unfold secB; rw [if_neg g5, if_neg g7, if_neg g9, if_neg g11]
          exact NX.ret2 () rfl rfl rfl (by rw [e9]; rfl) (fun w hw => hw)
theorem between_spec {tx : List UInt8} {i lo hi : Nat} {z : Int} {M : List HP} {F : List Fact} (hz : z = i) : Ctr Try.prog 101 [S tx, I z, .int .u8 (lo : Int), .int .u8 (hi : Int)] M F Unit (fun _ => .bool (decide (btw tx i lo hi))) (fun _ => M) (fun _ => F) := by
  refine Ctr.body Try.func101 rfl rfl ?_
  refine TR.seq ?_
  refine TR.region ?_
  refine RL.assign rfl rfl rfl ?_
  refine RL.nil ?_
  refine NX.seq ?_
  refine TR.seq ?_
  refine TR.region ?_
  refine RL.move rfl rfl rfl ?_
  refine RL.move rfl rfl rfl ?_
  refine RL.lenStr rfl qq_tstr9 rfl rfl ?_
  refine RL.bin rfl rfl rfl BinV.lss rfl ?_
  refine RL.move rfl rfl rfl ?_
  refine RL.part (fun h1 => ?_) (fun h1 => ?_)
  · skip
    have hin : i < tx.length := by have := of_decide_eq_true h1; omega
    refine RL.move rfl rfl rfl ?_
    refine RL.move rfl rfl rfl ?_
    refine RL.indexS rfl qq_tstr9 rfl rfl (by omega) (getU hz hin) rfl ?_
    refine RL.move rfl rfl rfl ?_
    refine RL.bin rfl rfl rfl BinV.geq rfl ?_
    refine RL.pickT rfl rfl rfl rfl ?_
    refine RL.move rfl rfl rfl ?_
    refine RL.part (fun h2 => ?_) (fun h2 => ?_)
    · skip
      have hlo : lo ≤ cb tx i := by have := of_decide_eq_true h2; unfold cb; omega
      refine RL.move rfl rfl rfl ?_
      refine RL.move rfl rfl rfl ?_
      refine RL.indexS rfl qq_tstr9 rfl rfl (by omega) (getU hz hin) rfl ?_
      refine RL.move rfl rfl rfl ?_
      refine RL.bin rfl rfl rfl BinV.leq rfl ?_
      refine RL.pickT rfl rfl rfl rfl ?_
      refine RL.assign rfl rfl rfl ?_
      refine RL.nil ?_
      refine NX.seq ?_
      refine TR.ret ?_
      exact NX.ret1 () rfl rfl (congrArg Value.bool (decide_eq_decide.2 ⟨fun e => ⟨hin, hlo, by unfold cb; omega⟩, fun e => by have := e.2.2; unfold cb at this; omega⟩)) (fun w hw => hw)
    · skip
      have hlo : ¬ lo ≤ cb tx i := by have := of_decide_eq_false h2; unfold cb; omega
      refine RL.skip rfl rfl rfl ?_
      refine RL.skip rfl rfl rfl ?_
      refine RL.skip rfl rfl rfl ?_
      refine RL.skip rfl rfl rfl ?_
      refine RL.skip rfl rfl rfl ?_
      refine RL.pickF rfl rfl rfl rfl ?_
      refine RL.assign rfl rfl rfl ?_
      refine RL.nil ?_
      refine NX.seq ?_
      refine TR.ret ?_
      exact NX.ret1 () rfl rfl (congrArg Value.bool (decide_eq_false (fun e => hlo e.2.1)).symm) (fun w hw => hw)
  · skip
    have hin : ¬ i < tx.length := by have := of_decide_eq_false h1; omega
    refine RL.skip rfl rfl rfl ?_
    refine RL.skip rfl rfl rfl ?_
    refine RL.skip rfl rfl rfl ?_
    refine RL.skip rfl rfl rfl ?_
    refine RL.skip rfl rfl rfl ?_
    refine RL.pickF rfl rfl rfl rfl ?_
    refine RL.move rfl rfl rfl ?_
    refine RL.skip rfl rfl rfl ?_
    refine RL.skip rfl rfl rfl ?_
    refine RL.skip rfl rfl rfl ?_
    refine RL.skip rfl rfl rfl ?_
    refine RL.skip rfl rfl rfl ?_
    refine RL.pickF rfl rfl rfl rfl ?_
    refine RL.assign rfl rfl rfl ?_
    refine RL.nil ?_
    refine NX.seq ?_
    refine TR.ret ?_
    exact NX.ret1 () rfl rfl (congrArg Value.bool (decide_eq_false (fun e => hin e.1)).symm) (fun w hw => hw)
set_option maxHeartbeats 1000000 in
theorem char_spec {tx : List UInt8} {i : Nat} {z : Int} {M : List HP} {F : List Fact} (hz : z = i) (hi : i < tx.length) (hl : tx.length ≤ 4611686018427387904) : Ctr Try.prog 91 [S tx, I z] M F Unit (fun _ => .tuple #[I ((charL (tx.drop i)).1 : Nat), I ((charL (tx.drop i)).2 : Nat)]) (fun _ => M) (fun _ => F) := by
  refine Ctr.body Try.func91 rfl rfl ?_
  refine TR.seq ?_
  refine TR.region ?_
  refine RL.assign rfl rfl rfl ?_
  refine RL.assign rfl rfl rfl ?_
  refine RL.nil ?_
  refine NX.seq ?_
  refine TR.seq ?_
  refine TR.region ?_
  refine RL.move rfl rfl rfl ?_
  refine RL.move rfl rfl rfl ?_
  refine RL.indexS rfl qq_tstr9 rfl rfl (by omega) (getU hz hi) rfl ?_
  refine RL.assign rfl rfl rfl ?_
  refine RL.nil ?_
  refine NX.seq ?_
  refine TR.seq ?_
  refine TR.region ?_
  refine RL.move rfl rfl rfl ?_
  refine RL.call rfl rfl Try.call100 rfl (second_spec) (fun _ => ?_)
  refine RL.move rfl rfl rfl ?_
  refine RL.extract rfl rfl rfl rfl ?_
  refine RL.extract rfl rfl rfl rfl ?_
  refine RL.assign rfl rfl rfl ?_
  refine RL.assign rfl rfl rfl ?_
  refine RL.nil ?_
  refine NX.seq ?_
  refine TR.cut (ι := {u : Unit // ¬ chA tx i}) (fun _ => [(0, S tx), (1, I z), (6, .int .u8 ((tx.getD i 0).toNat : Nat)), (7, .int .u8 ((secB (tx.getD i 0).toNat).1 : Nat)), (8, .int .u8 ((secB (tx.getD i 0).toNat).2 : Nat))]) (fun _ => M) (fun _ => F) ?_ (fun nA => ?_)
  · skip
    refine TR.seq ?_
    refine TR.region ?_
    refine RL.move rfl rfl rfl ?_
    refine RL.bin rfl rfl rfl BinV.geq rfl ?_
    refine RL.move rfl rfl rfl ?_
    refine RL.part (fun h1 => ?_) (fun h1 => ?_)
    · skip
      have gA1 : 194 ≤ cb tx i := by have := of_decide_eq_true h1; unfold cb; omega
      refine RL.move rfl rfl rfl ?_
      refine RL.bin rfl rfl rfl BinV.leq rfl ?_
      refine RL.pickT rfl rfl rfl rfl ?_
      refine RL.move rfl rfl rfl ?_
      refine RL.part (fun h2 => ?_) (fun h2 => ?_)
      · skip
        have gA2 : cb tx i ≤ 223 := by have := of_decide_eq_true h2; unfold cb; omega
        refine RL.move rfl rfl rfl ?_
        refine RL.move rfl rfl rfl ?_
        refine RL.bin rfl rfl rfl (BinV.add _ rfl (by omega) (by omega)) rfl ?_
        refine RL.call rfl rfl Try.call101 rfl (between_spec (i := i + 1) (by omega)) (fun _ => ?_)
        refine RL.pickT rfl rfl rfl rfl ?_
        refine RL.nil ?_
        refine NX.seq ?_
        refine TR.cond rfl (fun h3 => ?_) (fun h3 => ?_)
        · skip
          have gA3 : btw tx (i + 1) 128 191 := of_decide_eq_true h3
          refine TR.seq ?_
          refine TR.region ?_
          refine RL.assign rfl rfl rfl ?_
          refine RL.assign rfl rfl rfl ?_
          refine RL.nil ?_
          refine NX.seq ?_
          refine TR.ret ?_
          refine NX.retThen ?_
          exact NX.ret2 () rfl rfl rfl (by rw [charL_drop, if_pos ⟨gA1, gA2, gA3⟩]; rfl) (fun w hw => hw)
        · skip
          have gA3 : ¬ btw tx (i + 1) 128 191 := of_decide_eq_false h3
          refine TR.skip ?_
          exact NX.meet (⟨(), (fun e => gA3 e.2.2)⟩ : {u : Unit // ¬ chA tx i}) ⟨rfl, rfl, rfl, rfl, rfl, trivial⟩ (fun w hw => hw)
      · skip
        have gA2 : ¬ cb tx i ≤ 223 := by have := of_decide_eq_false h2; unfold cb; omega
        refine RL.skip rfl rfl rfl ?_
        refine RL.skip rfl rfl rfl ?_
        refine RL.skip rfl rfl rfl ?_
        refine RL.skip rfl rfl rfl ?_
        refine RL.pickF rfl rfl rfl rfl ?_
        refine RL.nil ?_
        refine NX.seq ?_
        refine TR.condF rfl ?_
        refine TR.skip ?_
        exact NX.meet (⟨(), (fun e => gA2 e.2.1)⟩ : {u : Unit // ¬ chA tx i}) ⟨rfl, rfl, rfl, rfl, rfl, trivial⟩ (fun w hw => hw)
    · skip
      have gA1 : ¬ 194 ≤ cb tx i := by have := of_decide_eq_false h1; unfold cb; omega
      refine RL.skip rfl rfl rfl ?_
      refine RL.skip rfl rfl rfl ?_
      refine RL.pickF rfl rfl rfl rfl ?_
      refine RL.move rfl rfl rfl ?_
      refine RL.skip rfl rfl rfl ?_
      refine RL.skip rfl rfl rfl ?_
      refine RL.skip rfl rfl rfl ?_
      refine RL.skip rfl rfl rfl ?_
      refine RL.pickF rfl rfl rfl rfl ?_
      refine RL.nil ?_
      refine NX.seq ?_
      refine TR.condF rfl ?_
      refine TR.skip ?_
      exact NX.meet (⟨(), (fun e => gA1 e.1)⟩ : {u : Unit // ¬ chA tx i}) ⟨rfl, rfl, rfl, rfl, rfl, trivial⟩ (fun w hw => hw)
  refine TR.cut (ι := {u : Unit // ¬ chB tx i}) (fun _ => [(0, S tx), (1, I z), (6, .int .u8 ((tx.getD i 0).toNat : Nat)), (7, .int .u8 ((secB (tx.getD i 0).toNat).1 : Nat)), (8, .int .u8 ((secB (tx.getD i 0).toNat).2 : Nat))]) (fun _ => M) (fun _ => F) ?_ (fun nB => ?_)
  · skip
    refine TR.seq ?_
    refine TR.region ?_
    refine RL.move rfl rfl rfl ?_
    refine RL.bin rfl rfl rfl BinV.geq rfl ?_
    refine RL.move rfl rfl rfl ?_
    refine RL.part (fun h4 => ?_) (fun h4 => ?_)
    · skip
      have gB1 : 224 ≤ cb tx i := by have := of_decide_eq_true h4; unfold cb; omega
      refine RL.move rfl rfl rfl ?_
      refine RL.bin rfl rfl rfl BinV.leq rfl ?_
      refine RL.pickT rfl rfl rfl rfl ?_
      refine RL.move rfl rfl rfl ?_
      refine RL.part (fun h5 => ?_) (fun h5 => ?_)
      · skip
        have gB2 : cb tx i ≤ 239 := by have := of_decide_eq_true h5; unfold cb; omega
        refine RL.move rfl rfl rfl ?_
        refine RL.move rfl rfl rfl ?_
        refine RL.bin rfl rfl rfl (BinV.add _ rfl (by omega) (by omega)) rfl ?_
        refine RL.move rfl rfl rfl ?_
        refine RL.move rfl rfl rfl ?_
        refine RL.call rfl rfl Try.call101 rfl (between_spec (i := i + 1) (by omega)) (fun _ => ?_)
        refine RL.pickT rfl rfl rfl rfl ?_
        refine RL.move rfl rfl rfl ?_
        refine RL.part (fun h6 => ?_) (fun h6 => ?_)
        · skip
          have gB3 : btw tx (i + 1) (secB (cb tx i)).1 (secB (cb tx i)).2 := of_decide_eq_true h6
          refine RL.move rfl rfl rfl ?_
          refine RL.move rfl rfl rfl ?_
          refine RL.bin rfl rfl rfl (BinV.add _ rfl (by omega) (by omega)) rfl ?_
          refine RL.call rfl rfl Try.call101 rfl (between_spec (i := i + 2) (by omega)) (fun _ => ?_)
          refine RL.pickT rfl rfl rfl rfl ?_
          refine RL.nil ?_
          refine NX.seq ?_
          refine TR.cond rfl (fun h7 => ?_) (fun h7 => ?_)
          · skip
            have gB4 : btw tx (i + 2) 128 191 := of_decide_eq_true h7
            refine TR.seq ?_
            refine TR.region ?_
            refine RL.assign rfl rfl rfl ?_
            refine RL.assign rfl rfl rfl ?_
            refine RL.nil ?_
            refine NX.seq ?_
            refine TR.ret ?_
            refine NX.retThen ?_
            exact NX.ret2 () rfl rfl rfl (by rw [charL_drop, if_neg nA.2, if_pos ⟨gB1, gB2, gB3, gB4⟩]; rfl) (fun w hw => hw)
          · skip
            have gB4 : ¬ btw tx (i + 2) 128 191 := of_decide_eq_false h7
            refine TR.skip ?_
            exact NX.meet (⟨(), (fun e => gB4 e.2.2.2)⟩ : {u : Unit // ¬ chB tx i}) ⟨rfl, rfl, rfl, rfl, rfl, trivial⟩ (fun w hw => hw)
        · skip
          have gB3 : ¬ btw tx (i + 1) (secB (cb tx i)).1 (secB (cb tx i)).2 := of_decide_eq_false h6
          refine RL.skip rfl rfl rfl ?_
          refine RL.skip rfl rfl rfl ?_
          refine RL.skip rfl rfl rfl ?_
          refine RL.skip rfl rfl rfl ?_
          refine RL.pickF rfl rfl rfl rfl ?_
          refine RL.nil ?_
          refine NX.seq ?_
          refine TR.condF rfl ?_
          refine TR.skip ?_
          exact NX.meet (⟨(), (fun e => gB3 e.2.2.1)⟩ : {u : Unit // ¬ chB tx i}) ⟨rfl, rfl, rfl, rfl, rfl, trivial⟩ (fun w hw => hw)
      · skip
        have gB2 : ¬ cb tx i ≤ 239 := by have := of_decide_eq_false h5; unfold cb; omega
        refine RL.skip rfl rfl rfl ?_
        refine RL.skip rfl rfl rfl ?_
        refine RL.skip rfl rfl rfl ?_
        refine RL.skip rfl rfl rfl ?_
        refine RL.skip rfl rfl rfl ?_
        refine RL.skip rfl rfl rfl ?_
        refine RL.pickF rfl rfl rfl rfl ?_
        refine RL.move rfl rfl rfl ?_
        refine RL.skip rfl rfl rfl ?_
        refine RL.skip rfl rfl rfl ?_
        refine RL.skip rfl rfl rfl ?_
        refine RL.skip rfl rfl rfl ?_
        refine RL.pickF rfl rfl rfl rfl ?_
        refine RL.nil ?_
        refine NX.seq ?_
        refine TR.condF rfl ?_
        refine TR.skip ?_
        exact NX.meet (⟨(), (fun e => gB2 e.2.1)⟩ : {u : Unit // ¬ chB tx i}) ⟨rfl, rfl, rfl, rfl, rfl, trivial⟩ (fun w hw => hw)
    · skip
      have gB1 : ¬ 224 ≤ cb tx i := by have := of_decide_eq_false h4; unfold cb; omega
      refine RL.skip rfl rfl rfl ?_
      refine RL.skip rfl rfl rfl ?_
      refine RL.pickF rfl rfl rfl rfl ?_
      refine RL.move rfl rfl rfl ?_
      refine RL.skip rfl rfl rfl ?_
      refine RL.skip rfl rfl rfl ?_
      refine RL.skip rfl rfl rfl ?_
      refine RL.skip rfl rfl rfl ?_
      refine RL.skip rfl rfl rfl ?_
      refine RL.skip rfl rfl rfl ?_
      refine RL.pickF rfl rfl rfl rfl ?_
      refine RL.move rfl rfl rfl ?_
      refine RL.skip rfl rfl rfl ?_
      refine RL.skip rfl rfl rfl ?_
      refine RL.skip rfl rfl rfl ?_
      refine RL.skip rfl rfl rfl ?_
      refine RL.pickF rfl rfl rfl rfl ?_
      refine RL.nil ?_
      refine NX.seq ?_
      refine TR.condF rfl ?_
      refine TR.skip ?_
      exact NX.meet (⟨(), (fun e => gB1 e.1)⟩ : {u : Unit // ¬ chB tx i}) ⟨rfl, rfl, rfl, rfl, rfl, trivial⟩ (fun w hw => hw)
  refine TR.seq ?_
  refine TR.seq ?_
  refine TR.region ?_
  refine RL.move rfl rfl rfl ?_
  refine RL.bin rfl rfl rfl BinV.geq rfl ?_
  refine RL.move rfl rfl rfl ?_
  refine RL.part (fun h8 => ?_) (fun h8 => ?_)
  · skip
    have gC1 : 240 ≤ cb tx i := by have := of_decide_eq_true h8; unfold cb; omega
    refine RL.move rfl rfl rfl ?_
    refine RL.bin rfl rfl rfl BinV.leq rfl ?_
    refine RL.pickT rfl rfl rfl rfl ?_
    refine RL.move rfl rfl rfl ?_
    refine RL.part (fun h9 => ?_) (fun h9 => ?_)
    · skip
      have gC2 : cb tx i ≤ 244 := by have := of_decide_eq_true h9; unfold cb; omega
      refine RL.move rfl rfl rfl ?_
      refine RL.move rfl rfl rfl ?_
      refine RL.bin rfl rfl rfl (BinV.add _ rfl (by omega) (by omega)) rfl ?_
      refine RL.move rfl rfl rfl ?_
      refine RL.move rfl rfl rfl ?_
      refine RL.call rfl rfl Try.call101 rfl (between_spec (i := i + 1) (by omega)) (fun _ => ?_)
      refine RL.pickT rfl rfl rfl rfl ?_
      refine RL.move rfl rfl rfl ?_
      refine RL.part (fun h10 => ?_) (fun h10 => ?_)
      · skip
        have gC3 : btw tx (i + 1) (secB (cb tx i)).1 (secB (cb tx i)).2 := of_decide_eq_true h10
        refine RL.move rfl rfl rfl ?_
        refine RL.move rfl rfl rfl ?_
        refine RL.bin rfl rfl rfl (BinV.add _ rfl (by omega) (by omega)) rfl ?_
        refine RL.call rfl rfl Try.call101 rfl (between_spec (i := i + 2) (by omega)) (fun _ => ?_)
        refine RL.pickT rfl rfl rfl rfl ?_
        refine RL.move rfl rfl rfl ?_
        refine RL.part (fun h11 => ?_) (fun h11 => ?_)
        · skip
          have gC4 : btw tx (i + 2) 128 191 := of_decide_eq_true h11
          refine RL.move rfl rfl rfl ?_
          refine RL.move rfl rfl rfl ?_
          refine RL.bin rfl rfl rfl (BinV.add _ rfl (by omega) (by omega)) rfl ?_
          refine RL.call rfl rfl Try.call101 rfl (between_spec (i := i + 3) (by omega)) (fun _ => ?_)
          refine RL.pickT rfl rfl rfl rfl ?_
          refine RL.nil ?_
          refine NX.seq ?_
          refine TR.cond rfl (fun h12 => ?_) (fun h12 => ?_)
          · skip
            have gC5 : btw tx (i + 3) 128 191 := of_decide_eq_true h12
            refine TR.seq ?_
            refine TR.region ?_
            refine RL.assign rfl rfl rfl ?_
            refine RL.assign rfl rfl rfl ?_
            refine RL.nil ?_
            refine NX.seq ?_
            refine TR.ret ?_
            refine NX.retThen ?_
            exact NX.ret2 () rfl rfl rfl (by rw [charL_drop, if_neg nA.2, if_neg nB.2, if_pos ⟨gC1, gC2, gC3, gC4, gC5⟩]; rfl) (fun w hw => hw)
          · skip
            have gC5 : ¬ btw tx (i + 3) 128 191 := of_decide_eq_false h12
            refine TR.skip ?_
            refine NX.seq ?_
            refine TR.seq ?_
            refine TR.region ?_
            refine RL.assign rfl rfl rfl ?_
            refine RL.assign rfl rfl rfl ?_
            refine RL.nil ?_
            refine NX.seq ?_
            refine TR.ret ?_
            exact NX.ret2 () rfl rfl rfl (by rw [charL_drop, if_neg nA.2, if_neg nB.2, if_neg (fun e => gC5 e.2.2.2.2)]; rfl) (fun w hw => hw)
        · skip
          have gC4 : ¬ btw tx (i + 2) 128 191 := of_decide_eq_false h11
          refine RL.skip rfl rfl rfl ?_
          refine RL.skip rfl rfl rfl ?_
          refine RL.skip rfl rfl rfl ?_
          refine RL.skip rfl rfl rfl ?_
          refine RL.pickF rfl rfl rfl rfl ?_
          refine RL.nil ?_
          refine NX.seq ?_
          refine TR.condF rfl ?_
          refine TR.skip ?_
          refine NX.seq ?_
          refine TR.seq ?_
          refine TR.region ?_
          refine RL.assign rfl rfl rfl ?_
          refine RL.assign rfl rfl rfl ?_
          refine RL.nil ?_
          refine NX.seq ?_
          refine TR.ret ?_
          exact NX.ret2 () rfl rfl rfl (by rw [charL_drop, if_neg nA.2, if_neg nB.2, if_neg (fun e => gC4 e.2.2.2.1)]; rfl) (fun w hw => hw)
      · skip
        have gC3 : ¬ btw tx (i + 1) (secB (cb tx i)).1 (secB (cb tx i)).2 := of_decide_eq_false h10
        refine RL.skip rfl rfl rfl ?_
        refine RL.skip rfl rfl rfl ?_
        refine RL.skip rfl rfl rfl ?_
        refine RL.skip rfl rfl rfl ?_
        refine RL.pickF rfl rfl rfl rfl ?_
        refine RL.move rfl rfl rfl ?_
        refine RL.skip rfl rfl rfl ?_
        refine RL.skip rfl rfl rfl ?_
        refine RL.skip rfl rfl rfl ?_
        refine RL.skip rfl rfl rfl ?_
        refine RL.pickF rfl rfl rfl rfl ?_
        refine RL.nil ?_
        refine NX.seq ?_
        refine TR.condF rfl ?_
        refine TR.skip ?_
        refine NX.seq ?_
        refine TR.seq ?_
        refine TR.region ?_
        refine RL.assign rfl rfl rfl ?_
        refine RL.assign rfl rfl rfl ?_
        refine RL.nil ?_
        refine NX.seq ?_
        refine TR.ret ?_
        exact NX.ret2 () rfl rfl rfl (by rw [charL_drop, if_neg nA.2, if_neg nB.2, if_neg (fun e => gC3 e.2.2.1)]; rfl) (fun w hw => hw)
    · skip
      have gC2 : ¬ cb tx i ≤ 244 := by have := of_decide_eq_false h9; unfold cb; omega
      refine RL.skip rfl rfl rfl ?_
      refine RL.skip rfl rfl rfl ?_
      refine RL.skip rfl rfl rfl ?_
      refine RL.skip rfl rfl rfl ?_
      refine RL.skip rfl rfl rfl ?_
      refine RL.skip rfl rfl rfl ?_
      refine RL.pickF rfl rfl rfl rfl ?_
      refine RL.move rfl rfl rfl ?_
      refine RL.skip rfl rfl rfl ?_
      refine RL.skip rfl rfl rfl ?_
      refine RL.skip rfl rfl rfl ?_
      refine RL.skip rfl rfl rfl ?_
      refine RL.pickF rfl rfl rfl rfl ?_
      refine RL.move rfl rfl rfl ?_
      refine RL.skip rfl rfl rfl ?_
      refine RL.skip rfl rfl rfl ?_
      refine RL.skip rfl rfl rfl ?_
      refine RL.skip rfl rfl rfl ?_
      refine RL.pickF rfl rfl rfl rfl ?_
      refine RL.nil ?_
      refine NX.seq ?_
      refine TR.condF rfl ?_
      refine TR.skip ?_
      refine NX.seq ?_
      refine TR.seq ?_
      refine TR.region ?_
      refine RL.assign rfl rfl rfl ?_
      refine RL.assign rfl rfl rfl ?_
      refine RL.nil ?_
      refine NX.seq ?_
      refine TR.ret ?_
      exact NX.ret2 () rfl rfl rfl (by rw [charL_drop, if_neg nA.2, if_neg nB.2, if_neg (fun e => gC2 e.2.1)]; rfl) (fun w hw => hw)
  · skip
    have gC1 : ¬ 240 ≤ cb tx i := by have := of_decide_eq_false h8; unfold cb; omega
    refine RL.skip rfl rfl rfl ?_
    refine RL.skip rfl rfl rfl ?_
    refine RL.pickF rfl rfl rfl rfl ?_
    refine RL.move rfl rfl rfl ?_
    refine RL.skip rfl rfl rfl ?_
    refine RL.skip rfl rfl rfl ?_
    refine RL.skip rfl rfl rfl ?_
    refine RL.skip rfl rfl rfl ?_
    refine RL.skip rfl rfl rfl ?_
    refine RL.skip rfl rfl rfl ?_
    refine RL.pickF rfl rfl rfl rfl ?_
    refine RL.move rfl rfl rfl ?_
    refine RL.skip rfl rfl rfl ?_
    refine RL.skip rfl rfl rfl ?_
    refine RL.skip rfl rfl rfl ?_
    refine RL.skip rfl rfl rfl ?_
    refine RL.pickF rfl rfl rfl rfl ?_
    refine RL.move rfl rfl rfl ?_
    refine RL.skip rfl rfl rfl ?_
    refine RL.skip rfl rfl rfl ?_
    refine RL.skip rfl rfl rfl ?_
    refine RL.skip rfl rfl rfl ?_
    refine RL.pickF rfl rfl rfl rfl ?_
    refine RL.nil ?_
    refine NX.seq ?_
    refine TR.condF rfl ?_
    refine TR.skip ?_
    refine NX.seq ?_
    refine TR.seq ?_
    refine TR.region ?_
    refine RL.assign rfl rfl rfl ?_
    refine RL.assign rfl rfl rfl ?_
    refine RL.nil ?_
    refine NX.seq ?_
    refine TR.ret ?_
    exact NX.ret2 () rfl rfl rfl (by rw [charL_drop, if_neg nA.2, if_neg nB.2, if_neg (fun e => gC1 e.1)]; rfl) (fun w hw => hw)
theorem borders_spec {tx : List UInt8} {M : List HP} {F : List Fact} (hl : tx.length ≤ 1099511627776) : Ctr Try.prog 75 [S tx] M F (Option Addr × Nat) (fun z => .slice z.1 (bords tx 0).length z.2) (fun _ => M) (fun z => ArrF z.1 (ints (bords tx 0)) :: F) := by
  refine Ctr.body Try.func75 rfl rfl ?_
  refine TR.seq ?_
  refine TR.region ?_
  refine RL.assign rfl rfl rfl ?_
  refine RL.nil ?_
  refine NX.seq ?_
  refine TR.seq ?_
  refine TR.region ?_
  refine RL.assign rfl rfl rfl ?_
  refine RL.weak (fun w hw => OwnSl.nil_new 3 1 hw) ?_
  refine RL.nil ?_
  refine NX.seq ?_
  refine TR.seq ?_
  refine TR.region ?_
  refine RL.assign rfl rfl rfl ?_
  refine RL.nil ?_
  refine NX.seq ?_
  refine TR.seq ?_
  refine TR.block ?_
  refine TR.loopP (ι := BdX) (fun x => x.i ≤ tx.length ∧ x.l ++ bords (tx.drop x.i) x.i = bords tx 0 ∧ x.l.length ≤ x.i) (fun x => [(0, S tx), (3, .slice x.oa x.l.length x.c), (4, I (x.i : Nat))]) (fun x => OwnSl 3 1 x.oa x.l.length x.c (ints x.l) :: M) (fun x => F) (fun x => tx.length - x.i) ⟨0, [], none, 0⟩ ⟨Nat.zero_le _, rfl, Nat.zero_le _⟩ ⟨rfl, rfl, rfl, trivial⟩ (fun w hw => (hw.to 1 [0] 0 [] rfl)) (fun x hx => ?_)
  refine TR.seq ?_
  refine TR.seq ?_
  refine TR.region ?_
  refine RL.move rfl rfl rfl ?_
  refine RL.move rfl rfl rfl ?_
  refine RL.lenStr rfl qq_tstr9 rfl rfl ?_
  refine RL.bin rfl rfl rfl BinV.lss rfl ?_
  refine RL.nil ?_
  refine NX.seq ?_
  refine TR.cond rfl (fun h1 => ?_) (fun h1 => ?_)
  · skip
    have hi : x.i < tx.length := by have := of_decide_eq_true h1; omega
    have hcl := charL_drop_le hi
    have hcp := charL_pos (tx.drop x.i)
    refine TR.skip ?_
    refine NX.seq ?_
    refine TR.block ?_
    refine TR.seq ?_
    refine TR.region ?_
    refine RL.move rfl rfl rfl ?_
    refine RL.move rfl rfl rfl ?_
    refine RL.buildSlice rfl rfl (qq_bs22_1_0 _) rfl (fun b2 => ?_)
    refine RL.ofGV rfl rfl (GV.append (j := 1) qq_tl22 qq_ni22 qq_te3 rfl rfl rfl (src_box (i := 0) rfl rfl rfl) (by omega) (by omega)) (fun y => ?_)
    refine RL.assign rfl rfl rfl ?_
    refine RL.nil ?_
    refine NX.seq ?_
    refine TR.seq ?_
    refine TR.region ?_
    refine RL.move rfl rfl rfl ?_
    refine RL.move rfl rfl rfl ?_
    refine RL.call rfl rfl Try.call91 rfl (char_spec (i := x.i) rfl hi (by omega)) (fun _ => ?_)
    refine RL.move rfl rfl rfl ?_
    refine RL.extract rfl rfl rfl rfl ?_
    refine RL.extract rfl rfl rfl rfl ?_
    refine RL.assign rfl rfl rfl ?_
    refine RL.assign rfl rfl rfl ?_
    refine RL.nil ?_
    refine NX.seq ?_
    refine TR.region ?_
    refine RL.move rfl rfl rfl ?_
    refine RL.move rfl rfl rfl ?_
    refine RL.bin rfl rfl rfl (BinV.add _ rfl (by omega) (by omega)) rfl ?_
    refine RL.assign rfl rfl rfl ?_
    refine RL.nil ?_
    refine NX.off ?_
    refine NX.roundP ⟨x.i + (charL (tx.drop x.i)).1, x.l ++ [(x.i : Int)], y.1, y.2⟩ ⟨hcl, by show (x.l ++ [(x.i : Int)]) ++ bords (tx.drop (x.i + (charL (tx.drop x.i)).1)) ((x.i + (charL (tx.drop x.i)).1 : Nat) : Int) = _; rw [← hx.2.1, bords_drop hi, List.append_assoc]; rfl, by show (x.l ++ [_]).length ≤ x.i + (charL (tx.drop x.i)).1; rw [List.length_append, List.length_singleton]; omega⟩ (by show _ - (x.i + (charL (tx.drop x.i)).1) < _; omega) ⟨rfl, ?_, rfl, trivial⟩ (fun w hw => ?_)
    · show some (Value.slice y.1 (x.l.length + 1) y.2) = some (Value.slice y.1 (x.l ++ [_]).length y.2)
      rw [List.length_append]; rfl
    · have h9 := (hw.to 2 [1] 0 [] rfl)
      show St w (OwnSl 3 1 y.1 (x.l ++ [_]).length y.2 (ints (x.l ++ [_])) :: M) F
      rw [List.length_append, ints_append2]
      exact h9
  · skip
    have hi : x.i = tx.length := by have := of_decide_eq_false h1; omega
    have hfn : x.l ++ [(tx.length : Int)] = bords tx 0 := by rw [← hx.2.1, bords_end (by rw [List.length_drop]; omega), hi]
    refine TR.exit ?_
    refine NX.exitThen ?_
    refine NX.exitThen ?_
    refine NX.exitHere ?_
    refine NX.seq ?_
    refine TR.seq ?_
    refine TR.region ?_
    refine RL.move rfl rfl rfl ?_
    refine RL.move rfl rfl rfl ?_
    refine RL.lenStr rfl qq_tstr9 rfl rfl ?_
    refine RL.buildSlice rfl rfl (qq_bs22_1_0 _) rfl (fun b4 => ?_)
    refine RL.ofGV rfl rfl (GV.append (j := 1) qq_tl22 qq_ni22 qq_te3 rfl rfl rfl (src_box (i := 0) rfl rfl rfl) (by omega) (by omega)) (fun y => ?_)
    refine RL.assign rfl rfl rfl ?_
    refine RL.nil ?_
    refine NX.seq ?_
    refine TR.ret ?_
    refine NX.ret1 (y.1, y.2) rfl rfl (by rw [← hfn, List.length_append]; rfl) (fun w hw => ?_)
    have h9 := (hw.to 2 [1] 0 [] rfl)
    rw [← hfn, ints_append2]
    exact St.keepSl (show St w (OwnSl _ 1 y.1 (x.l.length + 1) y.2 (ints x.l ++ [I (tx.length : Nat)]) :: M) F from h9)
theorem has_spec {xs : List Int} {n : Int} {oa : Option Addr} {ca : Nat} {M : List HP} {F : List Fact} (ha : ArrF oa (ints xs) ∈ F) (hl : xs.length ≤ 4611686018427387904) : Ctr Try.prog 74 [.slice oa xs.length ca, I n] M F Unit (fun _ => .bool (decide (n ∈ xs))) (fun _ => M) (fun _ => F) := by
  refine Ctr.body Try.func74 rfl rfl ?_
  refine TR.seq ?_
  refine TR.region ?_
  refine RL.assign rfl rfl rfl ?_
  refine RL.nil ?_
  refine NX.seq ?_
  refine TR.seq ?_
  refine TR.seq ?_
  refine TR.region ?_
  refine RL.assign rfl rfl rfl ?_
  refine RL.nil ?_
  refine NX.seq ?_
  refine TR.block ?_
  refine TR.loopP (ι := Nat) (fun k => k ≤ xs.length ∧ n ∉ xs.take k) (fun k => [(0, .slice oa xs.length ca), (1, I n), (5, I (k : Nat))]) (fun k => M) (fun k => F) (fun k => xs.length - k) 0 ⟨Nat.zero_le _, by simp⟩ ⟨rfl, rfl, rfl, trivial⟩ (fun w hw => (hw.to 0 [] 0 [] rfl)) (fun k hk => ?_)
  refine TR.seq ?_
  refine TR.seq ?_
  refine TR.region ?_
  refine RL.move rfl rfl rfl ?_
  refine RL.move rfl rfl rfl ?_
  refine RL.lenSlice rfl qq_tl22 rfl rfl ?_
  refine RL.bin rfl rfl rfl BinV.lss rfl ?_
  refine RL.nil ?_
  refine NX.seq ?_
  refine TR.cond rfl (fun h1 => ?_) (fun h1 => ?_)
  · skip
    have hk1 : k < xs.length := by have := of_decide_eq_true h1; omega
    refine TR.openP (open_arr (oa := oa) (xs := ints xs) ha (ints_ne (by omega))) (fun pq hpa => ?_)
    refine TR.skip ?_
    refine NX.seq ?_
    refine TR.seq ?_
    refine TR.block ?_
    refine TR.seq ?_
    refine TR.region ?_
    refine RL.move rfl rfl rfl ?_
    refine RL.move rfl rfl rfl ?_
    refine RL.indexAddr rfl qq_tl22 qq_tz3 (congrArg (fun a => some (Value.slice a _ _)) hpa) rfl (by omega) (by omega) rfl ?_
    refine RL.loadF rfl rfl (fun w K hF => run_loadCell1 (j := ((k : Nat) : Int).toNat * 1) (v := I xs[k]) (hF (CellsF pq.1 pq.2 (ints xs)) (.head _)) qq_ts3 (by rw [Nat.mul_one, Int.toNat_natCast]; unfold ints; rw [List.getElem?_map, List.getElem?_eq_getElem hk1]; rfl)) rfl ?_
    refine RL.move rfl rfl rfl ?_
    refine RL.bin rfl rfl rfl BinV.eql rfl ?_
    refine RL.nil ?_
    refine NX.seq ?_
    refine TR.cond rfl (fun h2 => ?_) (fun h2 => ?_)
    · skip
      have he : xs[k] = n := of_decide_eq_true h2
      refine TR.seq ?_
      refine TR.region ?_
      refine RL.assign rfl rfl rfl ?_
      refine RL.nil ?_
      refine NX.seq ?_
      refine TR.ret ?_
      refine NX.retBlock ?_
      refine NX.retThen ?_
      refine NX.retThen ?_
      refine NX.retBlock ?_
      refine NX.retThen ?_
      exact NX.ret1 () rfl rfl (congrArg Value.bool (decide_eq_true (by rw [← he]; exact List.getElem_mem hk1)).symm) (fun w hw => (hw.to 0 [] 1 [] rfl))
    · skip
      have he : ¬ xs[k] = n := of_decide_eq_false h2
      refine TR.skip ?_
      refine NX.off ?_
      refine NX.seq ?_
      refine TR.region ?_
      refine RL.move rfl rfl rfl ?_
      refine RL.bin rfl rfl rfl (BinV.add _ rfl (by omega) (by omega)) rfl ?_
      refine RL.assign rfl rfl rfl ?_
      refine RL.nil ?_
      refine NX.roundP (k + 1) ⟨hk1, by rw [List.take_succ_eq_append_getElem hk1]; intro h; rcases List.mem_append.1 h with h | h; exact hk.2 h; exact he (List.mem_singleton.1 h).symm⟩ (by omega) ⟨rfl, rfl, rfl, trivial⟩ (fun w hw => (hw.to 0 [] 1 [] rfl))
  · skip
    have hk1 : k = xs.length := by have := of_decide_eq_false h1; omega
    refine TR.exit ?_
    refine NX.exitThen ?_
    refine NX.exitThen ?_
    refine NX.exitHere ?_
    refine NX.seq ?_
    refine TR.seq ?_
    refine TR.region ?_
    refine RL.assign rfl rfl rfl ?_
    refine RL.nil ?_
    refine NX.seq ?_
    refine TR.ret ?_
    exact NX.ret1 () rfl rfl (congrArg Value.bool (decide_eq_false (by have := hk.2; rw [hk1, List.take_length] at this; exact this)).symm) (fun w hw => (hw.to 0 [] 0 [] rfl))
theorem unitsr_spec {tx : List UInt8} {M : List HP} {F : List Fact} (hl : tx.length ≤ 1099511627776) : Ctr Try.prog 76 [S tx] M F Unit (fun _ => I (unitsL tx)) (fun _ => M) (fun _ => F) := by
  have hut := unitsL_in _ (l := tx) (Nat.le_refl _)
  refine Ctr.body Try.func76 rfl rfl ?_
  refine TR.seq ?_
  refine TR.region ?_
  refine RL.assign rfl rfl rfl ?_
  refine RL.nil ?_
  refine NX.seq ?_
  refine TR.seq ?_
  refine TR.region ?_
  refine RL.assign rfl rfl rfl ?_
  refine RL.nil ?_
  refine NX.seq ?_
  refine TR.seq ?_
  refine TR.region ?_
  refine RL.assign rfl rfl rfl ?_
  refine RL.nil ?_
  refine NX.seq ?_
  refine TR.seq ?_
  refine TR.block ?_
  refine TR.loopP (ι := Nat × Int) (fun x => x.1 ≤ tx.length ∧ x.2 + unitsL (tx.drop x.1) = unitsL tx ∧ 0 ≤ x.2) (fun x => [(0, S tx), (3, I x.2), (4, I (x.1 : Nat))]) (fun x => M) (fun x => F) (fun x => tx.length - x.1) (0, 0) ⟨Nat.zero_le _, by show (0 : Int) + unitsL tx = _; omega, Int.le_refl _⟩ ⟨rfl, rfl, rfl, trivial⟩ (fun w hw => (hw.to 0 [] 0 [] rfl)) (fun x hx => ?_)
  refine TR.seq ?_
  refine TR.seq ?_
  refine TR.region ?_
  refine RL.move rfl rfl rfl ?_
  refine RL.move rfl rfl rfl ?_
  refine RL.lenStr rfl qq_tstr9 rfl rfl ?_
  refine RL.bin rfl rfl rfl BinV.lss rfl ?_
  refine RL.nil ?_
  refine NX.seq ?_
  refine TR.cond rfl (fun h1 => ?_) (fun h1 => ?_)
  · skip
    have hi : x.1 < tx.length := by have := of_decide_eq_true h1; omega
    have hcl := charL_drop_le hi
    have hcp := charL_pos (tx.drop x.1)
    have hu := unitsL_in _ (l := tx.drop (x.1 + (charL (tx.drop x.1)).1)) (Nat.le_refl _)
    have hst := unitsL_drop hi
    refine TR.skip ?_
    refine NX.seq ?_
    refine TR.block ?_
    refine TR.seq ?_
    refine TR.region ?_
    refine RL.move rfl rfl rfl ?_
    refine RL.move rfl rfl rfl ?_
    refine RL.call rfl rfl Try.call91 rfl (char_spec (i := x.1) rfl hi (by omega)) (fun _ => ?_)
    refine RL.move rfl rfl rfl ?_
    refine RL.extract rfl rfl rfl rfl ?_
    refine RL.extract rfl rfl rfl rfl ?_
    refine RL.assign rfl rfl rfl ?_
    refine RL.assign rfl rfl rfl ?_
    refine RL.nil ?_
    refine NX.seq ?_
    refine TR.seq ?_
    refine TR.region ?_
    refine RL.move rfl rfl rfl ?_
    refine RL.move rfl rfl rfl ?_
    refine RL.bin rfl rfl rfl (BinV.add _ rfl (by omega) (by omega)) rfl ?_
    refine RL.assign rfl rfl rfl ?_
    refine RL.nil ?_
    refine NX.seq ?_
    refine TR.region ?_
    refine RL.move rfl rfl rfl ?_
    refine RL.move rfl rfl rfl ?_
    refine RL.bin rfl rfl rfl (BinV.add _ rfl (by omega) (by omega)) rfl ?_
    refine RL.assign rfl rfl rfl ?_
    refine RL.nil ?_
    refine NX.off ?_
    refine NX.roundP (x.1 + (charL (tx.drop x.1)).1, x.2 + (charL (tx.drop x.1)).2) ⟨hcl, by show x.2 + (charL (tx.drop x.1)).2 + unitsL (tx.drop (x.1 + (charL (tx.drop x.1)).1)) = _; omega, by show 0 ≤ x.2 + ((charL (tx.drop x.1)).2 : Int); omega⟩ (by show _ - (x.1 + (charL (tx.drop x.1)).1) < _; omega) ⟨rfl, rfl, rfl, trivial⟩ (fun w hw => (hw.to 0 [] 0 [] rfl))
  · skip
    have hi : x.1 = tx.length := by have := of_decide_eq_false h1; omega
    have hfn : x.2 = unitsL tx := by rw [← hx.2.1, unitsL_end (by rw [List.length_drop]; omega)]; omega
    refine TR.exit ?_
    refine NX.exitThen ?_
    refine NX.exitThen ?_
    refine NX.exitHere ?_
    refine NX.seq ?_
    refine TR.seq ?_
    refine TR.region ?_
    refine RL.move rfl rfl rfl ?_
    refine RL.assign rfl rfl rfl ?_
    refine RL.nil ?_
    refine NX.seq ?_
    refine TR.ret ?_
    exact NX.ret1 () rfl rfl (by rw [hfn]) (fun w hw => hw)
theorem atp_spec {tx : List UInt8} {off : Int} {M : List HP} {F : List Fact} (hl : tx.length ≤ 1099511627776) (ho : I64 off) : Ctr Try.prog 46 [S tx, I off] M F Unit (fun _ => .tuple #[.agg #[I (atP tx off).1.l, I (atP tx off).1.u], I (atP tx off).2]) (fun _ => M) (fun _ => F) := by
  obtain ⟨ho0, ho1⟩ := ho
  refine Ctr.body Try.func46 rfl rfl ?_
  refine TR.seq ?_
  refine TR.region ?_
  refine RL.allocA rfl (Try.zeroValue61) rfl (fun b1 => ?_)
  refine RL.assign rfl rfl rfl ?_
  refine RL.nil ?_
  refine NX.seq ?_
  refine TR.seq ?_
  refine TR.seq ?_
  refine TR.region ?_
  refine RL.move rfl rfl rfl ?_
  refine RL.bin rfl rfl rfl BinV.lss rfl ?_
  refine RL.move rfl rfl rfl ?_
  refine RL.part (fun h2 => ?_) (fun h2 => ?_)
  · skip
    have hrg : off < 0 ∨ (tx.length : Int) < off := .inl (of_decide_eq_true h2)
    refine RL.skip rfl rfl rfl ?_
    refine RL.skip rfl rfl rfl ?_
    refine RL.skip rfl rfl rfl ?_
    refine RL.skip rfl rfl rfl ?_
    refine RL.pickT rfl rfl rfl rfl ?_
    refine RL.nil ?_
    refine NX.seq ?_
    refine TR.condT rfl ?_
    refine TR.seq ?_
    refine TR.region ?_
    refine RL.build rfl rfl (qq_bv61_) rfl ?_
    refine RL.storeA 0 rfl rfl rfl rfl qq_tz61 rfl rfl ?_
    refine RL.assign rfl rfl rfl ?_
    refine RL.nil ?_
    refine NX.seq ?_
    refine TR.ret ?_
    refine NX.retThen ?_
    have hat : atP tx off = (⟨0, 0⟩, 5) := if_pos hrg
    refine NX.retC1 (j := 0) rfl rfl rfl rfl qq_ta61 (fun w hw => ⟨(), by rw [hat], (hw.to 1 [] 0 [] rfl)⟩)
  · skip
    have hr0 := of_decide_eq_false h2
    refine RL.move rfl rfl rfl ?_
    refine RL.move rfl rfl rfl ?_
    refine RL.lenStr rfl qq_tstr9 rfl rfl ?_
    refine RL.bin rfl rfl rfl BinV.gtr rfl ?_
    refine RL.pickF rfl rfl rfl rfl ?_
    refine RL.nil ?_
    refine NX.seq ?_
    refine TR.cond rfl (fun h3 => ?_) (fun h3 => ?_)
    · skip
      have hrg : off < 0 ∨ (tx.length : Int) < off := .inr (of_decide_eq_true h3)
      refine TR.seq ?_
      refine TR.region ?_
      refine RL.build rfl rfl (qq_bv61_) rfl ?_
      refine RL.storeA 0 rfl rfl rfl rfl qq_tz61 rfl rfl ?_
      refine RL.assign rfl rfl rfl ?_
      refine RL.nil ?_
      refine NX.seq ?_
      refine TR.ret ?_
      refine NX.retThen ?_
      have hat : atP tx off = (⟨0, 0⟩, 5) := if_pos hrg
      refine NX.retC1 (j := 0) rfl rfl rfl rfl qq_ta61 (fun w hw => ⟨(), by rw [hat], (hw.to 1 [] 0 [] rfl)⟩)
    · skip
      have hrg : ¬ (off < 0 ∨ (tx.length : Int) < off) := by have := of_decide_eq_false h3; omega
      refine TR.skip ?_
      refine NX.seq ?_
      refine TR.seq ?_
      refine TR.region ?_
      refine RL.move rfl rfl rfl ?_
      refine RL.call rfl rfl Try.call75 rfl (borders_spec hl) (fun zb => ?_)
      refine RL.move rfl rfl rfl ?_
      refine RL.call rfl rfl Try.call74 rfl (has_spec (n := off) (.head _) (by have := bords_len _ (l := tx) (i := 0) (Nat.le_refl _); omega)) (fun _ => ?_)
      refine RL.assign rfl rfl rfl ?_
      refine RL.nil ?_
      refine NX.seq ?_
      refine TR.seq ?_
      refine TR.seq ?_
      refine TR.region ?_
      refine RL.move rfl rfl rfl ?_
      refine RL.not rfl rfl rfl ?_
      refine RL.nil ?_
      refine NX.seq ?_
      refine TR.cond rfl (fun h4 => ?_) (fun h4 => ?_)
      · skip
        have hnb : ¬ off ∈ bords tx 0 := by simpa using h4
        refine TR.seq ?_
        refine TR.region ?_
        refine RL.build rfl rfl (qq_bv61_) rfl ?_
        refine RL.storeA 0 rfl rfl rfl rfl qq_tz61 rfl rfl ?_
        refine RL.assign rfl rfl rfl ?_
        refine RL.nil ?_
        refine NX.seq ?_
        refine TR.ret ?_
        refine NX.retThen ?_
        have hat : atP tx off = (⟨0, 0⟩, 1) := (if_neg hrg).trans (if_pos hnb)
        refine NX.retC1 (j := 0) rfl rfl rfl rfl qq_ta61 (fun w hw => ⟨(), by rw [hat], (hw.to 1 [] 1 [] rfl)⟩)
      · skip
        have hnb : ¬ ¬ off ∈ bords tx 0 := by simpa using h4
        refine TR.skip ?_
        refine NX.seq ?_
        refine TR.seq ?_
        refine TR.region ?_
        refine RL.assign rfl rfl rfl ?_
        refine RL.nil ?_
        refine NX.seq ?_
        refine TR.seq ?_
        refine TR.region ?_
        refine RL.assign rfl rfl rfl ?_
        refine RL.nil ?_
        refine NX.seq ?_
        refine TR.seq ?_
        refine TR.seq ?_
        refine TR.region ?_
        refine RL.assign rfl rfl rfl ?_
        refine RL.nil ?_
        refine NX.seq ?_
        refine TR.block ?_
        refine TR.loopP (ι := Nat) (fun k => (k : Int) ≤ off) (fun k => [(0, S tx), (1, I off), (4, .pointer (some ⟨b1, 0, none⟩)), (7, I (lineAt tx k)), (8, I (fromAt tx k)), (9, I (k : Nat))]) (fun k => Box b1 61 [I 0, I 0] :: M) (fun k => F) (fun k => off.toNat - k) 0 (by omega) ⟨rfl, rfl, rfl, rfl, rfl, rfl, trivial⟩ (fun w hw => (hw.to 1 [0] 1 [] rfl)) (fun k hk => ?_)
        refine TR.seq ?_
        refine TR.seq ?_
        refine TR.region ?_
        refine RL.move rfl rfl rfl ?_
        refine RL.move rfl rfl rfl ?_
        refine RL.bin rfl rfl rfl BinV.lss rfl ?_
        refine RL.nil ?_
        refine NX.seq ?_
        refine TR.cond rfl (fun h5 => ?_) (fun h5 => ?_)
        · skip
          have hko : (k : Int) < off := of_decide_eq_true h5
          have hk1 : k < tx.length := by omega
          have hfs := from_step hk1
          have hfo := from_ok (s := tx) (k := k) (by omega)
          have hll := lines_len tx
          have he9 : (tx.getD k 0).toNat = tx[k].toNat := by rw [List.getD_eq_getElem?_getD, List.getElem?_eq_getElem hk1]; rfl
          refine TR.skip ?_
          refine NX.seq ?_
          refine TR.seq ?_
          refine TR.block ?_
          refine TR.seq ?_
          refine TR.region ?_
          refine RL.move rfl rfl rfl ?_
          refine RL.move rfl rfl rfl ?_
          refine RL.indexS rfl qq_tstr9 rfl rfl (by omega) (getU rfl hk1) rfl ?_
          refine RL.bin rfl rfl rfl BinV.eql rfl ?_
          refine RL.nil ?_
          refine NX.seq ?_
          refine TR.cond rfl (fun h6 => ?_) (fun h6 => ?_)
          · skip
            have h10 : tx[k].toNat = 10 := by have := of_decide_eq_true h6; omega
            rw [if_pos h10, if_pos h10] at hfs
            refine TR.seq ?_
            refine TR.region ?_
            refine RL.move rfl rfl rfl ?_
            refine RL.bin rfl rfl rfl (BinV.add _ rfl (by omega) (by omega)) rfl ?_
            refine RL.assign rfl rfl rfl ?_
            refine RL.nil ?_
            refine NX.seq ?_
            refine TR.region ?_
            refine RL.move rfl rfl rfl ?_
            refine RL.bin rfl rfl rfl (BinV.add _ rfl (by omega) (by omega)) rfl ?_
            refine RL.assign rfl rfl rfl ?_
            refine RL.nil ?_
            refine NX.off ?_
            refine NX.seq ?_
            refine TR.region ?_
            refine RL.move rfl rfl rfl ?_
            refine RL.bin rfl rfl rfl (BinV.add _ rfl (by omega) (by omega)) rfl ?_
            refine RL.assign rfl rfl rfl ?_
            refine RL.nil ?_
            refine NX.roundP (k + 1) (by omega) (by omega) ⟨rfl, rfl, rfl, congrArg (fun z => some (I z)) (by omega), congrArg (fun z => some (I z)) (by omega), rfl, trivial⟩ (fun w hw => (hw.to 1 [0] 0 [] rfl))
          · skip
            have h10 : ¬ tx[k].toNat = 10 := by have := of_decide_eq_false h6; omega
            rw [if_neg h10, if_neg h10] at hfs
            refine TR.skip ?_
            refine NX.off ?_
            refine NX.seq ?_
            refine TR.region ?_
            refine RL.move rfl rfl rfl ?_
            refine RL.bin rfl rfl rfl (BinV.add _ rfl (by omega) (by omega)) rfl ?_
            refine RL.assign rfl rfl rfl ?_
            refine RL.nil ?_
            refine NX.roundP (k + 1) (by omega) (by omega) ⟨rfl, rfl, rfl, congrArg (fun z => some (I z)) (by omega), congrArg (fun z => some (I z)) (by omega), rfl, trivial⟩ (fun w hw => (hw.to 1 [0] 0 [] rfl))
        · skip
          have hkx : off.toNat = k := by have := of_decide_eq_false h5; omega
          have hfo := from_ok (s := tx) (k := k) (by omega)
          have hcbt : ((fromAt tx k).toNat : Int) = fromAt tx k := by omega
          refine TR.exit ?_
          refine NX.exitThen ?_
          refine NX.exitThen ?_
          refine NX.exitHere ?_
          refine NX.seq ?_
          refine TR.seq ?_
          refine TR.region ?_
          refine RL.move rfl rfl rfl ?_
          refine RL.move rfl rfl rfl ?_
          refine RL.move rfl rfl rfl ?_
          refine RL.move rfl rfl rfl ?_
          refine RL.sliceS rfl qq_tstr9 rfl rfl rfl (by omega) (by omega) (by omega) rfl ?_
          refine RL.call rfl rfl Try.call76 rfl (unitsr_spec (tx := (tx.take (off.toNat)).drop (fromAt tx k).toNat) (by rw [List.length_drop, List.length_take]; omega)) (fun _ => ?_)
          refine RL.build rfl rfl (qq_bv61_0_1 _ _) rfl ?_
          refine RL.storeA 0 rfl rfl rfl rfl qq_tz61 rfl rfl ?_
          refine RL.assign rfl rfl rfl ?_
          refine RL.nil ?_
          refine NX.seq ?_
          refine TR.ret ?_
          have hat : atP tx off = (⟨lineAt tx k, unitsL ((tx.take k).drop (fromAt tx k).toNat)⟩, 0) := (if_neg hrg).trans ((if_neg hnb).trans (by rw [hkx]))
          refine NX.retC1 (j := 0) rfl rfl rfl rfl qq_ta61 (fun w hw => ⟨(), by rw [hat, hkx], (hw.to 1 [] 0 [] rfl)⟩)
end Go.Proofs.Ytkdeopioelocnaa

namespace Go.Proofs.Ytkdeopioelocnaa
open Go.GL
set_option linter.unusedVariables false
theorem qr_bs26_1_0 (x00 : Int) (x01 : Int) (x02 : List UInt8) : BuildSV Try.prog 26 78 1 [(0, .agg #[.int .i64 x00, .int .i64 x01, S x02])] [.int .i64 x00, .int .i64 x01, S x02] := fun w => by kernel_rfl
theorem qr_bs98_13_0_1_2_3_4_5_6_7_8_9_10_11_12 (x0 : List UInt8) (x1 : List UInt8) (x2 : List UInt8) (x3 : List UInt8) (x4 : List UInt8) (x5 : List UInt8) (x6 : List UInt8) (x7 : List UInt8) (x8 : List UInt8) (x9 : List UInt8) (x10 : List UInt8) (x11 : List UInt8) (x12 : List UInt8) : BuildSV Try.prog 98 9 13 [(0, S x0), (1, S x1), (2, S x2), (3, S x3), (4, S x4), (5, S x5), (6, S x6), (7, S x7), (8, S x8), (9, S x9), (10, S x10), (11, S x11), (12, S x12)] [S x0, S x1, S x2, S x3, S x4, S x5, S x6, S x7, S x8, S x9, S x10, S x11, S x12] := fun w => by kernel_rfl
theorem qr_bs98_15_0_1_2_3_4_5_6_7_8_9_10_11_12_13_14 (x0 : List UInt8) (x1 : List UInt8) (x2 : List UInt8) (x3 : List UInt8) (x4 : List UInt8) (x5 : List UInt8) (x6 : List UInt8) (x7 : List UInt8) (x8 : List UInt8) (x9 : List UInt8) (x10 : List UInt8) (x11 : List UInt8) (x12 : List UInt8) (x13 : List UInt8) (x14 : List UInt8) : BuildSV Try.prog 98 9 15 [(0, S x0), (1, S x1), (2, S x2), (3, S x3), (4, S x4), (5, S x5), (6, S x6), (7, S x7), (8, S x8), (9, S x9), (10, S x10), (11, S x11), (12, S x12), (13, S x13), (14, S x14)] [S x0, S x1, S x2, S x3, S x4, S x5, S x6, S x7, S x8, S x9, S x10, S x11, S x12, S x13, S x14] := fun w => by kernel_rfl
theorem qr_bv78_0_1_2 (x0 : Int) (x1 : Int) (x2 : List UInt8) : BuildV Try.prog 78 [(0, .int .i64 x0), (1, .int .i64 x1), (2, S x2)] (.agg #[.int .i64 x0, .int .i64 x1, S x2]) := fun w => by kernel_rfl
theorem qr_ni26 : noInt Try.prog 26 = true := by kernel_rfl
theorem qr_te78 : tyElem Try.prog 78 3 32 = true := by kernel_rfl
theorem qr_tf78_0 : fieldOff Try.prog 78 0 0 = true := by kernel_rfl
theorem qr_tf78_1 : fieldOff Try.prog 78 1 1 = true := by kernel_rfl
theorem qr_tf78_2 : fieldOff Try.prog 78 2 2 = true := by kernel_rfl
theorem qr_tl22 : tySlice Try.prog 22 3 = true := by kernel_rfl
theorem qr_tl26 : tySlice Try.prog 26 78 = true := by kernel_rfl
theorem qr_tl98 : tySlice Try.prog 98 9 = true := by kernel_rfl
theorem qr_ts3 : tyScalar Try.prog 3 = true := by kernel_rfl
theorem qr_ts9 : tyScalar Try.prog 9 = true := by kernel_rfl
theorem qr_tstr9 : tyStr Try.prog 9 = true := by kernel_rfl
theorem qr_tz3 : tySize Try.prog 3 1 = true := by kernel_rfl
theorem qr_tz78 : tySize Try.prog 78 3 = true := by kernel_rfl
theorem qr_tz9 : tySize Try.prog 9 1 = true := by kernel_rfl
theorem boundary_spec {tx : List UInt8} {a : Nat} {M : List HP} {F : List Fact} (hal : a ≤ 4611686018427387904) : Ctr Try.prog 73 [S tx, I (a : Nat)] M F {b : Nat // b ≤ a ∧ IsB tx b ∧ ∀ q, IsB tx q → q ≤ a → q ≤ b} (fun b => I (b.1 : Nat)) (fun _ => M) (fun _ => F) := by
  refine Ctr.body Try.func73 rfl rfl ?_
  refine TR.seq ?_
  refine TR.region ?_
  refine RL.assign rfl rfl rfl ?_
  refine RL.nil ?_
  refine NX.seq ?_
  refine TR.seq ?_
  refine TR.block ?_
  refine TR.loopP (ι := Nat) (fun b => b ≤ a ∧ ∀ q, IsB tx q → q ≤ a → q ≤ b) (fun b => [(0, S tx), (1, I (b : Nat))]) (fun b => M) (fun b => F) (fun b => b) a ⟨Nat.le_refl _, fun q _ h => h⟩ ⟨rfl, rfl, trivial⟩ (fun w hw => (hw.to 0 [] 0 [] rfl)) (fun b hb => ?_)
  refine TR.seq ?_
  refine TR.seq ?_
  refine TR.region ?_
  refine RL.move rfl rfl rfl ?_
  refine RL.bin rfl rfl rfl BinV.gtr rfl ?_
  refine RL.move rfl rfl rfl ?_
  refine RL.part (fun h1 => ?_) (fun h1 => ?_)
  · skip
    have hb0 : 0 < b := by have := of_decide_eq_true h1; omega
    refine RL.move rfl rfl rfl ?_
    refine RL.move rfl rfl rfl ?_
    refine RL.lenStr rfl qr_tstr9 rfl rfl ?_
    refine RL.bin rfl rfl rfl BinV.lss rfl ?_
    refine RL.pickT rfl rfl rfl rfl ?_
    refine RL.move rfl rfl rfl ?_
    refine RL.part (fun h2 => ?_) (fun h2 => ?_)
    · skip
      have hbl : b < tx.length := by have := of_decide_eq_true h2; omega
      refine RL.move rfl rfl rfl ?_
      refine RL.move rfl rfl rfl ?_
      refine RL.indexS rfl qr_tstr9 rfl rfl (by omega) (List.getElem?_eq_getElem (show ((b : Nat) : Int).toNat < tx.length by omega)) rfl ?_
      refine RL.bin rfl rfl rfl BinV.geq rfl ?_
      refine RL.pickT rfl rfl rfl rfl ?_
      refine RL.move rfl rfl rfl ?_
      refine RL.part (fun h3 => ?_) (fun h3 => ?_)
      · skip
        have hlo := of_decide_eq_true h3
        refine RL.move rfl rfl rfl ?_
        refine RL.move rfl rfl rfl ?_
        refine RL.indexS rfl qr_tstr9 rfl rfl (by omega) (List.getElem?_eq_getElem (show ((b : Nat) : Int).toNat < tx.length by omega)) rfl ?_
        refine RL.bin rfl rfl rfl BinV.lss rfl ?_
        refine RL.pickT rfl rfl rfl rfl ?_
        refine RL.nil ?_
        refine NX.seq ?_
        refine TR.cond rfl (fun h4 => ?_) (fun h4 => ?_)
        · skip
          have hhi := of_decide_eq_true h4
          have hn : ¬ IsB tx b := fun h => by
            rcases h with h | h | h
            · omega
            · omega
            · simp only [Int.toNat_natCast] at hlo hhi
              exact h ⟨tx[b], List.getElem?_eq_getElem hbl, by omega, by omega⟩
          refine TR.skip ?_
          refine NX.seq ?_
          refine TR.block ?_
          refine TR.region ?_
          refine RL.move rfl rfl rfl ?_
          refine RL.bin rfl rfl rfl (BinV.sub _ rfl (by omega) (by omega)) rfl ?_
          refine RL.assign rfl rfl rfl ?_
          refine RL.nil ?_
          refine NX.off ?_
          refine NX.roundP (b - 1) ⟨by omega, fun q h1 h2 => by
            have h3 := hb.2 q h1 h2
            rcases Nat.lt_or_ge q b with h | h
            · omega
            · exact absurd (by rw [show b = q from by omega]; exact h1) hn⟩ (by omega) ⟨rfl, congrArg (fun z => some (I z)) (by omega), trivial⟩ (fun w hw => (hw.to 0 [] 0 [] rfl))
        · skip
          have hB : IsB tx b := .inr (.inr (fun ⟨c, hc, hc1, hc2⟩ => by
            rw [List.getElem?_eq_getElem hbl] at hc
            have hc := Option.some.inj hc
            subst hc
            have := of_decide_eq_false h4
            simp only [Int.toNat_natCast] at this
            omega))
          refine TR.exit ?_
          refine NX.exitThen ?_
          refine NX.exitThen ?_
          refine NX.exitHere ?_
          refine NX.seq ?_
          refine TR.seq ?_
          refine TR.region ?_
          refine RL.move rfl rfl rfl ?_
          refine RL.assign rfl rfl rfl ?_
          refine RL.nil ?_
          refine NX.seq ?_
          refine TR.ret ?_
          exact NX.ret1 (⟨b, hb.1, hB, hb.2⟩ : {b : Nat // b ≤ a ∧ IsB tx b ∧ ∀ q, IsB tx q → q ≤ a → q ≤ b}) rfl rfl rfl (fun w hw => hw)
      · skip
        have hB : IsB tx b := .inr (.inr (fun ⟨c, hc, hc1, hc2⟩ => by
          rw [List.getElem?_eq_getElem hbl] at hc
          have hc := Option.some.inj hc
          subst hc
          have := of_decide_eq_false h3
          simp only [Int.toNat_natCast] at this
          omega))
        refine RL.skip rfl rfl rfl ?_
        refine RL.skip rfl rfl rfl ?_
        refine RL.skip rfl rfl rfl ?_
        refine RL.skip rfl rfl rfl ?_
        refine RL.pickF rfl rfl rfl rfl ?_
        refine RL.nil ?_
        refine NX.seq ?_
        refine TR.condF rfl ?_
        refine TR.exit ?_
        refine NX.exitThen ?_
        refine NX.exitThen ?_
        refine NX.exitHere ?_
        refine NX.seq ?_
        refine TR.seq ?_
        refine TR.region ?_
        refine RL.move rfl rfl rfl ?_
        refine RL.assign rfl rfl rfl ?_
        refine RL.nil ?_
        refine NX.seq ?_
        refine TR.ret ?_
        exact NX.ret1 (⟨b, hb.1, hB, hb.2⟩ : {b : Nat // b ≤ a ∧ IsB tx b ∧ ∀ q, IsB tx q → q ≤ a → q ≤ b}) rfl rfl rfl (fun w hw => hw)
    · skip
      have hB : IsB tx b := .inr (.inl (by have := of_decide_eq_false h2; omega))
      refine RL.skip rfl rfl rfl ?_
      refine RL.skip rfl rfl rfl ?_
      refine RL.skip rfl rfl rfl ?_
      refine RL.skip rfl rfl rfl ?_
      refine RL.pickF rfl rfl rfl rfl ?_
      refine RL.move rfl rfl rfl ?_
      refine RL.skip rfl rfl rfl ?_
      refine RL.skip rfl rfl rfl ?_
      refine RL.skip rfl rfl rfl ?_
      refine RL.skip rfl rfl rfl ?_
      refine RL.pickF rfl rfl rfl rfl ?_
      refine RL.nil ?_
      refine NX.seq ?_
      refine TR.condF rfl ?_
      refine TR.exit ?_
      refine NX.exitThen ?_
      refine NX.exitThen ?_
      refine NX.exitHere ?_
      refine NX.seq ?_
      refine TR.seq ?_
      refine TR.region ?_
      refine RL.move rfl rfl rfl ?_
      refine RL.assign rfl rfl rfl ?_
      refine RL.nil ?_
      refine NX.seq ?_
      refine TR.ret ?_
      exact NX.ret1 (⟨b, hb.1, hB, hb.2⟩ : {b : Nat // b ≤ a ∧ IsB tx b ∧ ∀ q, IsB tx q → q ≤ a → q ≤ b}) rfl rfl rfl (fun w hw => hw)
  · skip
    have hB : IsB tx b := .inl (by have := of_decide_eq_false h1; omega)
    refine RL.skip rfl rfl rfl ?_
    refine RL.skip rfl rfl rfl ?_
    refine RL.skip rfl rfl rfl ?_
    refine RL.skip rfl rfl rfl ?_
    refine RL.pickF rfl rfl rfl rfl ?_
    refine RL.move rfl rfl rfl ?_
    refine RL.skip rfl rfl rfl ?_
    refine RL.skip rfl rfl rfl ?_
    refine RL.skip rfl rfl rfl ?_
    refine RL.skip rfl rfl rfl ?_
    refine RL.pickF rfl rfl rfl rfl ?_
    refine RL.move rfl rfl rfl ?_
    refine RL.skip rfl rfl rfl ?_
    refine RL.skip rfl rfl rfl ?_
    refine RL.skip rfl rfl rfl ?_
    refine RL.skip rfl rfl rfl ?_
    refine RL.pickF rfl rfl rfl rfl ?_
    refine RL.nil ?_
    refine NX.seq ?_
    refine TR.condF rfl ?_
    refine TR.exit ?_
    refine NX.exitThen ?_
    refine NX.exitThen ?_
    refine NX.exitHere ?_
    refine NX.seq ?_
    refine TR.seq ?_
    refine TR.region ?_
    refine RL.move rfl rfl rfl ?_
    refine RL.assign rfl rfl rfl ?_
    refine RL.nil ?_
    refine NX.seq ?_
    refine TR.ret ?_
    exact NX.ret1 (⟨b, hb.1, hB, hb.2⟩ : {b : Nat // b ≤ a ∧ IsB tx b ∧ ∀ q, IsB tx q → q ≤ a → q ≤ b}) rfl rfl rfl (fun w hw => hw)
def wordsE : List (List UInt8) := [[], [120], [97, 98], [32], [10], [108, 101, 116], [48], [43], [195, 169], [240, 157, 132, 158, 121], [40], [34], [97, 95, 49]]
theorem wordsE_len : wordsE.length = 13 := by kernel_rfl
theorem wordsE_short {k : Nat} (h : k < wordsE.length) : wordsE[k].length ≤ 5 := short_all (by kernel_rfl) h
theorem some_w {tx : List UInt8} {xs : List Int} {oa : Option Addr} {ca : Nat} {M : List HP} {F : List Fact} (ha : ArrF oa (ints xs) ∈ F) (hxs : IntsOk xs) (hl : tx.length ≤ 1000000) : Ctr Try.prog 45 [S tx, .slice oa xs.length ca, .bool true] M F {z : EdX // EdsOk tx z.es} (fun z => .slice z.1.oa z.1.es.length z.1.c) (fun _ => M) (fun z => ArrF z.1.oa (edC z.1.es) :: F) := by
  refine Ctr.body Try.func45 rfl rfl ?_
  refine TR.seq ?_
  refine TR.region ?_
  refine RL.assign rfl rfl rfl ?_
  refine RL.nil ?_
  refine NX.seq ?_
  refine TR.seq ?_
  refine TR.region ?_
  refine RL.buildSlice rfl rfl (qr_bs98_13_0_1_2_3_4_5_6_7_8_9_10_11_12 _ _ _ _ _ _ _ _ _ _ _ _ _) rfl (fun wb => ?_)
  refine RL.weak (fun w hw => (show St w (Box _ _ (strsV wordsE) :: _) _ from hw).boxKeep) ?_
  refine RL.assign rfl rfl rfl ?_
  refine RL.nil ?_
  refine NX.seq ?_
  refine TR.seq ?_
  refine TR.region ?_
  refine RL.assign rfl rfl rfl ?_
  refine RL.weak (fun w hw => OwnSl.nil_new 78 3 hw) ?_
  refine RL.nil ?_
  refine NX.seq ?_
  refine TR.seq ?_
  refine TR.region ?_
  refine RL.assign rfl rfl rfl ?_
  refine RL.nil ?_
  refine NX.seq ?_
  refine TR.seq ?_
  refine TR.seq ?_
  refine TR.region ?_
  refine RL.assign rfl rfl rfl ?_
  refine RL.nil ?_
  refine NX.seq ?_
  refine TR.block ?_
  refine TR.loopP (ι := SmX) (fun x => x.es.length = x.i ∧ x.i ≤ 5 ∧ x.q ≤ tx.length ∧ SoundTo tx.length x.es x.q ∧ (∀ e, e ∈ x.es → Grow 5 e) ∧ (true = true → IsB tx x.q)) (fun x => [(0, S tx), (1, .slice oa xs.length ca), (2, .bool true), (7, .slice (some ⟨wb, 0, none⟩) 13 13), (8, .slice x.oa x.es.length x.c), (9, I (x.q : Nat)), (10, I (x.i : Nat))]) (fun x => OwnSl 78 3 x.oa x.es.length x.c (edC x.es) :: M) (fun x => CellsF wb 0 (strsV wordsE) :: F) (fun x => 5 - x.i) ⟨0, 0, [], none, 0⟩ ⟨rfl, Nat.zero_le _, Nat.zero_le _, SoundTo.nil _, fun e he => absurd he (by simp), fun _ => .inl rfl⟩ ⟨rfl, rfl, rfl, rfl, rfl, rfl, rfl, trivial⟩ (fun w hw => (hw.to 1 [0] 1 [0] rfl)) (fun x hx => ?_)
  refine TR.seq ?_
  refine TR.seq ?_
  refine TR.region ?_
  refine RL.move rfl rfl rfl ?_
  refine RL.move rfl rfl rfl ?_
  refine RL.call rfl rfl Try.call24 rfl (pick_spec (.tail _ ha) hxs (by decide)) (fun r => ?_)
  refine RL.bin rfl rfl rfl BinV.lss rfl ?_
  refine RL.nil ?_
  refine NX.seq ?_
  refine TR.cond rfl (fun h1 => ?_) (fun h1 => ?_)
  · skip
    have hi1 := of_decide_eq_true h1
    have hr := r.2
    have hi4 : x.i < 5 := by omega
    have hxe := hx.1
    have hql := hx.2.2.1
    refine TR.skip ?_
    refine NX.seq ?_
    refine TR.seq ?_
    refine TR.block ?_
    refine TR.seq ?_
    refine TR.region ?_
    refine RL.move rfl rfl rfl ?_
    refine RL.move rfl rfl rfl ?_
    refine RL.bin rfl rfl rfl (BinV.mul _ rfl (by omega) (by omega)) rfl ?_
    refine RL.bin rfl rfl rfl (BinV.add _ rfl (by omega) (by omega)) rfl ?_
    refine RL.call rfl rfl Try.call24 rfl (pick_spec (.tail _ ha) hxs (by decide)) (fun rn => ?_)
    obtain ⟨rnv, rnh⟩ := rn
    obtain ⟨n, rfl⟩ : ∃ n : Nat, rnv = n := ⟨rnv.toNat, by omega⟩
    dsimp only
    refine RL.assign rfl rfl rfl ?_
    refine RL.nil ?_
    refine NX.seq ?_
    refine TR.seq ?_
    refine TR.region ?_
    refine RL.move rfl rfl rfl ?_
    refine RL.move rfl rfl rfl ?_
    refine RL.move rfl rfl rfl ?_
    refine RL.lenStr rfl qr_tstr9 rfl rfl ?_
    refine RL.move rfl rfl rfl ?_
    refine RL.bin rfl rfl rfl (BinV.sub (((tx.length - x.q) : Nat) : Int) (by omega) (by omega) (by omega)) rfl ?_
    refine RL.bin rfl rfl rfl (BinV.add (((tx.length - x.q) + 1 : Nat) : Int) (by omega) (by omega) (by omega)) rfl ?_
    refine RL.bin rfl rfl rfl (BinV.remK (a := n) (b := (tx.length - x.q) + 1) (by omega)) rfl ?_
    refine RL.bin rfl rfl rfl (BinV.add ((x.q + n % ((tx.length - x.q) + 1) : Nat) : Int) (by omega) (by have := Nat.mod_lt n (show 0 < (tx.length - x.q) + 1 by omega); omega) (by have := Nat.mod_lt n (show 0 < (tx.length - x.q) + 1 by omega); omega)) rfl ?_
    have hm := Nat.mod_lt n (show 0 < (tx.length - x.q) + 1 by omega)
    generalize hf0 : n % ((tx.length - x.q) + 1) = f0 at hm ⊢
    refine RL.assign rfl rfl rfl ?_
    refine RL.nil ?_
    refine NX.seq ?_
    refine TR.seq ?_
    refine TR.seq ?_
    obtain ⟨f, hf, hfq, hfl⟩ : ∃ f : Nat, f = x.q + f0 ∧ x.q ≤ f ∧ f ≤ tx.length := ⟨_, rfl, by omega, by omega⟩
    rw [← hf]
    refine TR.region ?_
    refine RL.move rfl rfl rfl ?_
    refine RL.bin rfl rfl rfl (BinV.quo (by decide) ((n / 8 : Nat) : Int) (by rw [Int.tdiv_eq_ediv_of_nonneg (by omega)]; omega) (by omega) (by omega)) rfl ?_
    refine RL.bin rfl rfl rfl (BinV.remK (a := n / 8) (b := 2) (by decide)) rfl ?_
    refine RL.bin rfl rfl rfl BinV.eql rfl ?_
    refine RL.nil ?_
    refine NX.seq ?_
    refine TR.cond rfl (fun h2 => ?_) (fun h2 => ?_)
    · skip
      skip
      refine TR.region ?_
      refine RL.move rfl rfl rfl ?_
      refine RL.move rfl rfl rfl ?_
      refine RL.move rfl rfl rfl ?_
      refine RL.lenStr rfl qr_tstr9 rfl rfl ?_
      refine RL.move rfl rfl rfl ?_
      refine RL.bin rfl rfl rfl (BinV.sub (((tx.length - x.q) : Nat) : Int) (by omega) (by omega) (by omega)) rfl ?_
      refine RL.min rfl rfl rfl rfl ?_
      refine RL.bin rfl rfl rfl (BinV.add ((min (tx.length - x.q) 6 + 1 : Nat) : Int) (by omega) (by omega) (by omega)) rfl ?_
      refine RL.bin rfl rfl rfl (BinV.remK (a := n) (b := min (tx.length - x.q) 6 + 1) (by omega)) rfl ?_
      have hm1 := Nat.mod_lt n (show 0 < min (tx.length - x.q) 6 + 1 by omega)
      generalize hf1 : n % (min (tx.length - x.q) 6 + 1) = f1 at hm1 ⊢
      refine RL.bin rfl rfl rfl (BinV.add ((x.q + f1 : Nat) : Int) (by omega) (by omega) (by omega)) rfl ?_
      refine RL.assign rfl rfl rfl ?_
      refine RL.nil ?_
      refine NX.seq ?_
      refine TR.seq ?_
      obtain ⟨f, hf, hfq, hfl⟩ : ∃ f : Nat, f = x.q + f1 ∧ x.q ≤ f ∧ f ≤ tx.length := ⟨_, rfl, by omega, by omega⟩
      rw [← hf]
      refine TR.region ?_
      refine RL.move rfl rfl rfl ?_
      refine RL.move rfl rfl rfl ?_
      refine RL.move rfl rfl rfl ?_
      refine RL.bin rfl rfl rfl (BinV.mul _ rfl (by omega) (by omega)) rfl ?_
      refine RL.bin rfl rfl rfl (BinV.add _ rfl (by omega) (by omega)) rfl ?_
      refine RL.move rfl rfl rfl ?_
      refine RL.lenStr rfl qr_tstr9 rfl rfl ?_
      refine RL.move rfl rfl rfl ?_
      refine RL.bin rfl rfl rfl (BinV.sub ((tx.length - f : Nat) : Int) (by omega) (by omega) (by omega)) rfl ?_
      refine RL.min rfl rfl rfl rfl ?_
      refine RL.bin rfl rfl rfl (BinV.add ((min (tx.length - f) 7 + 1 : Nat) : Int) (by omega) (by omega) (by omega)) rfl ?_
      refine RL.call rfl rfl Try.call24 rfl (pick_spec (m := ((min (tx.length - f) 7 + 1 : Nat) : Int)) (.tail _ ha) hxs (by omega)) (fun rt => ?_)
      obtain ⟨rtv, rth⟩ := rt
      obtain ⟨t, rfl⟩ : ∃ t : Nat, rtv = t := ⟨rtv.toNat, by omega⟩
      dsimp only
      have hft0 : f + t ≤ tx.length := by omega
      refine RL.bin rfl rfl rfl (BinV.add ((f + t : Nat) : Int) (by omega) (by omega) (by omega)) rfl ?_
      refine RL.assign rfl rfl rfl ?_
      refine RL.nil ?_
      refine NX.seq ?_
      refine TR.seq ?_
      refine TR.seq ?_
      refine TR.region ?_
      refine RL.move rfl rfl rfl ?_
      refine RL.nil ?_
      refine NX.seq ?_
      refine TR.condT rfl ?_
      refine TR.seq ?_
      refine TR.region ?_
      refine RL.move rfl rfl rfl ?_
      refine RL.move rfl rfl rfl ?_
      refine RL.call rfl rfl Try.call73 rfl (boundary_spec (a := f) (by omega)) (fun b1 => ?_)
      refine RL.assign rfl rfl rfl ?_
      refine RL.nil ?_
      refine NX.seq ?_
      refine TR.region ?_
      refine RL.move rfl rfl rfl ?_
      refine RL.move rfl rfl rfl ?_
      refine RL.call rfl rfl Try.call73 rfl (boundary_spec (a := f + t) (by omega)) (fun b2 => ?_)
      refine RL.assign rfl rfl rfl ?_
      refine RL.nil ?_
      refine NX.seq ?_
      refine TR.seq ?_
      have hqf : x.q ≤ b1.1 := b1.2.2.2 _ (hx.2.2.2.2.2 rfl) hfq
      have hft : b1.1 ≤ b2.1 := b2.2.2.2 _ b1.2.2.1 (by have := b1.2.1; omega)
      have htl : b2.1 ≤ tx.length := by have := b2.2.1; omega
      refine TR.region ?_
      refine RL.move rfl rfl rfl ?_
      refine RL.move rfl rfl rfl ?_
      refine RL.move rfl rfl rfl ?_
      refine RL.bin rfl rfl rfl (BinV.mul _ rfl (by omega) (by omega)) rfl ?_
      refine RL.bin rfl rfl rfl (BinV.add _ rfl (by omega) (by omega)) rfl ?_
      refine RL.move rfl rfl rfl ?_
      refine RL.lenSlice rfl qr_tl98 rfl rfl ?_
      refine RL.call rfl rfl Try.call24 rfl (pick_spec (.tail _ ha) hxs (by decide)) (fun rk => ?_)
      obtain ⟨rkv, rkh⟩ := rk
      obtain ⟨k, rfl⟩ : ∃ k : Nat, rkv = k := ⟨rkv.toNat, by omega⟩
      dsimp only
      have hk : k < wordsE.length := by rw [wordsE_len]; omega
      refine RL.indexAddr rfl qr_tl98 qr_tz9 rfl rfl (by omega) (by omega) rfl ?_
      refine RL.loadF rfl rfl (fun w K hF => run_loadCell1 (j := ((k : Nat) : Int).toNat * 1) (v := S wordsE[k]) (hF (CellsF wb 0 (strsV wordsE)) (.head _)) qr_ts9 (strs_get hk)) rfl ?_
      refine RL.assign rfl rfl rfl ?_
      refine RL.nil ?_
      refine NX.seq ?_
      refine TR.seq ?_
      refine TR.seq ?_
      refine TR.region ?_
      refine RL.move rfl rfl rfl ?_
      refine RL.bin rfl rfl rfl (BinV.quo (by decide) ((n / 16 : Nat) : Int) (by rw [Int.tdiv_eq_ediv_of_nonneg (by omega)]; omega) (by omega) (by omega)) rfl ?_
      refine RL.bin rfl rfl rfl (BinV.remK (a := n / 16) (b := 5) (by decide)) rfl ?_
      refine RL.bin rfl rfl rfl BinV.eql rfl ?_
      refine RL.nil ?_
      refine NX.seq ?_
      refine TR.cond rfl (fun h3 => ?_) (fun h3 => ?_)
      · skip
        refine TR.region ?_
        refine RL.move rfl rfl rfl ?_
        refine RL.move rfl rfl rfl ?_
        refine RL.move rfl rfl rfl ?_
        refine RL.sliceS rfl qr_tstr9 rfl rfl rfl (by omega) (by omega) (by omega) rfl ?_
        refine RL.assign rfl rfl rfl ?_
        refine RL.nil ?_
        refine NX.seq ?_
        refine TR.seq ?_
        refine TR.region ?_
        refine RL.move rfl rfl rfl ?_
        refine RL.move rfl rfl rfl ?_
        refine RL.move rfl rfl rfl ?_
        refine RL.move rfl rfl rfl ?_
        refine RL.build rfl rfl (qr_bv78_0_1_2 _ _ _) rfl ?_
        refine RL.buildSlice rfl rfl (qr_bs26_1_0 _ _ _) rfl (fun b4 => ?_)
        refine RL.ofGV rfl rfl (GV.append (j := 1) qr_tl26 qr_ni26 qr_te78 rfl rfl rfl (src_box (i := 0) rfl rfl rfl) (by omega) (by omega)) (fun y => ?_)
        refine RL.assign rfl rfl rfl ?_
        refine RL.nil ?_
        refine NX.seq ?_
        refine TR.region ?_
        refine RL.move rfl rfl rfl ?_
        refine RL.assign rfl rfl rfl ?_
        refine RL.nil ?_
        refine NX.off ?_
        refine NX.seq ?_
        refine TR.region ?_
        refine RL.move rfl rfl rfl ?_
        refine RL.bin rfl rfl rfl (BinV.add _ rfl (by omega) (by omega)) rfl ?_
        refine RL.assign rfl rfl rfl ?_
        refine RL.nil ?_
        refine NX.roundP ⟨x.i + 1, b2.1, x.es ++ [⟨((b1.1 : Nat) : Int), ((b2.1 : Nat) : Int), ((tx.take ((b2.1 : Nat) : Int).toNat).drop ((b1.1 : Nat) : Int).toNat)⟩], y.1, y.2⟩ ⟨by rw [List.length_append]; show x.es.length + 1 = x.i + 1; omega, by show x.i + 1 ≤ 5; omega, htl, sm_step hx.2.2.2.1 hqf hft htl, mem_snoc_all hx.2.2.2.2.1 (by show (((tx.take ((b2.1 : Nat) : Int).toNat).drop ((b1.1 : Nat) : Int).toNat).length : Int) ≤ ((b2.1 : Nat) : Int) - ((b1.1 : Nat) : Int) + (5 : Nat); have := cut_len (l := tx) hft htl; omega), fun _ => b2.2.2.1⟩ (by show 5 - (x.i + 1) < 5 - x.i; omega) ⟨rfl, rfl, rfl, rfl, ?_, ?_, rfl, trivial⟩ (fun w hw => ?_)
        · show some (Value.slice y.1 (x.es.length + 1) y.2) = some (Value.slice y.1 (x.es ++ [_]).length y.2)
          rw [List.length_append]; rfl
        · rfl
        · have h9 := (hw.to 2 [1] 1 [0] rfl)
          show St w (OwnSl 78 3 y.1 (x.es ++ [_]).length y.2 (edC (x.es ++ [_])) :: M) _
          rw [List.length_append, edC_append]
          exact h9
      · skip
        refine TR.skip ?_
        refine NX.seq ?_
        refine TR.seq ?_
        refine TR.region ?_
        refine RL.move rfl rfl rfl ?_
        refine RL.move rfl rfl rfl ?_
        refine RL.move rfl rfl rfl ?_
        refine RL.move rfl rfl rfl ?_
        refine RL.build rfl rfl (qr_bv78_0_1_2 _ _ _) rfl ?_
        refine RL.buildSlice rfl rfl (qr_bs26_1_0 _ _ _) rfl (fun b6 => ?_)
        refine RL.ofGV rfl rfl (GV.append (j := 1) qr_tl26 qr_ni26 qr_te78 rfl rfl rfl (src_box (i := 0) rfl rfl rfl) (by omega) (by omega)) (fun y => ?_)
        refine RL.assign rfl rfl rfl ?_
        refine RL.nil ?_
        refine NX.seq ?_
        refine TR.region ?_
        refine RL.move rfl rfl rfl ?_
        refine RL.assign rfl rfl rfl ?_
        refine RL.nil ?_
        refine NX.off ?_
        refine NX.seq ?_
        refine TR.region ?_
        refine RL.move rfl rfl rfl ?_
        refine RL.bin rfl rfl rfl (BinV.add _ rfl (by omega) (by omega)) rfl ?_
        refine RL.assign rfl rfl rfl ?_
        refine RL.nil ?_
        refine NX.roundP ⟨x.i + 1, b2.1, x.es ++ [⟨((b1.1 : Nat) : Int), ((b2.1 : Nat) : Int), wordsE[k]⟩], y.1, y.2⟩ ⟨by rw [List.length_append]; show x.es.length + 1 = x.i + 1; omega, by show x.i + 1 ≤ 5; omega, htl, sm_step hx.2.2.2.1 hqf hft htl, mem_snoc_all hx.2.2.2.2.1 (by show (wordsE[k].length : Int) ≤ ((b2.1 : Nat) : Int) - ((b1.1 : Nat) : Int) + (5 : Nat); have := wordsE_short hk; omega), fun _ => b2.2.2.1⟩ (by show 5 - (x.i + 1) < 5 - x.i; omega) ⟨rfl, rfl, rfl, rfl, ?_, ?_, rfl, trivial⟩ (fun w hw => ?_)
        · show some (Value.slice y.1 (x.es.length + 1) y.2) = some (Value.slice y.1 (x.es ++ [_]).length y.2)
          rw [List.length_append]; rfl
        · rfl
        · have h9 := (hw.to 2 [1] 1 [0] rfl)
          show St w (OwnSl 78 3 y.1 (x.es ++ [_]).length y.2 (edC (x.es ++ [_])) :: M) _
          rw [List.length_append, edC_append]
          exact h9
    · skip
      refine TR.skip ?_
      refine NX.seq ?_
      refine TR.seq ?_
      skip
      refine TR.region ?_
      refine RL.move rfl rfl rfl ?_
      refine RL.move rfl rfl rfl ?_
      refine RL.move rfl rfl rfl ?_
      refine RL.bin rfl rfl rfl (BinV.mul _ rfl (by omega) (by omega)) rfl ?_
      refine RL.bin rfl rfl rfl (BinV.add _ rfl (by omega) (by omega)) rfl ?_
      refine RL.move rfl rfl rfl ?_
      refine RL.lenStr rfl qr_tstr9 rfl rfl ?_
      refine RL.move rfl rfl rfl ?_
      refine RL.bin rfl rfl rfl (BinV.sub ((tx.length - f : Nat) : Int) (by omega) (by omega) (by omega)) rfl ?_
      refine RL.min rfl rfl rfl rfl ?_
      refine RL.bin rfl rfl rfl (BinV.add ((min (tx.length - f) 7 + 1 : Nat) : Int) (by omega) (by omega) (by omega)) rfl ?_
      refine RL.call rfl rfl Try.call24 rfl (pick_spec (m := ((min (tx.length - f) 7 + 1 : Nat) : Int)) (.tail _ ha) hxs (by omega)) (fun rt => ?_)
      obtain ⟨rtv, rth⟩ := rt
      obtain ⟨t, rfl⟩ : ∃ t : Nat, rtv = t := ⟨rtv.toNat, by omega⟩
      dsimp only
      have hft0 : f + t ≤ tx.length := by omega
      refine RL.bin rfl rfl rfl (BinV.add ((f + t : Nat) : Int) (by omega) (by omega) (by omega)) rfl ?_
      refine RL.assign rfl rfl rfl ?_
      refine RL.nil ?_
      refine NX.seq ?_
      refine TR.seq ?_
      refine TR.seq ?_
      refine TR.region ?_
      refine RL.move rfl rfl rfl ?_
      refine RL.nil ?_
      refine NX.seq ?_
      refine TR.condT rfl ?_
      refine TR.seq ?_
      refine TR.region ?_
      refine RL.move rfl rfl rfl ?_
      refine RL.move rfl rfl rfl ?_
      refine RL.call rfl rfl Try.call73 rfl (boundary_spec (a := f) (by omega)) (fun b1 => ?_)
      refine RL.assign rfl rfl rfl ?_
      refine RL.nil ?_
      refine NX.seq ?_
      refine TR.region ?_
      refine RL.move rfl rfl rfl ?_
      refine RL.move rfl rfl rfl ?_
      refine RL.call rfl rfl Try.call73 rfl (boundary_spec (a := f + t) (by omega)) (fun b2 => ?_)
      refine RL.assign rfl rfl rfl ?_
      refine RL.nil ?_
      refine NX.seq ?_
      refine TR.seq ?_
      have hqf : x.q ≤ b1.1 := b1.2.2.2 _ (hx.2.2.2.2.2 rfl) hfq
      have hft : b1.1 ≤ b2.1 := b2.2.2.2 _ b1.2.2.1 (by have := b1.2.1; omega)
      have htl : b2.1 ≤ tx.length := by have := b2.2.1; omega
      refine TR.region ?_
      refine RL.move rfl rfl rfl ?_
      refine RL.move rfl rfl rfl ?_
      refine RL.move rfl rfl rfl ?_
      refine RL.bin rfl rfl rfl (BinV.mul _ rfl (by omega) (by omega)) rfl ?_
      refine RL.bin rfl rfl rfl (BinV.add _ rfl (by omega) (by omega)) rfl ?_
      refine RL.move rfl rfl rfl ?_
      refine RL.lenSlice rfl qr_tl98 rfl rfl ?_
      refine RL.call rfl rfl Try.call24 rfl (pick_spec (.tail _ ha) hxs (by decide)) (fun rk => ?_)
      obtain ⟨rkv, rkh⟩ := rk
      obtain ⟨k, rfl⟩ : ∃ k : Nat, rkv = k := ⟨rkv.toNat, by omega⟩
      dsimp only
      have hk : k < wordsE.length := by rw [wordsE_len]; omega
      refine RL.indexAddr rfl qr_tl98 qr_tz9 rfl rfl (by omega) (by omega) rfl ?_
      refine RL.loadF rfl rfl (fun w K hF => run_loadCell1 (j := ((k : Nat) : Int).toNat * 1) (v := S wordsE[k]) (hF (CellsF wb 0 (strsV wordsE)) (.head _)) qr_ts9 (strs_get hk)) rfl ?_
      refine RL.assign rfl rfl rfl ?_
      refine RL.nil ?_
      refine NX.seq ?_
      refine TR.seq ?_
      refine TR.seq ?_
      refine TR.region ?_
      refine RL.move rfl rfl rfl ?_
      refine RL.bin rfl rfl rfl (BinV.quo (by decide) ((n / 16 : Nat) : Int) (by rw [Int.tdiv_eq_ediv_of_nonneg (by omega)]; omega) (by omega) (by omega)) rfl ?_
      refine RL.bin rfl rfl rfl (BinV.remK (a := n / 16) (b := 5) (by decide)) rfl ?_
      refine RL.bin rfl rfl rfl BinV.eql rfl ?_
      refine RL.nil ?_
      refine NX.seq ?_
      refine TR.cond rfl (fun h8 => ?_) (fun h8 => ?_)
      · skip
        refine TR.region ?_
        refine RL.move rfl rfl rfl ?_
        refine RL.move rfl rfl rfl ?_
        refine RL.move rfl rfl rfl ?_
        refine RL.sliceS rfl qr_tstr9 rfl rfl rfl (by omega) (by omega) (by omega) rfl ?_
        refine RL.assign rfl rfl rfl ?_
        refine RL.nil ?_
        refine NX.seq ?_
        refine TR.seq ?_
        refine TR.region ?_
        refine RL.move rfl rfl rfl ?_
        refine RL.move rfl rfl rfl ?_
        refine RL.move rfl rfl rfl ?_
        refine RL.move rfl rfl rfl ?_
        refine RL.build rfl rfl (qr_bv78_0_1_2 _ _ _) rfl ?_
        refine RL.buildSlice rfl rfl (qr_bs26_1_0 _ _ _) rfl (fun b9 => ?_)
        refine RL.ofGV rfl rfl (GV.append (j := 1) qr_tl26 qr_ni26 qr_te78 rfl rfl rfl (src_box (i := 0) rfl rfl rfl) (by omega) (by omega)) (fun y => ?_)
        refine RL.assign rfl rfl rfl ?_
        refine RL.nil ?_
        refine NX.seq ?_
        refine TR.region ?_
        refine RL.move rfl rfl rfl ?_
        refine RL.assign rfl rfl rfl ?_
        refine RL.nil ?_
        refine NX.off ?_
        refine NX.seq ?_
        refine TR.region ?_
        refine RL.move rfl rfl rfl ?_
        refine RL.bin rfl rfl rfl (BinV.add _ rfl (by omega) (by omega)) rfl ?_
        refine RL.assign rfl rfl rfl ?_
        refine RL.nil ?_
        refine NX.roundP ⟨x.i + 1, b2.1, x.es ++ [⟨((b1.1 : Nat) : Int), ((b2.1 : Nat) : Int), ((tx.take ((b2.1 : Nat) : Int).toNat).drop ((b1.1 : Nat) : Int).toNat)⟩], y.1, y.2⟩ ⟨by rw [List.length_append]; show x.es.length + 1 = x.i + 1; omega, by show x.i + 1 ≤ 5; omega, htl, sm_step hx.2.2.2.1 hqf hft htl, mem_snoc_all hx.2.2.2.2.1 (by show (((tx.take ((b2.1 : Nat) : Int).toNat).drop ((b1.1 : Nat) : Int).toNat).length : Int) ≤ ((b2.1 : Nat) : Int) - ((b1.1 : Nat) : Int) + (5 : Nat); have := cut_len (l := tx) hft htl; omega), fun _ => b2.2.2.1⟩ (by show 5 - (x.i + 1) < 5 - x.i; omega) ⟨rfl, rfl, rfl, rfl, ?_, ?_, rfl, trivial⟩ (fun w hw => ?_)
        · show some (Value.slice y.1 (x.es.length + 1) y.2) = some (Value.slice y.1 (x.es ++ [_]).length y.2)
          rw [List.length_append]; rfl
        · rfl
        · have h9 := (hw.to 2 [1] 1 [0] rfl)
          show St w (OwnSl 78 3 y.1 (x.es ++ [_]).length y.2 (edC (x.es ++ [_])) :: M) _
          rw [List.length_append, edC_append]
          exact h9
      · skip
        refine TR.skip ?_
        refine NX.seq ?_
        refine TR.seq ?_
        refine TR.region ?_
        refine RL.move rfl rfl rfl ?_
        refine RL.move rfl rfl rfl ?_
        refine RL.move rfl rfl rfl ?_
        refine RL.move rfl rfl rfl ?_
        refine RL.build rfl rfl (qr_bv78_0_1_2 _ _ _) rfl ?_
        refine RL.buildSlice rfl rfl (qr_bs26_1_0 _ _ _) rfl (fun b11 => ?_)
        refine RL.ofGV rfl rfl (GV.append (j := 1) qr_tl26 qr_ni26 qr_te78 rfl rfl rfl (src_box (i := 0) rfl rfl rfl) (by omega) (by omega)) (fun y => ?_)
        refine RL.assign rfl rfl rfl ?_
        refine RL.nil ?_
        refine NX.seq ?_
        refine TR.region ?_
        refine RL.move rfl rfl rfl ?_
        refine RL.assign rfl rfl rfl ?_
        refine RL.nil ?_
        refine NX.off ?_
        refine NX.seq ?_
        refine TR.region ?_
        refine RL.move rfl rfl rfl ?_
        refine RL.bin rfl rfl rfl (BinV.add _ rfl (by omega) (by omega)) rfl ?_
        refine RL.assign rfl rfl rfl ?_
        refine RL.nil ?_
        refine NX.roundP ⟨x.i + 1, b2.1, x.es ++ [⟨((b1.1 : Nat) : Int), ((b2.1 : Nat) : Int), wordsE[k]⟩], y.1, y.2⟩ ⟨by rw [List.length_append]; show x.es.length + 1 = x.i + 1; omega, by show x.i + 1 ≤ 5; omega, htl, sm_step hx.2.2.2.1 hqf hft htl, mem_snoc_all hx.2.2.2.2.1 (by show (wordsE[k].length : Int) ≤ ((b2.1 : Nat) : Int) - ((b1.1 : Nat) : Int) + (5 : Nat); have := wordsE_short hk; omega), fun _ => b2.2.2.1⟩ (by show 5 - (x.i + 1) < 5 - x.i; omega) ⟨rfl, rfl, rfl, rfl, ?_, ?_, rfl, trivial⟩ (fun w hw => ?_)
        · show some (Value.slice y.1 (x.es.length + 1) y.2) = some (Value.slice y.1 (x.es ++ [_]).length y.2)
          rw [List.length_append]; rfl
        · rfl
        · have h9 := (hw.to 2 [1] 1 [0] rfl)
          show St w (OwnSl 78 3 y.1 (x.es ++ [_]).length y.2 (edC (x.es ++ [_])) :: M) _
          rw [List.length_append, edC_append]
          exact h9
  · skip
    refine TR.exit ?_
    refine NX.exitThen ?_
    refine NX.exitThen ?_
    refine NX.exitHere ?_
    refine NX.seq ?_
    refine TR.seq ?_
    refine TR.region ?_
    refine RL.move rfl rfl rfl ?_
    refine RL.assign rfl rfl rfl ?_
    refine RL.nil ?_
    refine NX.seq ?_
    refine TR.ret ?_
    exact NX.ret1 (⟨⟨x.es, x.oa, x.c⟩, by show x.es.length ≤ 5; have := hx.1; have := hx.2.1; omega, hx.2.2.2.1.sound, hx.2.2.2.2.1⟩ : {z : EdX // EdsOk tx z.es}) rfl rfl rfl (fun w hw => ((hw.to 1 [0] 1 [] rfl) : St w _ _).keepSl)
theorem gEdits_spec {tx : List UInt8} {xs : List Int} {oa : Option Addr} {ca : Nat} {M : List HP} {F : List Fact} (ha : ArrF oa (ints xs) ∈ F) (hxs : IntsOk xs) (hl : tx.length ≤ 1000000) : Ctr Try.prog 11 [S tx, .slice oa xs.length ca] M F {z : EdX // EdsOk tx z.es} (fun z => .slice z.1.oa z.1.es.length z.1.c) (fun _ => M) (fun z => ArrF z.1.oa (edC z.1.es) :: F) := by
  refine Ctr.body Try.func11 rfl rfl ?_
  refine TR.seq ?_
  refine TR.region ?_
  refine RL.assign rfl rfl rfl ?_
  refine RL.nil ?_
  refine NX.seq ?_
  refine TR.seq ?_
  refine TR.region ?_
  refine RL.move rfl rfl rfl ?_
  refine RL.move rfl rfl rfl ?_
  refine RL.call rfl rfl Try.call45 rfl (some_w ha hxs hl) (fun z => ?_)
  refine RL.assign rfl rfl rfl ?_
  refine RL.nil ?_
  refine NX.seq ?_
  refine TR.ret ?_
  exact NX.ret1 z rfl rfl rfl (fun w hw => hw)
set_option maxHeartbeats 1000000 in
theorem rvalid_spec {s : List UInt8} {es : List Ed} {oa : Option Addr} {ca : Nat} {M : List HP} {F : List Fact} (ha : ArrF oa (edC es) ∈ F) (hl : es.length ≤ 4611686018427387904) (hs : s.length ≤ 4611686018427387904) : Ctr Try.prog 72 [S s, .slice oa es.length ca] M F Unit (fun _ => I (soundE s.length es)) (fun _ => M) (fun _ => F) := by
  refine Ctr.body Try.func72 rfl rfl ?_
  refine TR.seq ?_
  refine TR.region ?_
  refine RL.assign rfl rfl rfl ?_
  refine RL.nil ?_
  refine NX.seq ?_
  refine TR.seq ?_
  refine TR.seq ?_
  refine TR.region ?_
  refine RL.move rfl rfl rfl ?_
  refine RL.lenSlice rfl qr_tl26 rfl rfl ?_
  refine RL.bin rfl rfl rfl BinV.gtr rfl ?_
  refine RL.nil ?_
  refine NX.seq ?_
  refine TR.cond rfl (fun h1 => ?_) (fun h1 => ?_)
  · skip
    have hbig : 64 < es.length := by have := of_decide_eq_true h1; omega
    refine TR.seq ?_
    refine TR.region ?_
    refine RL.assign rfl rfl rfl ?_
    refine RL.nil ?_
    refine NX.seq ?_
    refine TR.ret ?_
    refine NX.retThen ?_
    exact NX.ret1 () rfl rfl (by unfold soundE; rw [if_pos hbig]) (fun w hw => (hw.to 0 [] 0 [] rfl))
  · skip
    have hbig : ¬ 64 < es.length := by have := of_decide_eq_false h1; omega
    refine TR.skip ?_
    refine NX.seq ?_
    refine TR.seq ?_
    refine TR.seq ?_
    refine TR.region ?_
    refine RL.assign rfl rfl rfl ?_
    refine RL.nil ?_
    refine NX.seq ?_
    refine TR.block ?_
    refine TR.loopP (ι := Nat × Int) (fun x => x.1 ≤ es.length ∧ sound1 s.length x.2 (es.drop x.1) = sound1 s.length 0 es ∧ (x.1 = 0 → x.2 = 0) ∧ (0 < x.1 → ∀ h : x.1 - 1 < es.length, es[x.1 - 1].t = x.2)) (fun x => [(0, S s), (1, .slice oa es.length ca), (5, I (x.1 : Nat))]) (fun x => M) (fun x => F) (fun x => es.length - x.1) (0, 0) ⟨Nat.zero_le _, rfl, fun _ => rfl, fun h => absurd h (Nat.lt_irrefl 0)⟩ ⟨rfl, rfl, rfl, trivial⟩ (fun w hw => (hw.to 0 [] 0 [] rfl)) (fun x hx => ?_)
    refine TR.seq ?_
    refine TR.seq ?_
    refine TR.region ?_
    refine RL.move rfl rfl rfl ?_
    refine RL.move rfl rfl rfl ?_
    refine RL.lenSlice rfl qr_tl26 rfl rfl ?_
    refine RL.bin rfl rfl rfl BinV.lss rfl ?_
    refine RL.nil ?_
    refine NX.seq ?_
    refine TR.cond rfl (fun h2 => ?_) (fun h2 => ?_)
    · skip
      have hk : x.1 < es.length := by have := of_decide_eq_true h2; omega
      have hdk := List.drop_eq_getElem_cons hk
      refine TR.openP (open_arr (oa := oa) (xs := edC es) ha (fun e => by have h8 := edC_length es; rw [e] at h8; simp at h8; omega)) (fun pe hpe => ?_)
      refine TR.skip ?_
      refine NX.seq ?_
      refine TR.seq ?_
      refine TR.block ?_
      refine TR.seq ?_
      refine TR.seq ?_
      refine TR.sub (E' := [(0, _), (1, _), (5, _), (9, _), (10, _), (11, _), (12, _)]) ⟨rfl, rfl, rfl, rfl, rfl, rfl, rfl, trivial⟩ ?_
      refine TR.draw mixed ?_
      cases h3 : decide (es[x.1].f < 0)
      · skip
        have hA := of_decide_eq_false h3
        cases h4 : decide (es[x.1].t < es[x.1].f)
        · skip
          have hB := of_decide_eq_false h4
          apply AR.more [(0, _), (1, _), (2, _), (3, _), (4, _), (5, _), (6, .bool false), (7, _), (8, _), (9, _), (10, _), (11, _), (12, _), (13, _), (14, _), (15, _), (16, _), (17, _), (18, _), (19, .bool false), (20, _), (21, _), (22, _), (23, _), (24, _), (25, _), (26, _), (27, _), (28, _)]
          refine AR.last [0, 1, 2, 3, 4, 5, 6, 7, 8, 9, 10, 11, 12, 13, 14, 15, 16, 17, 18, 19, 20, 21, 22, 23, 24, 25, 26, 27, 28] [0, 1, 2, 3, 4, 5, 6, 7, 8, 9, 10, 11, 12, 13, 14, 15, 16, 17, 18, 19, 20, 21, 22, 23, 24, 25, 26, 27, 28] ⟨QOne.yes rfl rfl rfl (PV.move rfl), QOne.yes rfl rfl rfl (PV.move rfl), QOne.yes rfl rfl rfl (PV.indexAddr qr_tl26 qr_tz78 (congrArg (fun a => some (Value.slice a _ _)) hpe) rfl (by omega) (by omega)), QOne.yes rfl rfl rfl (PV.fieldAddr qr_tf78_0 rfl), QOne.yes rfl rfl rfl (PV.loadF rfl (fun w K hF => run_loadCell1 (j := (((x.1 : Nat) : Int)).toNat * 3 + 0) (v := I es[x.1].f) (hF (CellsF pe.1 pe.2 (edC es)) (.head _)) qr_ts3 (by rw [Int.toNat_natCast]; exact edC_at hk rfl))), QOne.yes rfl rfl rfl (PV.bin rfl rfl BinV.lss), QOne.yes rfl rfl rfl (PV.cast (congrArg Value.bool h3) (PV.move rfl)), QOne.yes rfl rfl rfl (PV.move rfl), QOne.yes rfl rfl rfl (PV.move rfl), QOne.yes rfl rfl rfl (PV.indexAddr qr_tl26 qr_tz78 (congrArg (fun a => some (Value.slice a _ _)) hpe) rfl (by omega) (by omega)), QOne.yes rfl rfl rfl (PV.fieldAddr qr_tf78_1 rfl), QOne.yes rfl rfl rfl (PV.loadF rfl (fun w K hF => run_loadCell1 (j := (((x.1 : Nat) : Int)).toNat * 3 + 1) (v := I es[x.1].t) (hF (CellsF pe.1 pe.2 (edC es)) (.head _)) qr_ts3 (by rw [Int.toNat_natCast]; exact edC_at hk rfl))), QOne.yes rfl rfl rfl (PV.move rfl), QOne.yes rfl rfl rfl (PV.move rfl), QOne.yes rfl rfl rfl (PV.indexAddr qr_tl26 qr_tz78 (congrArg (fun a => some (Value.slice a _ _)) hpe) rfl (by omega) (by omega)), QOne.yes rfl rfl rfl (PV.fieldAddr qr_tf78_0 rfl), QOne.yes rfl rfl rfl (PV.loadF rfl (fun w K hF => run_loadCell1 (j := (((x.1 : Nat) : Int)).toNat * 3 + 0) (v := I es[x.1].f) (hF (CellsF pe.1 pe.2 (edC es)) (.head _)) qr_ts3 (by rw [Int.toNat_natCast]; exact edC_at hk rfl))), QOne.yes rfl rfl rfl (PV.bin rfl rfl BinV.lss), QOne.yes rfl rfl rfl (PV.pickF rfl rfl), QOne.yes rfl rfl rfl (PV.cast (congrArg Value.bool h4) (PV.move rfl)), QOne.yes rfl rfl rfl (PV.move rfl), QOne.yes rfl rfl rfl (PV.move rfl), QOne.yes rfl rfl rfl (PV.indexAddr qr_tl26 qr_tz78 (congrArg (fun a => some (Value.slice a _ _)) hpe) rfl (by omega) (by omega)), QOne.yes rfl rfl rfl (PV.fieldAddr qr_tf78_1 rfl), QOne.yes rfl rfl rfl (PV.loadF rfl (fun w K hF => run_loadCell1 (j := (((x.1 : Nat) : Int)).toNat * 3 + 1) (v := I es[x.1].t) (hF (CellsF pe.1 pe.2 (edC es)) (.head _)) qr_ts3 (by rw [Int.toNat_natCast]; exact edC_at hk rfl))), QOne.yes rfl rfl rfl (PV.move rfl), QOne.yes rfl rfl rfl (PV.lenStr qr_tstr9 rfl), QOne.yes rfl rfl rfl (PV.bin rfl rfl BinV.gtr), QOne.yes rfl rfl rfl (PV.pickF rfl rfl), trivial⟩ rfl rfl rfl ?_
          refine NX.sub (E' := [(0, _), (1, _), (5, _), (9, _), (10, _), (11, _), (12, _), (15, _), (16, _), (17, _), (18, _), (19, _), (20, _), (21, _), (22, _), (23, _), (24, _), (25, _), (26, _), (27, _), (28, _), (29, _), (30, _), (31, _), (32, _), (33, _), (34, _), (35, _), (36, _), (37, _), (38, _), (39, _), (40, _), (41, _), (42, _), (43, _)]) ⟨rfl, rfl, rfl, rfl, rfl, rfl, rfl, rfl, rfl, rfl, rfl, rfl, rfl, rfl, rfl, rfl, rfl, rfl, rfl, rfl, rfl, rfl, rfl, rfl, rfl, rfl, rfl, rfl, rfl, rfl, rfl, rfl, rfl, rfl, rfl, rfl, trivial⟩ ?_
          refine NX.seq ?_
          refine TR.cond rfl (fun h5 => ?_) (fun h5 => ?_)
          · skip
            have hbad : es[x.1].f < 0 ∨ es[x.1].t < es[x.1].f ∨ (s.length : Int) < es[x.1].t := .inr (.inr (of_decide_eq_true h5))
            refine TR.seq ?_
            refine TR.region ?_
            refine RL.assign rfl rfl rfl ?_
            refine RL.nil ?_
            refine NX.seq ?_
            refine TR.ret ?_
            refine NX.retThen ?_
            refine NX.retBlock ?_
            refine NX.retThen ?_
            refine NX.retThen ?_
            refine NX.retBlock ?_
            refine NX.retThen ?_
            have h9 := hx.2.1
            rw [hdk, sound1_bad hbad] at h9
            exact NX.ret1 () rfl rfl (by unfold soundE; rw [if_neg hbig, ← h9]) (fun w hw => (hw.to 0 [] 1 [] rfl))
          · skip
            have hC := of_decide_eq_false h5
            have hok : ¬ (es[x.1].f < 0 ∨ es[x.1].t < es[x.1].f ∨ (s.length : Int) < es[x.1].t) := by omega
            refine TR.skip ?_
            refine NX.seq ?_
            refine TR.seq ?_
            refine TR.sub (E' := [(0, _), (1, _), (5, _), (9, _), (10, _), (11, _), (12, _), (15, _), (16, _), (17, _), (18, _), (19, _), (20, _), (21, _), (22, _), (23, _), (24, _), (25, _), (26, _), (27, _), (28, _), (29, _), (30, _), (31, _), (32, _), (33, _), (34, _), (35, _), (36, _), (37, _), (38, _), (39, _), (40, _), (41, _), (42, _), (43, _)]) ⟨rfl, rfl, rfl, rfl, rfl, rfl, rfl, rfl, rfl, rfl, rfl, rfl, rfl, rfl, rfl, rfl, rfl, rfl, rfl, rfl, rfl, rfl, rfl, rfl, rfl, rfl, rfl, rfl, rfl, rfl, rfl, rfl, rfl, rfl, rfl, rfl, trivial⟩ ?_
            refine TR.draw mixed ?_
            cases h6 : decide ((x.1 : Int) > 0)
            · skip
              have hk0 : x.1 = 0 := by have := of_decide_eq_false h6; omega
              have hge : ¬ es[x.1].f < x.2 := by rw [hx.2.2.1 hk0]; omega
              apply AR.more [(0, _), (1, _), (2, .bool false), (3, undef), (4, undef), (5, undef), (6, undef), (7, undef), (8, undef), (9, undef), (10, undef), (11, undef), (12, undef), (13, undef), (14, undef), (15, .bool false)]
              refine AR.last [0, 1, 2, 3, 4, 5, 6, 7, 8, 9, 10, 11, 12, 13, 14, 15] [0, 1, 2, 3, 4, 5, 6, 7, 8, 9, 10, 11, 12, 13, 14, 15] ⟨QOne.yes rfl rfl rfl (PV.move rfl), QOne.yes rfl rfl rfl (PV.bin rfl rfl BinV.gtr), QOne.yes rfl rfl rfl (PV.cast (congrArg Value.bool h6) (PV.move rfl)), QOne.no rfl rfl rfl, QOne.no rfl rfl rfl, QOne.no rfl rfl rfl, QOne.no rfl rfl rfl, QOne.no rfl rfl rfl, QOne.no rfl rfl rfl, QOne.no rfl rfl rfl, QOne.no rfl rfl rfl, QOne.no rfl rfl rfl, QOne.no rfl rfl rfl, QOne.no rfl rfl rfl, QOne.no rfl rfl rfl, QOne.yes rfl rfl rfl (PV.pickF rfl rfl), trivial⟩ rfl rfl rfl ?_
              refine NX.sub (E' := [(0, _), (1, _), (5, _), (9, _), (10, _), (11, _), (12, _), (15, _), (16, _), (17, _), (18, _), (19, _), (20, _), (21, _), (22, _), (23, _), (24, _), (25, _), (26, _), (27, _), (28, _), (29, _), (30, _), (31, _), (32, _), (33, _), (34, _), (35, _), (36, _), (37, _), (38, _), (39, _), (40, _), (41, _), (42, _), (43, _), (44, _), (45, _), (46, _), (47, _), (48, _), (49, _), (50, _), (51, _), (52, _), (53, _), (54, _), (55, _), (56, _), (57, _), (58, _), (59, _)]) ⟨rfl, rfl, rfl, rfl, rfl, rfl, rfl, rfl, rfl, rfl, rfl, rfl, rfl, rfl, rfl, rfl, rfl, rfl, rfl, rfl, rfl, rfl, rfl, rfl, rfl, rfl, rfl, rfl, rfl, rfl, rfl, rfl, rfl, rfl, rfl, rfl, rfl, rfl, rfl, rfl, rfl, rfl, rfl, rfl, rfl, rfl, rfl, rfl, rfl, rfl, rfl, rfl, trivial⟩ ?_
              refine NX.seq ?_
              refine TR.condF rfl ?_
              refine TR.skip ?_
              refine NX.off ?_
              refine NX.seq ?_
              refine TR.region ?_
              refine RL.move rfl rfl rfl ?_
              refine RL.bin rfl rfl rfl (BinV.add _ rfl (by omega) (by omega)) rfl ?_
              refine RL.assign rfl rfl rfl ?_
              refine RL.nil ?_
              have h9 := hx.2.1
              rw [hdk, sound1_on hok hge] at h9
              refine NX.roundP (x.1 + 1, es[x.1].t) ⟨hk, h9, fun h => absurd h (Nat.succ_ne_zero _), fun _ _ => rfl⟩ (by show _ - (x.1 + 1) < _ - x.1; omega) ⟨rfl, rfl, rfl, trivial⟩ (fun w hw => (hw.to 0 [] 1 [] rfl))
            · skip
              have hk0 : 0 < x.1 := by have := of_decide_eq_true h6; omega
              apply AR.more [(0, _), (1, _), (2, .bool true), (3, _), (4, _), (5, _), (6, _), (7, _), (8, _), (9, _), (10, _), (11, _), (12, _), (13, _), (14, _), (15, _)]
              refine AR.last [0, 1, 2, 3, 4, 5, 6, 7, 8, 9, 10, 11, 12, 13, 14, 15] [0, 1, 2, 3, 4, 5, 6, 7, 8, 9, 10, 11, 12, 13, 14, 15] ⟨QOne.yes rfl rfl rfl (PV.move rfl), QOne.yes rfl rfl rfl (PV.bin rfl rfl BinV.gtr), QOne.yes rfl rfl rfl (PV.cast (congrArg Value.bool h6) (PV.move rfl)), QOne.yes rfl rfl rfl (PV.move rfl), QOne.yes rfl rfl rfl (PV.move rfl), QOne.yes rfl rfl rfl (PV.indexAddr qr_tl26 qr_tz78 (congrArg (fun a => some (Value.slice a _ _)) hpe) rfl (by omega) (by omega)), QOne.yes rfl rfl rfl (PV.fieldAddr qr_tf78_0 rfl), QOne.yes rfl rfl rfl (PV.loadF rfl (fun w K hF => run_loadCell1 (j := (((x.1 : Nat) : Int)).toNat * 3 + 0) (v := I es[x.1].f) (hF (CellsF pe.1 pe.2 (edC es)) (.head _)) qr_ts3 (by rw [Int.toNat_natCast]; exact edC_at hk rfl))), QOne.yes rfl rfl rfl (PV.move rfl), QOne.yes rfl rfl rfl (PV.move rfl), QOne.yes rfl rfl rfl (PV.bin rfl rfl (BinV.sub _ rfl (by omega) (by omega))), QOne.yes rfl rfl rfl (PV.indexAddr qr_tl26 qr_tz78 (congrArg (fun a => some (Value.slice a _ _)) hpe) rfl (by omega) (by omega)), QOne.yes rfl rfl rfl (PV.fieldAddr qr_tf78_1 rfl), QOne.yes rfl rfl rfl (PV.loadF rfl (fun w K hF => run_loadCell1 (j := (((x.1 : Nat) : Int) - 1).toNat * 3 + 1) (v := I x.2) (hF (CellsF pe.1 pe.2 (edC es)) (.head _)) qr_ts3 (by rw [← hx.2.2.2 hk0 (by omega), show (((x.1 : Nat) : Int) - 1).toNat = x.1 - 1 from by omega]; exact edC_at (by omega) rfl))), QOne.yes rfl rfl rfl (PV.bin rfl rfl BinV.lss), QOne.yes rfl rfl rfl (PV.pickT rfl rfl), trivial⟩ rfl rfl rfl ?_
              refine NX.sub (E' := [(0, _), (1, _), (5, _), (9, _), (10, _), (11, _), (12, _), (15, _), (16, _), (17, _), (18, _), (19, _), (20, _), (21, _), (22, _), (23, _), (24, _), (25, _), (26, _), (27, _), (28, _), (29, _), (30, _), (31, _), (32, _), (33, _), (34, _), (35, _), (36, _), (37, _), (38, _), (39, _), (40, _), (41, _), (42, _), (43, _), (44, _), (45, _), (46, _), (47, _), (48, _), (49, _), (50, _), (51, _), (52, _), (53, _), (54, _), (55, _), (56, _), (57, _), (58, _), (59, _)]) ⟨rfl, rfl, rfl, rfl, rfl, rfl, rfl, rfl, rfl, rfl, rfl, rfl, rfl, rfl, rfl, rfl, rfl, rfl, rfl, rfl, rfl, rfl, rfl, rfl, rfl, rfl, rfl, rfl, rfl, rfl, rfl, rfl, rfl, rfl, rfl, rfl, rfl, rfl, rfl, rfl, rfl, rfl, rfl, rfl, rfl, rfl, rfl, rfl, rfl, rfl, rfl, rfl, trivial⟩ ?_
              refine NX.seq ?_
              refine TR.cond rfl (fun h7 => ?_) (fun h7 => ?_)
              · skip
                have hlow : es[x.1].f < x.2 := of_decide_eq_true h7
                refine TR.seq ?_
                refine TR.region ?_
                refine RL.assign rfl rfl rfl ?_
                refine RL.nil ?_
                refine NX.seq ?_
                refine TR.ret ?_
                refine NX.retBlock ?_
                refine NX.retThen ?_
                refine NX.retThen ?_
                refine NX.retBlock ?_
                refine NX.retThen ?_
                have h9 := hx.2.1
                rw [hdk, sound1_low hok hlow] at h9
                exact NX.ret1 () rfl rfl (by unfold soundE; rw [if_neg hbig, ← h9]) (fun w hw => (hw.to 0 [] 1 [] rfl))
              · skip
                have hge : ¬ es[x.1].f < x.2 := of_decide_eq_false h7
                refine TR.skip ?_
                refine NX.off ?_
                refine NX.seq ?_
                refine TR.region ?_
                refine RL.move rfl rfl rfl ?_
                refine RL.bin rfl rfl rfl (BinV.add _ rfl (by omega) (by omega)) rfl ?_
                refine RL.assign rfl rfl rfl ?_
                refine RL.nil ?_
                have h9 := hx.2.1
                rw [hdk, sound1_on hok hge] at h9
                refine NX.roundP (x.1 + 1, es[x.1].t) ⟨hk, h9, fun h => absurd h (Nat.succ_ne_zero _), fun _ _ => rfl⟩ (by show _ - (x.1 + 1) < _ - x.1; omega) ⟨rfl, rfl, rfl, trivial⟩ (fun w hw => (hw.to 0 [] 1 [] rfl))
        · skip
          have hbad : es[x.1].f < 0 ∨ es[x.1].t < es[x.1].f ∨ (s.length : Int) < es[x.1].t := .inr (.inl (of_decide_eq_true h4))
          apply AR.more [(0, _), (1, _), (2, _), (3, _), (4, _), (5, _), (6, .bool false), (7, _), (8, _), (9, _), (10, _), (11, _), (12, _), (13, _), (14, _), (15, _), (16, _), (17, _), (18, _), (19, .bool true), (20, undef), (21, undef), (22, undef), (23, undef), (24, undef), (25, undef), (26, undef), (27, undef), (28, .bool true)]
          refine AR.last [0, 1, 2, 3, 4, 5, 6, 7, 8, 9, 10, 11, 12, 13, 14, 15, 16, 17, 18, 19, 20, 21, 22, 23, 24, 25, 26, 27, 28] [0, 1, 2, 3, 4, 5, 6, 7, 8, 9, 10, 11, 12, 13, 14, 15, 16, 17, 18, 19, 20, 21, 22, 23, 24, 25, 26, 27, 28] ⟨QOne.yes rfl rfl rfl (PV.move rfl), QOne.yes rfl rfl rfl (PV.move rfl), QOne.yes rfl rfl rfl (PV.indexAddr qr_tl26 qr_tz78 (congrArg (fun a => some (Value.slice a _ _)) hpe) rfl (by omega) (by omega)), QOne.yes rfl rfl rfl (PV.fieldAddr qr_tf78_0 rfl), QOne.yes rfl rfl rfl (PV.loadF rfl (fun w K hF => run_loadCell1 (j := (((x.1 : Nat) : Int)).toNat * 3 + 0) (v := I es[x.1].f) (hF (CellsF pe.1 pe.2 (edC es)) (.head _)) qr_ts3 (by rw [Int.toNat_natCast]; exact edC_at hk rfl))), QOne.yes rfl rfl rfl (PV.bin rfl rfl BinV.lss), QOne.yes rfl rfl rfl (PV.cast (congrArg Value.bool h3) (PV.move rfl)), QOne.yes rfl rfl rfl (PV.move rfl), QOne.yes rfl rfl rfl (PV.move rfl), QOne.yes rfl rfl rfl (PV.indexAddr qr_tl26 qr_tz78 (congrArg (fun a => some (Value.slice a _ _)) hpe) rfl (by omega) (by omega)), QOne.yes rfl rfl rfl (PV.fieldAddr qr_tf78_1 rfl), QOne.yes rfl rfl rfl (PV.loadF rfl (fun w K hF => run_loadCell1 (j := (((x.1 : Nat) : Int)).toNat * 3 + 1) (v := I es[x.1].t) (hF (CellsF pe.1 pe.2 (edC es)) (.head _)) qr_ts3 (by rw [Int.toNat_natCast]; exact edC_at hk rfl))), QOne.yes rfl rfl rfl (PV.move rfl), QOne.yes rfl rfl rfl (PV.move rfl), QOne.yes rfl rfl rfl (PV.indexAddr qr_tl26 qr_tz78 (congrArg (fun a => some (Value.slice a _ _)) hpe) rfl (by omega) (by omega)), QOne.yes rfl rfl rfl (PV.fieldAddr qr_tf78_0 rfl), QOne.yes rfl rfl rfl (PV.loadF rfl (fun w K hF => run_loadCell1 (j := (((x.1 : Nat) : Int)).toNat * 3 + 0) (v := I es[x.1].f) (hF (CellsF pe.1 pe.2 (edC es)) (.head _)) qr_ts3 (by rw [Int.toNat_natCast]; exact edC_at hk rfl))), QOne.yes rfl rfl rfl (PV.bin rfl rfl BinV.lss), QOne.yes rfl rfl rfl (PV.pickF rfl rfl), QOne.yes rfl rfl rfl (PV.cast (congrArg Value.bool h4) (PV.move rfl)), QOne.no rfl rfl rfl, QOne.no rfl rfl rfl, QOne.no rfl rfl rfl, QOne.no rfl rfl rfl, QOne.no rfl rfl rfl, QOne.no rfl rfl rfl, QOne.no rfl rfl rfl, QOne.no rfl rfl rfl, QOne.yes rfl rfl rfl (PV.pickT rfl rfl), trivial⟩ rfl rfl rfl ?_
          refine NX.sub (E' := [(0, _), (1, _), (5, _), (9, _), (10, _), (11, _), (12, _), (15, _), (16, _), (17, _), (18, _), (19, _), (20, _), (21, _), (22, _), (23, _), (24, _), (25, _), (26, _), (27, _), (28, _), (29, _), (30, _), (31, _), (32, _), (33, _), (34, _), (35, _), (36, _), (37, _), (38, _), (39, _), (40, _), (41, _), (42, _), (43, _)]) ⟨rfl, rfl, rfl, rfl, rfl, rfl, rfl, rfl, rfl, rfl, rfl, rfl, rfl, rfl, rfl, rfl, rfl, rfl, rfl, rfl, rfl, rfl, rfl, rfl, rfl, rfl, rfl, rfl, rfl, rfl, rfl, rfl, rfl, rfl, rfl, rfl, trivial⟩ ?_
          refine NX.seq ?_
          refine TR.condT rfl ?_
          refine TR.seq ?_
          refine TR.region ?_
          refine RL.assign rfl rfl rfl ?_
          refine RL.nil ?_
          refine NX.seq ?_
          refine TR.ret ?_
          refine NX.retThen ?_
          refine NX.retBlock ?_
          refine NX.retThen ?_
          refine NX.retThen ?_
          refine NX.retBlock ?_
          refine NX.retThen ?_
          have h9 := hx.2.1
          rw [hdk, sound1_bad hbad] at h9
          exact NX.ret1 () rfl rfl (by unfold soundE; rw [if_neg hbig, ← h9]) (fun w hw => (hw.to 0 [] 1 [] rfl))
      · skip
        have hbad : es[x.1].f < 0 ∨ es[x.1].t < es[x.1].f ∨ (s.length : Int) < es[x.1].t := .inl (of_decide_eq_true h3)
        apply AR.more [(0, _), (1, _), (2, _), (3, _), (4, _), (5, _), (6, .bool true), (7, undef), (8, undef), (9, undef), (10, undef), (11, undef), (12, undef), (13, undef), (14, undef), (15, undef), (16, undef), (17, undef), (18, .bool true), (19, .bool true), (20, undef), (21, undef), (22, undef), (23, undef), (24, undef), (25, undef), (26, undef), (27, undef), (28, .bool true)]
        refine AR.last [0, 1, 2, 3, 4, 5, 6, 7, 8, 9, 10, 11, 12, 13, 14, 15, 16, 17, 18, 19, 20, 21, 22, 23, 24, 25, 26, 27, 28] [0, 1, 2, 3, 4, 5, 6, 7, 8, 9, 10, 11, 12, 13, 14, 15, 16, 17, 18, 19, 20, 21, 22, 23, 24, 25, 26, 27, 28] ⟨QOne.yes rfl rfl rfl (PV.move rfl), QOne.yes rfl rfl rfl (PV.move rfl), QOne.yes rfl rfl rfl (PV.indexAddr qr_tl26 qr_tz78 (congrArg (fun a => some (Value.slice a _ _)) hpe) rfl (by omega) (by omega)), QOne.yes rfl rfl rfl (PV.fieldAddr qr_tf78_0 rfl), QOne.yes rfl rfl rfl (PV.loadF rfl (fun w K hF => run_loadCell1 (j := (((x.1 : Nat) : Int)).toNat * 3 + 0) (v := I es[x.1].f) (hF (CellsF pe.1 pe.2 (edC es)) (.head _)) qr_ts3 (by rw [Int.toNat_natCast]; exact edC_at hk rfl))), QOne.yes rfl rfl rfl (PV.bin rfl rfl BinV.lss), QOne.yes rfl rfl rfl (PV.cast (congrArg Value.bool h3) (PV.move rfl)), QOne.no rfl rfl rfl, QOne.no rfl rfl rfl, QOne.no rfl rfl rfl, QOne.no rfl rfl rfl, QOne.no rfl rfl rfl, QOne.no rfl rfl rfl, QOne.no rfl rfl rfl, QOne.no rfl rfl rfl, QOne.no rfl rfl rfl, QOne.no rfl rfl rfl, QOne.no rfl rfl rfl, QOne.yes rfl rfl rfl (PV.pickT rfl rfl), QOne.yes rfl rfl rfl (PV.move rfl), QOne.no rfl rfl rfl, QOne.no rfl rfl rfl, QOne.no rfl rfl rfl, QOne.no rfl rfl rfl, QOne.no rfl rfl rfl, QOne.no rfl rfl rfl, QOne.no rfl rfl rfl, QOne.no rfl rfl rfl, QOne.yes rfl rfl rfl (PV.pickT rfl rfl), trivial⟩ rfl rfl rfl ?_
        refine NX.sub (E' := [(0, _), (1, _), (5, _), (9, _), (10, _), (11, _), (12, _), (15, _), (16, _), (17, _), (18, _), (19, _), (20, _), (21, _), (22, _), (23, _), (24, _), (25, _), (26, _), (27, _), (28, _), (29, _), (30, _), (31, _), (32, _), (33, _), (34, _), (35, _), (36, _), (37, _), (38, _), (39, _), (40, _), (41, _), (42, _), (43, _)]) ⟨rfl, rfl, rfl, rfl, rfl, rfl, rfl, rfl, rfl, rfl, rfl, rfl, rfl, rfl, rfl, rfl, rfl, rfl, rfl, rfl, rfl, rfl, rfl, rfl, rfl, rfl, rfl, rfl, rfl, rfl, rfl, rfl, rfl, rfl, rfl, rfl, trivial⟩ ?_
        refine NX.seq ?_
        refine TR.condT rfl ?_
        refine TR.seq ?_
        refine TR.region ?_
        refine RL.assign rfl rfl rfl ?_
        refine RL.nil ?_
        refine NX.seq ?_
        refine TR.ret ?_
        refine NX.retThen ?_
        refine NX.retBlock ?_
        refine NX.retThen ?_
        refine NX.retThen ?_
        refine NX.retBlock ?_
        refine NX.retThen ?_
        have h9 := hx.2.1
        rw [hdk, sound1_bad hbad] at h9
        exact NX.ret1 () rfl rfl (by unfold soundE; rw [if_neg hbig, ← h9]) (fun w hw => (hw.to 0 [] 1 [] rfl))
    · skip
      have hk2 : x.1 = es.length := by have := of_decide_eq_false h2; have := hx.1; omega
      refine TR.exit ?_
      refine NX.exitThen ?_
      refine NX.exitThen ?_
      refine NX.exitHere ?_
      refine NX.seq ?_
      refine TR.seq ?_
      refine TR.region ?_
      refine RL.assign rfl rfl rfl ?_
      refine RL.nil ?_
      refine NX.seq ?_
      refine TR.ret ?_
      have h9 := hx.2.1
      rw [hk2, List.drop_length, sound1] at h9
      exact NX.ret1 () rfl rfl (by unfold soundE; rw [if_neg hbig, ← h9]) (fun w hw => (hw.to 0 [] 0 [] rfl))
set_option maxHeartbeats 1000000 in
theorem rapply_spec {s : List UInt8} {es : List Ed} {oa : Option Addr} {ca : Nat} {M : List HP} {F : List Fact} (ha : ArrF oa (edC es) ∈ F) (hl : es.length ≤ 4611686018427387904) (hsl : s.length ≤ 4611686018427387904) (hb : soundE s.length es = 0 → (applyGo s 0 es).length ≤ 140737488355328) : Ctr Try.prog 44 [S s, .slice oa es.length ca] M F Unit (fun _ => .tuple #[S (applyE s es).1, I (applyE s es).2]) (fun _ => M) (fun _ => F) := by
  refine Ctr.body Try.func44 rfl rfl ?_
  refine TR.seq ?_
  refine TR.region ?_
  refine RL.assign rfl rfl rfl ?_
  refine RL.assign rfl rfl rfl ?_
  refine RL.nil ?_
  refine NX.seq ?_
  refine TR.seq ?_
  refine TR.region ?_
  refine RL.move rfl rfl rfl ?_
  refine RL.move rfl rfl rfl ?_
  refine RL.call rfl rfl Try.call72 rfl (rvalid_spec ha hl hsl) (fun _ => ?_)
  refine RL.assign rfl rfl rfl ?_
  refine RL.nil ?_
  refine NX.seq ?_
  refine TR.seq ?_
  refine TR.seq ?_
  refine TR.region ?_
  refine RL.move rfl rfl rfl ?_
  refine RL.bin rfl rfl rfl BinV.neq rfl ?_
  refine RL.nil ?_
  refine NX.seq ?_
  refine TR.cond rfl (fun h1 => ?_) (fun h1 => ?_)
  · skip
    have hz : ¬ soundE s.length es = 0 := of_decide_eq_true h1
    refine TR.seq ?_
    refine TR.region ?_
    refine RL.move rfl rfl rfl ?_
    refine RL.assign rfl rfl rfl ?_
    refine RL.assign rfl rfl rfl ?_
    refine RL.nil ?_
    refine NX.seq ?_
    refine TR.ret ?_
    refine NX.retThen ?_
    exact NX.ret2 () rfl rfl rfl (by unfold applyE; rw [if_neg hz]) (fun w hw => (hw.to 0 [] 0 [] rfl))
  · skip
    have hz : soundE s.length es = 0 := by have := of_decide_eq_false h1; omega
    have hb1 := hb hz
    have hv := soundE_sound1 hz
    refine TR.skip ?_
    refine NX.seq ?_
    refine TR.seq ?_
    refine TR.region ?_
    refine RL.assign rfl rfl rfl ?_
    refine RL.nil ?_
    refine NX.seq ?_
    refine TR.seq ?_
    refine TR.region ?_
    refine RL.assign rfl rfl rfl ?_
    refine RL.nil ?_
    refine NX.seq ?_
    refine TR.seq ?_
    refine TR.seq ?_
    refine TR.region ?_
    refine RL.assign rfl rfl rfl ?_
    refine RL.nil ?_
    refine NX.seq ?_
    refine TR.block ?_
    refine TR.loopP (ι := ApX) (fun x => x.k ≤ es.length ∧ x.q ≤ s.length ∧ sound1 s.length x.q (es.drop x.k) = 0 ∧ x.B ++ applyGo s x.q (es.drop x.k) = applyGo s 0 es) (fun x => [(0, S s), (1, .slice oa es.length ca), (7, S x.B), (8, I (x.q : Nat)), (9, I (x.k : Nat))]) (fun x => M) (fun x => F) (fun x => es.length - x.k) ⟨0, 0, []⟩ ⟨Nat.zero_le _, Nat.zero_le _, hv, rfl⟩ ⟨rfl, rfl, rfl, rfl, rfl, trivial⟩ (fun w hw => (hw.to 0 [] 0 [] rfl)) (fun x hx => ?_)
    refine TR.seq ?_
    refine TR.seq ?_
    refine TR.region ?_
    refine RL.move rfl rfl rfl ?_
    refine RL.move rfl rfl rfl ?_
    refine RL.lenSlice rfl qr_tl26 rfl rfl ?_
    refine RL.bin rfl rfl rfl BinV.lss rfl ?_
    refine RL.nil ?_
    refine NX.seq ?_
    refine TR.cond rfl (fun h2 => ?_) (fun h2 => ?_)
    · skip
      have hk : x.k < es.length := by have := of_decide_eq_true h2; omega
      have hdk := List.drop_eq_getElem_cons hk
      obtain ⟨hq1, hs1, hg1⟩ := hx.2
      rw [hdk] at hs1 hg1
      obtain ⟨h1, h2, h3, h4, h5⟩ := sound1_cons hs1
      have hlen := congrArg List.length hg1
      simp only [applyGo, List.length_append] at hlen
      have hl2 : ((s.take es[x.k].f.toNat).drop x.q).length = es[x.k].f.toNat - x.q := by rw [List.length_drop, List.length_take]; omega
      refine TR.openP (open_arr (oa := oa) (xs := edC es) ha (fun e => by have h8 := edC_length es; rw [e] at h8; simp at h8; omega)) (fun pe hpe => ?_)
      refine TR.skip ?_
      refine NX.seq ?_
      refine TR.seq ?_
      refine TR.block ?_
      refine TR.seq ?_
      refine TR.sub (E' := [(0, _), (1, _), (7, _), (8, _), (9, _), (16, _), (17, _), (18, _), (19, _)]) ⟨rfl, rfl, rfl, rfl, rfl, rfl, rfl, rfl, rfl, trivial⟩ ?_
      refine TR.draw mixed ?_
      apply AR.more [(0, S x.B), (1, _), (2, _), (3, _), (4, _), (5, _), (6, _), (7, _), (8, S ((s.take es[x.k].f.toNat).drop (x.q : Int).toNat)), (9, S (x.B ++ (s.take es[x.k].f.toNat).drop (x.q : Int).toNat)), (10, _), (11, _), (12, _), (13, _), (14, S es[x.k].x), (15, _), (16, _)]
      refine AR.last [0, 1, 2, 3, 4, 5, 6, 7, 8, 9, 10, 11, 12, 13, 14, 15, 16] [0, 1, 2, 3, 4, 5, 6, 7, 8, 9, 10, 11, 12, 13, 14, 15, 16] ⟨QOne.yes rfl rfl rfl (PV.move rfl), QOne.yes rfl rfl rfl (PV.move rfl), QOne.yes rfl rfl rfl (PV.move rfl), QOne.yes rfl rfl rfl (PV.move rfl), QOne.yes rfl rfl rfl (PV.move rfl), QOne.yes rfl rfl rfl (PV.indexAddr qr_tl26 qr_tz78 (congrArg (fun a => some (Value.slice a _ _)) hpe) rfl (by omega) (by omega)), QOne.yes rfl rfl rfl (PV.fieldAddr qr_tf78_0 rfl), QOne.yes rfl rfl rfl (PV.loadF rfl (fun w K hF => run_loadCell1 (j := (((x.k : Nat) : Int)).toNat * 3 + 0) (v := I es[x.k].f) (hF (CellsF pe.1 pe.2 (edC es)) (.head _)) qr_ts3 (by rw [Int.toNat_natCast]; exact edC_at hk rfl))), QOne.yes rfl rfl rfl (PV.sliceS qr_tstr9 rfl rfl rfl (by omega) (by omega) (by omega)), QOne.yes rfl rfl rfl (PV.bin rfl rfl (BinV.addS (a := x.B) (b := (s.take es[x.k].f.toNat).drop (x.q : Int).toNat) (by rw [Int.toNat_natCast, hl2]; omega))), QOne.yes rfl rfl rfl (PV.move rfl), QOne.yes rfl rfl rfl (PV.move rfl), QOne.yes rfl rfl rfl (PV.indexAddr qr_tl26 qr_tz78 (congrArg (fun a => some (Value.slice a _ _)) hpe) rfl (by omega) (by omega)), QOne.yes rfl rfl rfl (PV.fieldAddr qr_tf78_2 rfl), QOne.yes rfl rfl rfl (PV.loadF rfl (fun w K hF => run_loadCell1 (j := (((x.k : Nat) : Int)).toNat * 3 + 2) (v := S es[x.k].x) (hF (CellsF pe.1 pe.2 (edC es)) (.head _)) qr_ts9 (by rw [Int.toNat_natCast]; exact edC_at hk rfl))), QOne.yes rfl rfl rfl (PV.bin rfl rfl (BinV.addS (a := x.B ++ (s.take es[x.k].f.toNat).drop (x.q : Int).toNat) (b := es[x.k].x) (by rw [List.length_append, Int.toNat_natCast, hl2]; omega))), QOne.yes rfl rfl rfl (PV.assign rfl), trivial⟩ rfl rfl rfl ?_
      refine NX.sub (E' := [(0, _), (1, _), (7, _), (8, _), (9, _), (16, _), (17, _), (18, _), (19, _), (22, _), (23, _), (24, _), (25, _), (26, _), (27, _), (28, _), (29, _), (30, _), (31, _), (32, _), (33, _), (34, _), (35, _), (36, _), (37, _)]) ⟨rfl, rfl, rfl, rfl, rfl, rfl, rfl, rfl, rfl, rfl, rfl, rfl, rfl, rfl, rfl, rfl, rfl, rfl, rfl, rfl, rfl, rfl, rfl, rfl, rfl, trivial⟩ ?_
      refine NX.seq ?_
      refine TR.region ?_
      refine RL.move rfl rfl rfl ?_
      refine RL.move rfl rfl rfl ?_
      refine RL.indexAddr rfl qr_tl26 qr_tz78 (congrArg (fun a => some (Value.slice a _ _)) hpe) rfl (by omega) (by omega) rfl ?_
      refine RL.fieldAddr rfl qr_tf78_1 rfl rfl ?_
      refine RL.loadF rfl rfl (fun w K hF => run_loadCell1 (j := (((x.k : Nat) : Int)).toNat * 3 + 1) (v := I es[x.k].t) (hF (CellsF pe.1 pe.2 (edC es)) (.head _)) qr_ts3 (by rw [Int.toNat_natCast]; exact edC_at hk rfl)) rfl ?_
      refine RL.assign rfl rfl rfl ?_
      refine RL.nil ?_
      refine NX.off ?_
      refine NX.seq ?_
      refine TR.region ?_
      refine RL.move rfl rfl rfl ?_
      refine RL.bin rfl rfl rfl (BinV.add _ rfl (by omega) (by omega)) rfl ?_
      refine RL.assign rfl rfl rfl ?_
      refine RL.nil ?_
      have e9 : ((x.B ++ (s.take es[x.k].f.toNat).drop (x.q : Int).toNat) ++ es[x.k].x) ++ applyGo s es[x.k].t.toNat (es.drop (x.k + 1)) = applyGo s 0 es := by
        rw [← hg1, applyGo, Int.toNat_natCast]; simp only [List.append_assoc]
      refine NX.roundP ⟨x.k + 1, es[x.k].t.toNat, (x.B ++ (s.take es[x.k].f.toNat).drop (x.q : Int).toNat) ++ es[x.k].x⟩ ⟨hk, (show es[x.k].t.toNat ≤ s.length by omega), (show sound1 _ ((es[x.k].t.toNat : Nat) : Int) _ = 0 by rw [Int.toNat_of_nonneg (by omega)]; exact h5), e9⟩ (by show _ - (x.k + 1) < _ - x.k; omega) ⟨rfl, rfl, rfl, congrArg (fun z => some (I z)) (show es[x.k].t = ((es[x.k].t.toNat : Nat) : Int) by omega), rfl, trivial⟩ (fun w hw => (hw.to 0 [] 1 [] rfl))
    · skip
      have hk2 : x.k = es.length := by have := of_decide_eq_false h2; have := hx.1; omega
      obtain ⟨hq1, hs1, hg1⟩ := hx.2
      rw [hk2, List.drop_length, applyGo] at hg1
      have hlen := congrArg List.length hg1
      rw [List.length_append, List.length_drop] at hlen
      refine TR.exit ?_
      refine NX.exitThen ?_
      refine NX.exitThen ?_
      refine NX.exitHere ?_
      refine NX.seq ?_
      refine TR.seq ?_
      refine TR.region ?_
      refine RL.move rfl rfl rfl ?_
      refine RL.move rfl rfl rfl ?_
      refine RL.move rfl rfl rfl ?_
      refine RL.sliceSfrom rfl qr_tstr9 rfl rfl  (by omega) (by omega) rfl ?_
      refine RL.bin rfl rfl rfl (BinV.addS (by rw [Int.toNat_natCast, List.length_drop]; omega)) rfl ?_
      refine RL.assign rfl rfl rfl ?_
      refine RL.assign rfl rfl rfl ?_
      refine RL.nil ?_
      refine NX.seq ?_
      refine TR.ret ?_
      exact NX.ret2 () rfl rfl rfl (by unfold applyE; rw [if_pos hz, ← hg1, Int.toNat_natCast]) (fun w hw => (hw.to 0 [] 0 [] rfl))
def partL (xs : List Int) (a n : Nat) : List Int := (xs.take (min xs.length (min a xs.length + n))).drop (min a xs.length)
theorem partL_ok {xs : List Int} {a n : Nat} (h : IntsOk xs) : IntsOk (partL xs a n) := ⟨by unfold partL; rw [List.length_drop, List.length_take]; have := h.1; omega, fun x hx => h.2 x (List.mem_of_mem_take (List.mem_of_mem_drop hx))⟩
theorem partL_len (xs : List Int) (a n : Nat) : (partL xs a n).length = min xs.length (min a xs.length + n) - min a xs.length := by unfold partL; rw [List.length_drop, List.length_take]; omega
theorem part_spec {xs : List Int} {a n ca : Nat} {oa : Option Addr} {M : List HP} {F : List Fact} (ha : ArrF oa (ints xs) ∈ F) (hc : xs.length ≤ ca) (hxs : xs.length ≤ 9223372036854775807) (ha1 : a ≤ 1000000) (hn1 : n ≤ 1000000) : Ctr Try.prog 43 [.slice oa xs.length ca, I (a : Nat), I (n : Nat)] M F (Option Addr × Nat) (fun z => .slice z.1 (partL xs a n).length z.2) (fun _ => M) (fun z => ArrF z.1 (ints (partL xs a n)) :: F) := by
  refine Ctr.body Try.func43 rfl rfl ?_
  refine TR.seq ?_
  refine TR.region ?_
  refine RL.assign rfl rfl rfl ?_
  refine RL.nil ?_
  refine NX.seq ?_
  refine TR.seq ?_
  refine TR.region ?_
  refine RL.move rfl rfl rfl ?_
  refine RL.move rfl rfl rfl ?_
  refine RL.lenSlice rfl qr_tl22 rfl rfl ?_
  refine RL.min rfl rfl rfl rfl ?_
  refine RL.assign rfl rfl rfl ?_
  refine RL.nil ?_
  refine NX.seq ?_
  refine TR.seq ?_
  refine TR.region ?_
  refine RL.move rfl rfl rfl ?_
  refine RL.move rfl rfl rfl ?_
  refine RL.move rfl rfl rfl ?_
  refine RL.lenSlice rfl qr_tl22 rfl rfl ?_
  refine RL.move rfl rfl rfl ?_
  refine RL.move rfl rfl rfl ?_
  refine RL.bin rfl rfl rfl (BinV.add (((min a xs.length) + n : Nat) : Int) (by omega) (by omega) (by omega)) rfl ?_
  refine RL.min rfl rfl rfl rfl ?_
  refine RL.sliceLH (l := (min a xs.length)) (h := (min xs.length (min a xs.length + n))) rfl qr_tl22 qr_tz3 rfl (.inr ⟨_, rfl, by show some (I (min (a : Int) xs.length)) = some (I (((min a xs.length) : Nat) : Int)); congr 2; omega⟩) (.inr ⟨_, rfl, by show some (I (min (xs.length : Int) _)) = some (I (((min xs.length (min a xs.length + n)) : Nat) : Int)); congr 2; omega⟩) (by omega) (by omega) rfl ?_
  refine RL.assign rfl rfl rfl ?_
  refine RL.nil ?_
  refine NX.seq ?_
  refine TR.ret ?_
  refine NX.ret1 (cutA oa (min a xs.length) ca 1, ca - (min a xs.length)) rfl rfl (by rw [partL_len]) (fun w hw => ?_)
  have h9 := hw.cutG (size := 1) (cap := ca) (n := xs.length) (min a xs.length) (min xs.length (min a xs.length + n)) (by omega) (by omega) hc (by simp [ints]) ha
  rw [Nat.mul_one, Nat.mul_one, ← ints_take, ← ints_drop] at h9
  exact h9
def charsT : List (List UInt8) := [[97], [98], [32], [10], [10], [195, 169], [195, 159], [226, 130, 172], [232, 170, 158], [240, 159, 152, 128], [240, 157, 132, 158], [120, 49], [13, 10], [40], [34]]
theorem charsT_len : charsT.length = 15 := by kernel_rfl
theorem charsT_short {k : Nat} (h : k < charsT.length) : charsT[k].length ≤ 4 := short_all (by kernel_rfl) h
theorem gtext_spec {xs : List Int} {oa : Option Addr} {ca : Nat} {M : List HP} {F : List Fact} (ha : ArrF oa (ints xs) ∈ F) (hxs : IntsOk xs) : Ctr Try.prog 42 [.slice oa xs.length ca] M F {l : List UInt8 // l.length ≤ 96} (fun l => S l.1) (fun _ => M) (fun _ => F) := by
  refine Ctr.body Try.func42 rfl rfl ?_
  refine TR.seq ?_
  refine TR.region ?_
  refine RL.assign rfl rfl rfl ?_
  refine RL.nil ?_
  refine NX.seq ?_
  refine TR.seq ?_
  refine TR.region ?_
  refine RL.buildSlice rfl rfl (qr_bs98_15_0_1_2_3_4_5_6_7_8_9_10_11_12_13_14 _ _ _ _ _ _ _ _ _ _ _ _ _ _ _) rfl (fun tb => ?_)
  refine RL.weak (fun w hw => (show St w (Box _ _ (strsV charsT) :: _) _ from hw).boxKeep) ?_
  refine RL.assign rfl rfl rfl ?_
  refine RL.nil ?_
  refine NX.seq ?_
  refine TR.seq ?_
  refine TR.region ?_
  refine RL.assign rfl rfl rfl ?_
  refine RL.nil ?_
  refine NX.seq ?_
  refine TR.seq ?_
  refine TR.seq ?_
  refine TR.region ?_
  refine RL.assign rfl rfl rfl ?_
  refine RL.nil ?_
  refine NX.seq ?_
  refine TR.block ?_
  refine TR.loopP (ι := Nat × List UInt8) (fun x => x.1 ≤ 24 ∧ x.2.length ≤ 4 * x.1) (fun x => [(0, .slice oa xs.length ca), (3, .slice (some ⟨tb, 0, none⟩) 15 15), (4, S x.2), (5, I (x.1 : Nat))]) (fun x => M) (fun x => CellsF tb 0 (strsV charsT) :: F) (fun x => 24 - x.1) (0, []) ⟨Nat.zero_le _, Nat.zero_le _⟩ ⟨rfl, rfl, rfl, rfl, trivial⟩ (fun w hw => (hw.to 0 [] 1 [0] rfl)) (fun x hx => ?_)
  refine TR.seq ?_
  refine TR.seq ?_
  refine TR.region ?_
  refine RL.move rfl rfl rfl ?_
  refine RL.move rfl rfl rfl ?_
  refine RL.lenSlice rfl qr_tl22 rfl rfl ?_
  refine RL.bin rfl rfl rfl BinV.lss rfl ?_
  refine RL.move rfl rfl rfl ?_
  refine RL.part (fun h1 => ?_) (fun h1 => ?_)
  · skip
    have hk : x.1 < xs.length := by have := of_decide_eq_true h1; omega
    refine RL.move rfl rfl rfl ?_
    refine RL.bin rfl rfl rfl BinV.lss rfl ?_
    refine RL.pickT rfl rfl rfl rfl ?_
    refine RL.nil ?_
    refine NX.seq ?_
    refine TR.cond rfl (fun h2 => ?_) (fun h2 => ?_)
    · skip
      have hi := of_decide_eq_true h2
      have hr := hxs.2 _ (List.getElem_mem hk)
      refine TR.openP (open_arr (oa := oa) (xs := ints xs) (.tail _ ha) (ints_ne (by omega))) (fun px hpx => ?_)
      refine TR.skip ?_
      refine NX.seq ?_
      refine TR.seq ?_
      refine TR.block ?_
      refine TR.region ?_
      refine RL.move rfl rfl rfl ?_
      refine RL.move rfl rfl rfl ?_
      refine RL.move rfl rfl rfl ?_
      refine RL.move rfl rfl rfl ?_
      refine RL.indexAddr rfl qr_tl22 qr_tz3 (congrArg (fun a => some (Value.slice a _ _)) hpx) rfl (by omega) (by omega) rfl ?_
      refine RL.loadF rfl rfl (fun w K hF => run_loadCell1 (j := ((x.1 : Nat) : Int).toNat * 1) (v := I xs[x.1]) (hF (CellsF px.1 px.2 (ints xs)) (.head _)) qr_ts3 (by rw [Nat.mul_one, Int.toNat_natCast]; exact ints_get hk)) rfl ?_
      refine RL.call rfl rfl Try.call34 rfl (around_spec (by decide) hr.1 hr.2) (fun r => ?_)
      obtain ⟨rv, rh⟩ := r
      obtain ⟨c, rfl⟩ : ∃ c : Nat, rv = c := ⟨rv.toNat, by omega⟩
      dsimp only
      have hcl : c < charsT.length := by rw [charsT_len]; omega
      have hcs := charsT_short hcl
      refine RL.indexAddr rfl qr_tl98 qr_tz9 rfl rfl (by omega) (by omega) rfl ?_
      refine RL.loadF rfl rfl (fun w K hF => run_loadCell1 (j := ((c : Nat) : Int).toNat * 1) (v := S charsT[c]) (hF (CellsF tb 0 (strsV charsT)) (.tail _ (.head _))) qr_ts9 (strs_get hcl)) rfl ?_
      refine RL.bin rfl rfl rfl (BinV.addS (by have := hx.2; omega)) rfl ?_
      refine RL.assign rfl rfl rfl ?_
      refine RL.nil ?_
      refine NX.off ?_
      refine NX.seq ?_
      refine TR.region ?_
      refine RL.move rfl rfl rfl ?_
      refine RL.bin rfl rfl rfl (BinV.add _ rfl (by omega) (by omega)) rfl ?_
      refine RL.assign rfl rfl rfl ?_
      refine RL.nil ?_
      refine NX.roundP (x.1 + 1, x.2 ++ charsT[c]) ⟨by show x.1 + 1 ≤ 24; omega, by show (x.2 ++ charsT[c]).length ≤ 4 * (x.1 + 1); have := hx.2; rw [List.length_append]; omega⟩ (by show 24 - (x.1 + 1) < 24 - x.1; omega) ⟨rfl, rfl, rfl, rfl, trivial⟩ (fun w hw => (hw.to 0 [] 2 [1] rfl))
    · skip
      refine TR.exit ?_
      refine NX.exitThen ?_
      refine NX.exitThen ?_
      refine NX.exitHere ?_
      refine NX.seq ?_
      refine TR.seq ?_
      refine TR.region ?_
      refine RL.move rfl rfl rfl ?_
      refine RL.assign rfl rfl rfl ?_
      refine RL.nil ?_
      refine NX.seq ?_
      refine TR.ret ?_
      exact NX.ret1 (⟨x.2, by have := hx.1; have := hx.2; omega⟩ : {l : List UInt8 // l.length ≤ 96}) rfl rfl rfl (fun w hw => (hw.to 0 [] 1 [] rfl))
  · skip
    refine RL.skip rfl rfl rfl ?_
    refine RL.skip rfl rfl rfl ?_
    refine RL.pickF rfl rfl rfl rfl ?_
    refine RL.nil ?_
    refine NX.seq ?_
    refine TR.condF rfl ?_
    refine TR.exit ?_
    refine NX.exitThen ?_
    refine NX.exitThen ?_
    refine NX.exitHere ?_
    refine NX.seq ?_
    refine TR.seq ?_
    refine TR.region ?_
    refine RL.move rfl rfl rfl ?_
    refine RL.assign rfl rfl rfl ?_
    refine RL.nil ?_
    refine NX.seq ?_
    refine TR.ret ?_
    exact NX.ret1 (⟨x.2, by have := hx.1; have := hx.2; omega⟩ : {l : List UInt8 // l.length ≤ 96}) rfl rfl rfl (fun w hw => (hw.to 0 [] 1 [] rfl))
end Go.Proofs.Ytkdeopioelocnaa

namespace Go.Proofs.Ytkdeopioelocnaa
open Go.GL
set_option linter.unusedVariables false
theorem qs_bs23_1_0 (x00 : Int) (x01 : Option Addr) (x01n x01c : Nat) : BuildSV Try.prog 23 39 1 [(0, .agg #[.int .i64 x00, .slice x01 x01n x01c])] [.int .i64 x00, .slice x01 x01n x01c] := fun w => by kernel_rfl
theorem qs_bs28_1_0 (x000 : Int) (x001 : Int) (x010 : Int) (x011 : Int) (x02 : List UInt8) : BuildSV Try.prog 28 63 1 [(0, .agg #[.int .i64 x000, .int .i64 x001, .int .i64 x010, .int .i64 x011, S x02])] [.int .i64 x000, .int .i64 x001, .int .i64 x010, .int .i64 x011, S x02] := fun w => by kernel_rfl
theorem qs_bv39_0_1 (x0 : Int) (x1 : Option Addr) (x1n x1c : Nat) : BuildV Try.prog 39 [(0, .int .i64 x0), (1, .slice x1 x1n x1c)] (.agg #[.int .i64 x0, .slice x1 x1n x1c]) := fun w => by kernel_rfl
theorem qs_bv63_0_1_2 (x00 : Int) (x01 : Int) (x10 : Int) (x11 : Int) (x2 : List UInt8) : BuildV Try.prog 63 [(0, .agg #[.int .i64 x00, .int .i64 x01]), (1, .agg #[.int .i64 x10, .int .i64 x11]), (2, S x2)] (.agg #[.int .i64 x00, .int .i64 x01, .int .i64 x10, .int .i64 x11, S x2]) := fun w => by kernel_rfl
theorem qs_ni23 : noInt Try.prog 23 = true := by kernel_rfl
theorem qs_ni28 : noInt Try.prog 28 = true := by kernel_rfl
theorem qs_ta61 : tyAgg Try.prog 61 2 = true := by kernel_rfl
theorem qs_te39 : tyElem Try.prog 39 2 32 = true := by kernel_rfl
theorem qs_te63 : tyElem Try.prog 63 5 48 = true := by kernel_rfl
theorem qs_tf78_0 : fieldOff Try.prog 78 0 0 = true := by kernel_rfl
theorem qs_tf78_1 : fieldOff Try.prog 78 1 1 = true := by kernel_rfl
theorem qs_tf78_2 : fieldOff Try.prog 78 2 2 = true := by kernel_rfl
theorem qs_tl22 : tySlice Try.prog 22 3 = true := by kernel_rfl
theorem qs_tl23 : tySlice Try.prog 23 39 = true := by kernel_rfl
theorem qs_tl26 : tySlice Try.prog 26 78 = true := by kernel_rfl
theorem qs_tl28 : tySlice Try.prog 28 63 = true := by kernel_rfl
theorem qs_ts3 : tyScalar Try.prog 3 = true := by kernel_rfl
theorem qs_ts9 : tyScalar Try.prog 9 = true := by kernel_rfl
theorem qs_tstr9 : tyStr Try.prog 9 = true := by kernel_rfl
theorem qs_tz61 : tySize Try.prog 61 2 = true := by kernel_rfl
theorem qs_tz78 : tySize Try.prog 78 3 = true := by kernel_rfl
set_option maxHeartbeats 1000000 in
theorem positions_spec {tx : List UInt8} {es : List Ed} {oa : Option Addr} {ca : Nat} {M : List HP} {F : List Fact} (ha : ArrF oa (edC es) ∈ F) (hl : es.length ≤ 1000000) (htl : tx.length ≤ 1099511627776) (hi64 : ∀ e, e ∈ es → I64 e.f ∧ I64 e.t) : Ctr Try.prog 12 [S tx, .slice oa es.length ca] M F (Option Addr × Nat) (fun z => .tuple #[.slice z.1 (posE tx es []).1.length z.2, .bool (posE tx es []).2]) (fun _ => M) (fun z => ArrF z.1 (peC (posE tx es []).1) :: F) := by
  refine Ctr.body Try.func12 rfl rfl ?_
  refine TR.seq ?_
  refine TR.region ?_
  refine RL.assign rfl rfl rfl ?_
  refine RL.assign rfl rfl rfl ?_
  refine RL.nil ?_
  refine NX.seq ?_
  refine TR.seq ?_
  refine TR.region ?_
  refine RL.assign rfl rfl rfl ?_
  refine RL.weak (fun w hw => OwnSl.nil_new 63 5 hw) ?_
  refine RL.nil ?_
  refine NX.seq ?_
  refine TR.seq ?_
  refine TR.seq ?_
  refine TR.region ?_
  refine RL.assign rfl rfl rfl ?_
  refine RL.nil ?_
  refine NX.seq ?_
  refine TR.block ?_
  refine TR.loopP (ι := PsX) (fun x => x.k ≤ es.length ∧ posE tx (es.drop x.k) x.l = posE tx es [] ∧ x.l.length = x.k) (fun x => [(0, S tx), (1, .slice oa es.length ca), (6, .slice x.oa x.l.length x.c), (7, I (x.k : Nat))]) (fun x => OwnSl 63 5 x.oa x.l.length x.c (peC x.l) :: M) (fun x => F) (fun x => es.length - x.k) ⟨0, [], none, 0⟩ ⟨Nat.zero_le _, rfl, rfl⟩ ⟨rfl, rfl, rfl, rfl, trivial⟩ (fun w hw => (hw.to 1 [0] 0 [] rfl)) (fun x hx => ?_)
  refine TR.seq ?_
  refine TR.seq ?_
  refine TR.region ?_
  refine RL.move rfl rfl rfl ?_
  refine RL.move rfl rfl rfl ?_
  refine RL.lenSlice rfl qs_tl26 rfl rfl ?_
  refine RL.bin rfl rfl rfl BinV.lss rfl ?_
  refine RL.nil ?_
  refine NX.seq ?_
  refine TR.cond rfl (fun h1 => ?_) (fun h1 => ?_)
  · skip
    have hk : x.k < es.length := by have := of_decide_eq_true h1; omega
    have hdk := List.drop_eq_getElem_cons hk
    refine TR.openP (open_arr (oa := oa) (xs := edC es) ha (fun e => by have h8 := edC_length es; rw [e] at h8; simp at h8; omega)) (fun pe hpe => ?_)
    refine TR.skip ?_
    refine NX.seq ?_
    refine TR.seq ?_
    refine TR.block ?_
    refine TR.seq ?_
    refine TR.region ?_
    refine RL.move rfl rfl rfl ?_
    refine RL.move rfl rfl rfl ?_
    refine RL.move rfl rfl rfl ?_
    refine RL.indexAddr rfl qs_tl26 qs_tz78 (congrArg (fun a => some (Value.slice a _ _)) hpe) rfl (by omega) (by omega) rfl ?_
    refine RL.fieldAddr rfl qs_tf78_0 rfl rfl ?_
    refine RL.loadF rfl rfl (fun w K hF => run_loadCell1 (j := (((x.k : Nat) : Int)).toNat * 3 + 0) (v := I es[x.k].f) (hF (CellsF pe.1 pe.2 (edC es)) (.head _)) qs_ts3 (by rw [Int.toNat_natCast]; exact edC_at hk rfl)) rfl ?_
    refine RL.call rfl rfl Try.call46 rfl (atp_spec (tx := tx) (off := es[x.k].f) htl (hi64 _ (List.getElem_mem hk)).1) (fun _ => ?_)
    refine RL.move rfl rfl rfl ?_
    refine RL.extract rfl rfl rfl rfl ?_
    refine RL.extract rfl rfl rfl rfl ?_
    refine RL.allocA rfl (Try.zeroValue61) rfl (fun b2 => ?_)
    refine RL.storeA 0 rfl rfl rfl rfl qs_tz61 rfl rfl ?_
    refine RL.assign rfl rfl rfl ?_
    refine RL.nil ?_
    refine NX.seq ?_
    refine TR.seq ?_
    refine TR.region ?_
    refine RL.move rfl rfl rfl ?_
    refine RL.move rfl rfl rfl ?_
    refine RL.move rfl rfl rfl ?_
    refine RL.indexAddr rfl qs_tl26 qs_tz78 (congrArg (fun a => some (Value.slice a _ _)) hpe) rfl (by omega) (by omega) rfl ?_
    refine RL.fieldAddr rfl qs_tf78_1 rfl rfl ?_
    refine RL.loadF rfl rfl (fun w K hF => run_loadCell1 (j := (((x.k : Nat) : Int)).toNat * 3 + 1) (v := I es[x.k].t) (hF (CellsF pe.1 pe.2 (edC es)) (.head _)) qs_ts3 (by rw [Int.toNat_natCast]; exact edC_at hk rfl)) rfl ?_
    refine RL.call rfl rfl Try.call46 rfl (atp_spec (tx := tx) (off := es[x.k].t) htl (hi64 _ (List.getElem_mem hk)).2) (fun _ => ?_)
    refine RL.move rfl rfl rfl ?_
    refine RL.extract rfl rfl rfl rfl ?_
    refine RL.extract rfl rfl rfl rfl ?_
    refine RL.allocA rfl (Try.zeroValue61) rfl (fun b3 => ?_)
    refine RL.storeA 0 rfl rfl rfl rfl qs_tz61 rfl rfl ?_
    refine RL.assign rfl rfl rfl ?_
    refine RL.nil ?_
    refine NX.seq ?_
    refine TR.seq ?_
    refine TR.seq ?_
    refine TR.region ?_
    refine RL.move rfl rfl rfl ?_
    refine RL.bin rfl rfl rfl BinV.neq rfl ?_
    refine RL.move rfl rfl rfl ?_
    refine RL.part (fun h4 => ?_) (fun h4 => ?_)
    · skip
      have hbad : (atP tx es[x.k].f).2 ≠ 0 ∨ (atP tx es[x.k].t).2 ≠ 0 := .inl (of_decide_eq_true h4)
      refine RL.skip rfl rfl rfl ?_
      refine RL.skip rfl rfl rfl ?_
      refine RL.pickT rfl rfl rfl rfl ?_
      refine RL.nil ?_
      refine NX.seq ?_
      refine TR.condT rfl ?_
      refine TR.seq ?_
      refine TR.region ?_
      refine RL.assign rfl rfl rfl ?_
      refine RL.assign rfl rfl rfl ?_
      refine RL.nil ?_
      refine NX.seq ?_
      refine TR.ret ?_
      refine NX.retThen ?_
      refine NX.retBlock ?_
      refine NX.retThen ?_
      refine NX.retThen ?_
      refine NX.retBlock ?_
      refine NX.retThen ?_
      have hpn : posE tx es [] = ([], false) := by rw [← hx.2.1, hdk, posE, if_pos hbad]
      refine NX.ret2 ((none, 0) : Option Addr × Nat) rfl rfl rfl (by rw [hpn]; rfl) (fun w hw => ?_)
      rw [hpn]
      exact ((hw.to 3 [] 1 [] rfl) : St w M F).derive (ψ := ArrF none (peC [])) (fun K hf => .inl rfl)
    · skip
      have hA := of_decide_eq_false h4
      refine RL.move rfl rfl rfl ?_
      refine RL.bin rfl rfl rfl BinV.neq rfl ?_
      refine RL.pickF rfl rfl rfl rfl ?_
      refine RL.nil ?_
      refine NX.seq ?_
      refine TR.cond rfl (fun h5 => ?_) (fun h5 => ?_)
      · skip
        have hbad : (atP tx es[x.k].f).2 ≠ 0 ∨ (atP tx es[x.k].t).2 ≠ 0 := .inr (of_decide_eq_true h5)
        refine TR.seq ?_
        refine TR.region ?_
        refine RL.assign rfl rfl rfl ?_
        refine RL.assign rfl rfl rfl ?_
        refine RL.nil ?_
        refine NX.seq ?_
        refine TR.ret ?_
        refine NX.retThen ?_
        refine NX.retBlock ?_
        refine NX.retThen ?_
        refine NX.retThen ?_
        refine NX.retBlock ?_
        refine NX.retThen ?_
        have hpn : posE tx es [] = ([], false) := by rw [← hx.2.1, hdk, posE, if_pos hbad]
        refine NX.ret2 ((none, 0) : Option Addr × Nat) rfl rfl rfl (by rw [hpn]; rfl) (fun w hw => ?_)
        rw [hpn]
        exact ((hw.to 3 [] 1 [] rfl) : St w M F).derive (ψ := ArrF none (peC [])) (fun K hf => .inl rfl)
      · skip
        have hok : ¬ ((atP tx es[x.k].f).2 ≠ 0 ∨ (atP tx es[x.k].t).2 ≠ 0) := by have := of_decide_eq_false h5; rintro (h | h) <;> contradiction
        refine TR.skip ?_
        refine NX.seq ?_
        refine TR.sub (E' := [(0, _), (1, _), (6, _), (7, _), (8, _), (9, _), (10, _), (11, _), (12, _), (13, _), (14, _), (15, _), (18, _), (19, _), (20, _), (21, _), (22, _), (23, _), (24, _), (25, _), (26, _), (27, _), (28, _), (29, _), (30, _), (31, _), (32, _), (33, _), (34, _), (35, _), (36, _), (37, _), (38, _), (39, _), (40, _), (41, _), (42, _), (43, _)]) ⟨rfl, rfl, rfl, rfl, rfl, rfl, rfl, rfl, rfl, rfl, rfl, rfl, rfl, rfl, rfl, rfl, rfl, rfl, rfl, rfl, rfl, rfl, rfl, rfl, rfl, rfl, rfl, rfl, rfl, rfl, rfl, rfl, rfl, rfl, rfl, rfl, rfl, rfl, trivial⟩ ?_
        refine TR.draw mixed ?_
        apply AR.more [(0, _), (1, _), (2, _), (3, _), (4, _), (5, _), (6, _), (7, _), (8, _)]
        refine AR.eff [0, 1, 2, 3, 4, 5, 6, 7, 8] 9 [0, 1, 2, 3, 4, 5, 6, 7, 8, 9, 10, 11] ⟨QOne.yes rfl rfl rfl (PV.move rfl), QOne.yes rfl rfl rfl (PV.loadA 1 rfl rfl qs_ta61), QOne.yes rfl rfl rfl (PV.loadA 0 rfl rfl qs_ta61), QOne.yes rfl rfl rfl (PV.move rfl), QOne.yes rfl rfl rfl (PV.move rfl), QOne.yes rfl rfl rfl (PV.indexAddr qs_tl26 qs_tz78 (congrArg (fun a => some (Value.slice a _ _)) hpe) rfl (by omega) (by omega)), QOne.yes rfl rfl rfl (PV.fieldAddr qs_tf78_2 rfl), QOne.yes rfl rfl rfl (PV.loadF rfl (fun w K hF => run_loadCell1 (j := (((x.k : Nat) : Int)).toNat * 3 + 2) (v := S es[x.k].x) (hF (CellsF pe.1 pe.2 (edC es)) (.head _)) qs_ts9 (by rw [Int.toNat_natCast]; exact edC_at hk rfl))), QOne.yes rfl rfl rfl (PV.build rfl (qs_bv63_0_1_2 _ _ _ _ _)), trivial⟩ rfl rfl rfl rfl rfl rfl rfl (EV.buildSlice rfl (qs_bs28_1_0 _ _ _ _ _)) (fun b6 => ?_)
        refine AR.done [8, 1, 2, 7, 6, 5, 3, 4] rfl ?_
        refine AR.eff [0] 10 [0, 1, 2, 3, 4, 5, 6, 7, 8, 9, 10, 11] ⟨QOne.yes rfl rfl rfl (PV.move rfl), trivial⟩ rfl rfl rfl rfl rfl rfl rfl (EV.ofGV (GV.append (j := 3) qs_tl28 qs_ni28 qs_te63 rfl rfl rfl (src_box (i := 0) rfl rfl rfl) (by omega) (by omega))) (fun y => ?_)
        refine AR.done [0] rfl ?_
        apply AR.more [(11, _)]
        refine AR.last [11] [0, 1, 2, 3, 4, 5, 6, 7, 8, 9, 10, 11] ⟨QOne.yes rfl rfl rfl (PV.assign rfl), trivial⟩ rfl rfl rfl ?_
        refine NX.sub (E' := [(0, _), (1, _), (6, _), (7, _), (8, _), (9, _), (10, _), (11, _), (12, _), (13, _), (14, _), (15, _), (18, _), (19, _), (20, _), (21, _), (22, _), (23, _), (24, _), (25, _), (26, _), (27, _), (28, _), (29, _), (30, _), (31, _), (32, _), (33, _), (34, _), (35, _), (36, _), (37, _), (38, _), (39, _), (40, _), (41, _), (42, _), (43, _), (44, _), (45, _), (46, _), (47, _), (48, _), (49, _), (50, _), (51, _), (52, _), (53, _), (54, _)]) ⟨rfl, rfl, rfl, rfl, rfl, rfl, rfl, rfl, rfl, rfl, rfl, rfl, rfl, rfl, rfl, rfl, rfl, rfl, rfl, rfl, rfl, rfl, rfl, rfl, rfl, rfl, rfl, rfl, rfl, rfl, rfl, rfl, rfl, rfl, rfl, rfl, rfl, rfl, rfl, rfl, rfl, rfl, rfl, rfl, rfl, rfl, rfl, rfl, rfl, trivial⟩ ?_
        refine NX.off ?_
        refine NX.seq ?_
        refine TR.region ?_
        refine RL.move rfl rfl rfl ?_
        refine RL.bin rfl rfl rfl (BinV.add _ rfl (by omega) (by omega)) rfl ?_
        refine RL.assign rfl rfl rfl ?_
        refine RL.nil ?_
        refine NX.roundP ⟨x.k + 1, x.l ++ [posOf tx es[x.k]], y.1, y.2⟩ ⟨hk, by rw [← hx.2.1, hdk, posE, if_neg hok], by show (x.l ++ [_]).length = x.k + 1; rw [List.length_append]; show x.l.length + 1 = _; omega⟩ (by show _ - (x.k + 1) < _ - x.k; omega) ⟨rfl, rfl, ?_, rfl, trivial⟩ (fun w hw => ?_)
        · show some (Value.slice y.1 (x.l.length + 1) y.2) = some (Value.slice y.1 (x.l ++ [_]).length y.2)
          rw [List.length_append]; rfl
        · have h9 := (hw.to 4 [3] 1 [] rfl)
          show St w (OwnSl 63 5 y.1 (x.l ++ [_]).length y.2 (peC (x.l ++ [_])) :: M) _
          rw [List.length_append, show ∀ a b : List PE, peC (a ++ b) = peC a ++ peC b from peC_append]
          exact h9
  · skip
    have hk2 : x.k = es.length := by have := of_decide_eq_false h1; have := hx.1; omega
    refine TR.exit ?_
    refine NX.exitThen ?_
    refine NX.exitThen ?_
    refine NX.exitHere ?_
    refine NX.seq ?_
    refine TR.seq ?_
    refine TR.region ?_
    refine RL.move rfl rfl rfl ?_
    refine RL.assign rfl rfl rfl ?_
    refine RL.assign rfl rfl rfl ?_
    refine RL.nil ?_
    refine NX.seq ?_
    refine TR.ret ?_
    have hpn : posE tx es [] = (x.l, true) := by rw [← hx.2.1, hk2, List.drop_length]; rfl
    refine NX.ret2 ((x.oa, x.c) : Option Addr × Nat) rfl rfl rfl (by rw [hpn]) (fun w hw => ?_)
    rw [hpn]
    exact ((hw.to 1 [0] 0 [] rfl) : St w _ _).keepSl
set_option maxHeartbeats 2000000 in
theorem chain_spec {xs : List Int} {oa : Option Addr} {ca most : Nat} {M : List HP} {F : List Fact} (ha : ArrF oa (ints xs) ∈ F) (hc : xs.length ≤ ca) (hxs : IntsOk xs) (hm8 : most ≤ 8) : Ctr Try.prog 10 [.slice oa xs.length ca, I (most : Nat)] M F {z : ChZ // z.t.length ≤ 96 ∧ z.rows.length ≤ 8 ∧ ChOk ⟨0, [(z.t, [])], []⟩ (z.rows.map HeR.p)} (fun z => .tuple #[S z.1.t, .slice z.1.oa z.1.rows.length z.1.c]) (fun _ => M) (fun z => ArrF z.1.oa (heC z.1.rows) :: HeF z.1.rows :: F) := by
  refine Ctr.body Try.func10 rfl rfl ?_
  refine TR.seq ?_
  refine TR.region ?_
  refine RL.assign rfl rfl rfl ?_
  refine RL.assign rfl rfl rfl ?_
  refine RL.nil ?_
  refine NX.seq ?_
  refine TR.seq ?_
  refine TR.region ?_
  refine RL.move rfl rfl rfl ?_
  refine RL.call rfl rfl Try.call43 rfl (part_spec (xs := xs) (a := 0) (n := 12) ha hc hxs.1 (by decide) (by decide)) (fun z0 => ?_)
  refine RL.call rfl rfl Try.call42 rfl (gtext_spec (xs := partL xs 0 12) (.head _) (partL_ok hxs)) (fun q0 => ?_)
  refine RL.assign rfl rfl rfl ?_
  refine RL.nil ?_
  refine NX.seq ?_
  refine TR.seq ?_
  refine TR.region ?_
  refine RL.move rfl rfl rfl ?_
  refine RL.assign rfl rfl rfl ?_
  refine RL.nil ?_
  refine NX.seq ?_
  refine TR.seq ?_
  refine TR.region ?_
  refine RL.assign rfl rfl rfl ?_
  refine RL.weak (fun w hw => (OwnSl.nil_new 39 2 hw).derive (ψ := HeF []) (fun K hf => fun r hr => absurd hr (by simp))) ?_
  refine RL.nil ?_
  refine NX.seq ?_
  refine TR.seq ?_
  refine TR.seq ?_
  refine TR.region ?_
  refine RL.assign rfl rfl rfl ?_
  refine RL.nil ?_
  refine NX.seq ?_
  refine TR.block ?_
  refine TR.loopP (ι := ChX) (fun x => x.rows.length ≤ most ∧ ChOk (⟨0, [(q0.1, [])], []⟩ : Hs) (x.rows.map HeR.p) ∧ x.h = endH (⟨0, [(q0.1, [])], []⟩ : Hs) (x.rows.map HeR.p) ∧ x.h.v = x.rows.length ∧ x.h.tx.length ≤ 4096) (fun x => [(0, .slice oa xs.length ca), (1, I (most : Nat)), (6, S q0.1), (7, S x.h.tx), (8, .slice x.oa x.rows.length x.c), (9, I (x.rows.length : Nat))]) (fun x => OwnSl 39 2 x.oa x.rows.length x.c (heC x.rows) :: M) (fun x => HeF x.rows :: F) (fun x => most - x.rows.length) ⟨[], (⟨0, [(q0.1, [])], []⟩ : Hs), none, 0⟩ ⟨Nat.zero_le _, trivial, rfl, rfl, by have := q0.2; show q0.1.length ≤ 4096; omega⟩ ⟨rfl, rfl, rfl, rfl, rfl, rfl, trivial⟩ (fun w hw => (hw.to 1 [0] 2 [0] rfl)) (fun x hx => ?_)
  refine TR.seq ?_
  refine TR.seq ?_
  refine TR.region ?_
  refine RL.move rfl rfl rfl ?_
  refine RL.move rfl rfl rfl ?_
  refine RL.bin rfl rfl rfl BinV.lss rfl ?_
  refine RL.move rfl rfl rfl ?_
  refine RL.part (fun h1 => ?_) (fun h1 => ?_)
  · skip
    have hi := of_decide_eq_true h1
    have hxr := hx.1
    refine RL.move rfl rfl rfl ?_
    refine RL.bin rfl rfl rfl (BinV.mul ((10 * x.rows.length : Nat) : Int) (by omega) (by omega) (by omega)) rfl ?_
    refine RL.bin rfl rfl rfl (BinV.add _ rfl (by omega) (by omega)) rfl ?_
    refine RL.move rfl rfl rfl ?_
    refine RL.lenSlice rfl qs_tl22 rfl rfl ?_
    refine RL.bin rfl rfl rfl BinV.lss rfl ?_
    refine RL.pickT rfl rfl rfl rfl ?_
    refine RL.nil ?_
    refine NX.seq ?_
    refine TR.cond rfl (fun h2 => ?_) (fun h2 => ?_)
    · skip
      refine TR.skip ?_
      refine NX.seq ?_
      refine TR.seq ?_
      refine TR.block ?_
      refine TR.seq ?_
      have htl : x.h.tx.length ≤ 4096 := hx.2.2.2.2
      refine TR.region ?_
      refine RL.move rfl rfl rfl ?_
      refine RL.move rfl rfl rfl ?_
      refine RL.move rfl rfl rfl ?_
      refine RL.bin rfl rfl rfl (BinV.mul ((10 * x.rows.length : Nat) : Int) (by omega) (by omega) (by omega)) rfl ?_
      refine RL.bin rfl rfl rfl (BinV.add ((12 + 10 * x.rows.length : Nat) : Int) (by omega) (by omega) (by omega)) rfl ?_
      refine RL.call rfl rfl Try.call43 rfl (part_spec (xs := xs) (a := 12 + 10 * x.rows.length) (n := 16) (.tail _ ha) hc hxs.1 (by omega) (by decide)) (fun z1 => ?_)
      refine RL.call rfl rfl Try.call11 rfl (gEdits_spec (tx := x.h.tx) (xs := partL xs (12 + 10 * x.rows.length) 16) (.head _) (partL_ok hxs) (by omega)) (fun z => ?_)
      refine RL.assign rfl rfl rfl ?_
      refine RL.nil ?_
      refine NX.seq ?_
      refine TR.seq ?_
      refine TR.region ?_
      refine RL.move rfl rfl rfl ?_
      refine RL.move rfl rfl rfl ?_
      refine RL.call rfl rfl Try.call12 rfl (positions_spec (tx := x.h.tx) (es := z.1.es) (.head _) (by have := z.2.1; omega) (by omega) (fun e he => sound1_in (by omega) (soundE_sound1 z.2.sound) he)) (fun zp => ?_)
      refine RL.move rfl rfl rfl ?_
      refine RL.extract rfl rfl rfl rfl ?_
      refine RL.extract rfl rfl rfl rfl ?_
      refine RL.assign rfl rfl rfl ?_
      refine RL.assign rfl rfl rfl ?_
      refine RL.nil ?_
      refine NX.seq ?_
      refine TR.seq ?_
      refine TR.region ?_
      refine RL.move rfl rfl rfl ?_
      refine RL.move rfl rfl rfl ?_
      refine RL.call rfl rfl Try.call44 rfl (rapply_spec (s := x.h.tx) (es := z.1.es) (.tail _ (.head _)) (by have := z.2.1; omega) (by omega) (fun _ => by have := z.2.len; omega)) (fun _ => ?_)
      refine RL.move rfl rfl rfl ?_
      refine RL.extract rfl rfl rfl rfl ?_
      refine RL.extract rfl rfl rfl rfl ?_
      refine RL.assign rfl rfl rfl ?_
      refine RL.assign rfl rfl rfl ?_
      refine RL.nil ?_
      refine NX.seq ?_
      refine TR.seq ?_
      refine TR.seq ?_
      rw [applyE_ok z.2.sound]
      refine TR.region ?_
      refine RL.move rfl rfl rfl ?_
      refine RL.not rfl rfl rfl ?_
      refine RL.move rfl rfl rfl ?_
      refine RL.part (fun h3 => ?_) (fun h3 => ?_)
      · skip
        refine RL.skip rfl rfl rfl ?_
        refine RL.skip rfl rfl rfl ?_
        refine RL.pickT rfl rfl rfl rfl ?_
        refine RL.move rfl rfl rfl ?_
        refine RL.skip rfl rfl rfl ?_
        refine RL.skip rfl rfl rfl ?_
        refine RL.skip rfl rfl rfl ?_
        refine RL.pickT rfl rfl rfl rfl ?_
        refine RL.nil ?_
        refine NX.seq ?_
        refine TR.condT rfl ?_
        refine TR.seq ?_
        refine TR.region ?_
        refine RL.move rfl rfl rfl ?_
        refine RL.move rfl rfl rfl ?_
        refine RL.assign rfl rfl rfl ?_
        refine RL.assign rfl rfl rfl ?_
        refine RL.nil ?_
        refine NX.seq ?_
        refine TR.ret ?_
        refine NX.retThen ?_
        refine NX.retBlock ?_
        refine NX.retThen ?_
        refine NX.retThen ?_
        refine NX.retBlock ?_
        refine NX.retThen ?_
        refine NX.ret2 (⟨⟨q0.1, x.rows, x.oa, x.c⟩, q0.2, by show x.rows.length ≤ 8; omega, hx.2.1⟩ : {z : ChZ // z.t.length ≤ 96 ∧ z.rows.length ≤ 8 ∧ ChOk ⟨0, [(z.t, [])], []⟩ (z.rows.map HeR.p)}) rfl rfl rfl rfl (fun w hw => ?_)
        have h9 := ((hw.to 1 [0] 4 [3] rfl) : St w _ _)
        exact h9.keepSl
      · skip
        have hps : (posE x.h.tx z.1.es []).2 = true := by simpa using h3
        refine RL.move rfl rfl rfl ?_
        refine RL.bin rfl rfl rfl (BinV.to (d := false) BinV.neq (decide_eq_false (by unfold applyE; rw [if_pos z.2.sound]; simp))) rfl ?_
        refine RL.pickF rfl rfl rfl rfl ?_
        refine RL.move rfl rfl rfl ?_
        refine RL.move rfl rfl rfl ?_
        refine RL.lenStr rfl qs_tstr9 rfl rfl ?_
        refine RL.bin rfl rfl rfl BinV.gtr rfl ?_
        refine RL.pickF rfl rfl rfl rfl ?_
        refine RL.nil ?_
        refine NX.seq ?_
        refine TR.cond rfl (fun h4 => ?_) (fun h4 => ?_)
        · skip
          refine TR.seq ?_
          refine TR.region ?_
          refine RL.move rfl rfl rfl ?_
          refine RL.move rfl rfl rfl ?_
          refine RL.assign rfl rfl rfl ?_
          refine RL.assign rfl rfl rfl ?_
          refine RL.nil ?_
          refine NX.seq ?_
          refine TR.ret ?_
          refine NX.retThen ?_
          refine NX.retBlock ?_
          refine NX.retThen ?_
          refine NX.retThen ?_
          refine NX.retBlock ?_
          refine NX.retThen ?_
          refine NX.ret2 (⟨⟨q0.1, x.rows, x.oa, x.c⟩, q0.2, by show x.rows.length ≤ 8; omega, hx.2.1⟩ : {z : ChZ // z.t.length ≤ 96 ∧ z.rows.length ≤ 8 ∧ ChOk ⟨0, [(z.t, [])], []⟩ (z.rows.map HeR.p)}) rfl rfl rfl rfl (fun w hw => ?_)
          have h9 := ((hw.to 1 [0] 4 [3] rfl) : St w _ _)
          exact h9.keepSl
        · skip
          have hbig : ¬ 4096 < (applyGo x.h.tx 0 z.1.es).length := by have := of_decide_eq_false h4; omega
          obtain ⟨g1, g2, g3, g4⟩ := app_pos z.2.sound hps hbig
          have g5 := tx_of x.h (applyGo x.h.tx 0 z.1.es) z.1.es
          have g6 := (apply_sum (Nat.zero_le _) (soundE_sound1 z.2.sound)).2
          have hpl : (posE x.h.tx z.1.es []).1.length = z.1.es.length := g1
          have hz5 := z.2.1
          refine TR.skip ?_
          refine NX.seq ?_
          refine TR.seq ?_
          refine TR.region ?_
          refine RL.move rfl rfl rfl ?_
          refine RL.move rfl rfl rfl ?_
          refine RL.bin rfl rfl rfl (BinV.add _ rfl (by omega) (by omega)) rfl ?_
          refine RL.move rfl rfl rfl ?_
          refine RL.build rfl rfl (qs_bv39_0_1 _ _ _ _) rfl ?_
          refine RL.buildSlice rfl rfl (qs_bs23_1_0 _ _ _ _) rfl (fun b5 => ?_)
          refine RL.ofGV rfl rfl (GV.append (j := 1) qs_tl23 qs_ni23 qs_te39 rfl rfl rfl (src_box (i := 0) rfl rfl rfl) (by omega) (by omega)) (fun y => ?_)
          refine RL.assign rfl rfl rfl ?_
          refine RL.nil ?_
          refine NX.seq ?_
          refine TR.region ?_
          refine RL.move rfl rfl rfl ?_
          refine RL.assign rfl rfl rfl ?_
          refine RL.nil ?_
          refine NX.off ?_
          refine NX.seq ?_
          refine TR.region ?_
          refine RL.move rfl rfl rfl ?_
          refine RL.bin rfl rfl rfl (BinV.add _ rfl (by omega) (by omega)) rfl ?_
          refine RL.assign rfl rfl rfl ?_
          refine RL.nil ?_
          refine NX.roundP ⟨x.rows ++ [(⟨(x.rows.length : Int) + 1, (posE x.h.tx z.1.es []).1, zp.1, zp.2⟩ : HeR)], { x.h with hist := x.h.hist ++ [(applyGo x.h.tx 0 z.1.es, z.1.es)] }, y.1, y.2⟩ ⟨by show (x.rows ++ [_]).length ≤ most; rw [List.length_append]; show x.rows.length + 1 ≤ most; omega, by show ChOk _ ((x.rows ++ [_]).map HeR.p); rw [List.map_append]; exact hx.2.1.snoc (by rw [← hx.2.2.1]; exact ⟨by rw [hx.2.2.2.1], by show (posE x.h.tx z.1.es []).1.length ≤ 64; omega, by show txsP (posE x.h.tx z.1.es []).1 ≤ _; omega, by show (appH x.h (posE x.h.tx z.1.es []).1).1 = 0; rw [g4]⟩), by show _ = endH _ ((x.rows ++ [_]).map HeR.p); rw [List.map_append, List.map_singleton, endH_snoc, ← hx.2.2.1]; show _ = (appH x.h (posE x.h.tx z.1.es []).1).2; rw [g4], by rw [g5.2, hx.2.2.2.1, List.length_append]; rfl, by rw [g5.1]; omega⟩ (by show most - (x.rows ++ [_]).length < _; rw [List.length_append]; show most - (x.rows.length + 1) < _; omega) ⟨rfl, rfl, rfl, by rw [g5.1]; rfl, ?_, ?_, trivial⟩ (fun w hw => ?_)
          · show some (Value.slice y.1 (x.rows.length + 1) y.2) = some (Value.slice y.1 (x.rows ++ [_]).length y.2)
            rw [List.length_append]; rfl
          · show some (I ((x.rows.length : Int) + 1)) = some (I (((x.rows ++ [_]).length : Nat) : Int))
            rw [List.length_append]; rfl
          · have h9 := ((hw.to 2 [1] 4 [3, 0] rfl) : St w _ _)
            have h8 : St w (OwnSl 39 2 y.1 (x.rows ++ [(⟨(x.rows.length : Int) + 1, (posE x.h.tx z.1.es []).1, zp.1, zp.2⟩ : HeR)]).length y.2 (heC (x.rows ++ [(⟨(x.rows.length : Int) + 1, (posE x.h.tx z.1.es []).1, zp.1, zp.2⟩ : HeR)])) :: M) (HeF (x.rows ++ [(⟨(x.rows.length : Int) + 1, (posE x.h.tx z.1.es []).1, zp.1, zp.2⟩ : HeR)]) :: HeF x.rows :: ArrF zp.1 (peC (posE x.h.tx z.1.es []).1) :: F) := by
              refine St.derive ?_ (fun K hf => HeF.snoc (hf (HeF x.rows) (.head _)) (hf (ArrF zp.1 (peC (posE x.h.tx z.1.es []).1)) (.tail _ (.head _))))
              rw [List.length_append, heC_append]
              exact h9
            exact h8.facts (fun φ h => by rcases List.mem_cons.1 h with e | h; exact e ▸ .head _; exact .tail _ (.tail _ (.tail _ h)))
    · skip
      refine TR.exit ?_
      refine NX.exitThen ?_
      refine NX.exitThen ?_
      refine NX.exitHere ?_
      refine NX.seq ?_
      refine TR.seq ?_
      refine TR.region ?_
      refine RL.move rfl rfl rfl ?_
      refine RL.move rfl rfl rfl ?_
      refine RL.assign rfl rfl rfl ?_
      refine RL.assign rfl rfl rfl ?_
      refine RL.nil ?_
      refine NX.seq ?_
      refine TR.ret ?_
      refine NX.ret2 (⟨⟨q0.1, x.rows, x.oa, x.c⟩, q0.2, by show x.rows.length ≤ 8; omega, hx.2.1⟩ : {z : ChZ // z.t.length ≤ 96 ∧ z.rows.length ≤ 8 ∧ ChOk ⟨0, [(z.t, [])], []⟩ (z.rows.map HeR.p)}) rfl rfl rfl rfl (fun w hw => ?_)
      have h9 := ((hw.to 1 [0] 1 [0] rfl) : St w _ _)
      exact h9.keepSl
  · skip
    refine RL.skip rfl rfl rfl ?_
    refine RL.skip rfl rfl rfl ?_
    refine RL.skip rfl rfl rfl ?_
    refine RL.skip rfl rfl rfl ?_
    refine RL.skip rfl rfl rfl ?_
    refine RL.skip rfl rfl rfl ?_
    refine RL.pickF rfl rfl rfl rfl ?_
    refine RL.nil ?_
    refine NX.seq ?_
    refine TR.condF rfl ?_
    refine TR.exit ?_
    refine NX.exitThen ?_
    refine NX.exitThen ?_
    refine NX.exitHere ?_
    refine NX.seq ?_
    refine TR.seq ?_
    refine TR.region ?_
    refine RL.move rfl rfl rfl ?_
    refine RL.move rfl rfl rfl ?_
    refine RL.assign rfl rfl rfl ?_
    refine RL.assign rfl rfl rfl ?_
    refine RL.nil ?_
    refine NX.seq ?_
    refine TR.ret ?_
    refine NX.ret2 (⟨⟨q0.1, x.rows, x.oa, x.c⟩, q0.2, by show x.rows.length ≤ 8; omega, hx.2.1⟩ : {z : ChZ // z.t.length ≤ 96 ∧ z.rows.length ≤ 8 ∧ ChOk ⟨0, [(z.t, [])], []⟩ (z.rows.map HeR.p)}) rfl rfl rfl rfl (fun w hw => ?_)
    have h9 := ((hw.to 1 [0] 1 [0] rfl) : St w _ _)
    exact h9.keepSl
end Go.Proofs.Ytkdeopioelocnaa
