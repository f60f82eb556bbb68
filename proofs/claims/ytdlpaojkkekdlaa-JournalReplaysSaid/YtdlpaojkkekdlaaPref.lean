/- Lemmas and walks for the proof of ReplJ: texts one behind the other. No condition. -/
import Derived.Sort.EveryDepth
import Derived.Sort.OwnSortedInts
import Derived.Shelf.Sort.AssemblyIn
import Derived.Test.YtdlpaojkkekdlaaChecked
import Derived.Test.YtdlpaojkkekdlaaPree
namespace Go.GL
open Go.Shelf Go.Sort Go.Proofs
theorem ci_of_calls {P : Program} {f : FuncId} {args : Array Value} {w : World} {R : Ending → World → Prop} (h : Calls P f args w R) : CI P f args w R := (callsIn_wide (n := 0)).2 h
/-- the numbers in their order -/
def srt (l : List Int) : List Int := l.mergeSort fun x y => decide (x ≤ y)
theorem srt_perm (l : List Int) : (srt l).Perm l := List.mergeSort_perm _ _
theorem srt_len (l : List Int) : (srt l).length = l.length := (srt_perm l).length_eq
theorem srt_nil : srt [] = [] := by unfold srt; simp
theorem srt_sorted (l : List Int) : (srt l).Pairwise (· ≤ ·) := by
  have h := List.pairwise_mergeSort (le := fun x y : Int => decide (x ≤ y)) (fun a b c h1 h2 => by simp only [decide_eq_true_eq] at *; omega) (fun a b => by simp only [Bool.or_eq_true, decide_eq_true_eq]; omega) l
  exact h.imp fun {a b} h => by simpa using h
theorem srt_of_perm {l l' : List Int} (h : l.Perm l') : srt l = srt l' := by
  refine List.Perm.eq_of_pairwise (le := fun a b : Int => a ≤ b) (fun a b _ _ h1 h2 => by omega) (srt_sorted l) (srt_sorted l') (((srt_perm l).trans h).trans (srt_perm l').symm)
theorem sortG {P : Program} {ρ : Ren} (Ly : Lays.n189 P ρ) {e g c : Nat} {l : List Int} {M : List HP} {F : List Fact} (hl : l.length < 4611686018427387904) :
    Ctr P (ρ.f 189) [.slice (some ⟨g, 0, none⟩) l.length c] (OwnSl e 1 (some ⟨g, 0, none⟩) l.length c (ints l) :: M) F Unit (fun _ => .tuple #[]) (fun _ => OwnSl e 1 (some ⟨g, 0, none⟩) l.length c (ints (srt l)) :: M) (fun _ => F) := fun w hw => by
  obtain ⟨K, ⟨K1, K2, eK, h1, h2⟩, hn, hf⟩ := hw
  rcases h1.1.2 with ⟨h0, _⟩ | ⟨g', cap', cur, hv, hbase, hb, r1, r2, r3, r4⟩
  · cases h0
  simp only [Value.slice.injEq, Option.some.injEq, Addr.mk.injEq] at hv
  obtain ⟨⟨rfl, _⟩, _, rfl⟩ := hv
  have hg : g < w.heap.size := (Array.getElem?_eq_some_iff.1 hb).1
  rw [Nat.mul_one] at r4
  have hc := calls_of_every_depth fun D => AnyS.slices_Sort_int_in Ly D g 0 c l w (holds_of_blockI hb r4) hg hl
  refine CallsIn.mono (ci_of_calls hc) ?_
  rintro e' w' ⟨rfl, n, os, rfl⟩
  refine ⟨(), rfl, ?_⟩
  obtain ⟨g1, g2, g3, g4, g5⟩ := grownBy_sortedI (w := w) (g := g) (n := n) (os := os) (srt l).toArray
  have hst : St w (OwnSl e 1 (some ⟨g, 0, none⟩) l.length c (ints l) :: M) F := ⟨K, ⟨K1, K2, eK, h1, h2⟩, hn, hf⟩
  refine hst.turn g1 g2 g3 g4 fun K' hp => ?_
  have hK' : K' = [g] := hp.2
  refine ⟨[g], ⟨?_, rfl⟩, by simp, fun b hbm => .inl (by rw [hK']; exact hbm), fun b hbl hbn => ?_⟩
  · have h9 := ownsRow_sortedI (w := w) (base := 0) (g := g) (cap := c) (n := n) (e := e) (os := os) (cur := cur) (ss := l) (ts := srt l) (srt_len l) (Nat.zero_le _) hb r1 r2 r3
    exact h9
  · refine g5 b hbl fun e2 => hbn ?_
    rw [hK']; simp at e2; simp [e2]
theorem lenG {P : Program} {ρ : Ren} (Ly : Lays.n125 P ρ) {n : Nat} {M : List HP} {F : List Fact} (hn : n < 4611686018427387904) :
    Ctr P (ρ.f 125) [U n] M F Int (fun z => I z) (fun _ => M) (fun _ => F) := fun w hw => by
  refine CallsIn.mono (ci_of_calls (calls_of_every_depth fun D => Any.lenWalkInAll Ly D n w hn)) ?_
  rintro e w' ⟨rfl, rfl⟩
  exact ⟨_, rfl, hw⟩
end Go.GL

namespace Go.Proofs.Ytdlpaojkkekdlaa
open Go.GL
set_option linter.unusedVariables false
theorem yd_bs22_1_0 (x0 : Int) : BuildSV Try.prog 22 3 1 [(0, .int .i64 x0)] [.int .i64 x0] := fun w => by kernel_rfl
theorem yd_ni22 : noInt Try.prog 22 = true := by kernel_rfl
theorem yd_te3 : tyElem Try.prog 3 1 8 = true := by kernel_rfl
theorem yd_tl22 : tySlice Try.prog 22 3 = true := by kernel_rfl
theorem yd_tm90 : tyMap Try.prog 90 3 101 = true := by kernel_rfl
theorem yd_ts22 : tyScalar Try.prog 22 = true := by kernel_rfl
theorem yd_ts90 : tyScalar Try.prog 90 = true := by kernel_rfl
def keyEnc : Int → List Value → Prop := fun n args => args = [I n]
theorem keyEnc_len (x : Int) (args : List Value) (h : keyEnc x args) : args.length = 1 := by rw [show args = [I x] from h]; rfl

theorem keys_step {keys pre left : List Int} {nk : Int} (hn : keys.Nodup) (h : (pre ++ left).Perm keys) (hm : nk ∈ left) : (pre ++ nk :: left.filter fun y => !decide (y = nk)).Perm keys ∧ ((pre ++ [nk]) ++ left.filter fun y => !decide (y = nk)).Perm keys := by
  have n2 := (List.nodup_append.1 (h.nodup_iff.2 hn)).2.1
  have h1 : (pre ++ nk :: left.filter fun y => !decide (y = nk)).Perm keys := by
    refine List.Perm.trans (List.Perm.append_left pre ?_) h
    refine (List.perm_ext_iff_of_nodup ?_ n2).2 fun a => ?_
    · rw [List.nodup_cons]
      exact ⟨fun h => by simp at h, n2.sublist List.filter_sublist⟩
    · by_cases e : a = nk
      · subst e; simp [hm]
      · simp [e]
  exact ⟨h1, by rw [List.append_assoc]; exact h1⟩

theorem keys_iter {bm m : Nat} {kvs : KV} {F : List Fact} (hk : (kvs.map Prod.fst).Nodup) : IterG Try.prog 102 [.pointer (some ⟨bm, 0, none⟩)] keyEnc (fun pre x => ∃ suf, (pre ++ x :: suf).Perm (kvs.map Prod.fst)) (fun xs => xs.Perm (kvs.map Prod.fst)) [Box bm 90 [.map (some m)], MpB m kvs] F := by
  intro l J hY Mi G hG
  refine Ctr.weak (M := [Box bm 90 [.map (some m)], MpB m kvs] ++ (J [] ++ Mi)) (M' := fun xs : {xs : List Int // xs.Perm (kvs.map Prod.fst)} => [Box bm 90 [.map (some m)], MpB m kvs] ++ (J xs.1 ++ Mi)) (F := G) (F' := fun _ => G) ?_ (fun w hw => hw.perm (perm_mid _ _ _)) id (fun _ => rfl) (fun i w hw => hw.perm (perm_mid _ _ _))
  refine Ctr.body Try.func102 rfl rfl ?_
  refine TR.seq ?_
  refine TR.region ?_
  refine RL.load1 0 rfl yd_ts90 rfl rfl rfl rfl ?_
  refine RL.ofGV rfl rfl (GV.range 1 yd_tm90 rfl rfl) (fun q => ?_)
  refine RL.nil ?_
  refine NX.seq ?_
  refine TR.block ?_
  refine TR.loopP (ι := (List Int × List Int × Option Int)) (fun x => (x.1 ++ x.2.1).Perm (kvs.map Prod.fst)) (fun x => [(0, .func (.yield l) #[] #[]), (5, .pointer (some ⟨q, 0, none⟩))]) (fun x => Box bm 90 [.map (some m)] :: RgB m q kvs x.2.1 x.2.2 :: (J x.1 ++ Mi)) (fun _ => G) (fun x => x.2.1.length) ([], kvs.map Prod.fst, none) (List.Perm.refl _) ⟨rfl, rfl, trivial⟩ (fun w hw => hw) (fun x hx => ?_)
  refine TR.seq ?_
  refine TR.region ?_
  refine RL.ofGV rfl rfl (GV.next 1 rfl rfl) (fun nx => ?_)
  obtain ⟨_ | nx, hnx⟩ := nx
  · skip
    refine RL.extract rfl rfl rfl rfl ?_
    refine RL.nil ?_
    refine NX.seq ?_
    refine TR.seq ?_
    refine TR.condF rfl ?_
    refine TR.exit ?_
    refine NX.exitThen ?_
    refine NX.exitThen ?_
    refine NX.exitHere ?_
    have hl : x.2.1 = [] := hnx
    exact NX.end0 (⟨x.1, by have h9 := hx; rw [hl, List.append_nil] at h9; exact h9⟩ : {xs : List Int // xs.Perm (kvs.map Prod.fst)}) rfl rfl (fun w hw => hw)
  · skip
    refine RL.extract rfl rfl rfl rfl ?_
    refine RL.nil ?_
    refine NX.seq ?_
    refine TR.seq ?_
    refine TR.condT rfl ?_
    refine TR.skip ?_
    refine NX.seq ?_
    refine TR.block ?_
    refine TR.seq ?_
    refine TR.region ?_
    obtain ⟨nk, nv⟩ := nx
    have hst := keys_step hk hx hnx.1
    refine RL.entry 1 rfl rfl rfl hnx.2 rfl ?_
    refine RL.extract rfl rfl rfl rfl ?_
    refine RL.assign rfl rfl rfl ?_
    refine RL.nil ?_
    refine NX.seq ?_
    refine TR.seq ?_
    refine TR.region ?_
    refine RL.move rfl rfl rfl ?_
    refine RL.move rfl rfl rfl ?_
    refine RL.callYield rfl rfl rfl rfl (YSpec.frame [_, _] (hY x.1 nk _ ⟨_, hst.1⟩ rfl ([_, _] ++ Mi) G hG)) ?_
    refine RL.not rfl rfl rfl ?_
    refine RL.nil ?_
    refine NX.seq ?_
    refine TR.condF rfl ?_
    refine TR.skip ?_
    refine NX.off ?_
    exact NX.roundP (x.1 ++ [nk], x.2.1.filter fun y => !decide (y = nk), some nk) hst.2 (left_lt hnx.1) ⟨rfl, rfl, trivial⟩ (fun w hw => hw)

theorem mkeys_spec {m : Nat} {M : List HP} {F : List Fact} : Ctr Try.prog 89 [.map (some m)] M F Nat (fun bm => .func (.func 102) #[] #[.pointer (some ⟨bm, 0, none⟩)]) (fun bm => Box bm 90 [.map (some m)] :: M) (fun _ => F) := by
  refine Ctr.body Try.func89 rfl rfl ?_
  refine TR.seq ?_
  refine TR.region ?_
  refine RL.box1 rfl rfl rfl rfl (fun b1 => ?_)
  refine RL.assign rfl rfl rfl ?_
  refine RL.nil ?_
  refine NX.seq ?_
  refine TR.seq ?_
  refine TR.region ?_
  refine RL.makeFunc rfl rfl rfl rfl ?_
  refine RL.assign rfl rfl rfl ?_
  refine RL.nil ?_
  refine NX.seq ?_
  refine TR.ret ?_
  exact NX.ret1 b1 rfl rfl rfl (fun w hw => hw)

/-- a box with a slice of numbers in it -/
def IntB (b1 : Nat) (xs : List Int) : HP := Ex (ι := Option Addr × Nat) fun i => [Box b1 22 [.slice i.1 xs.length i.2], OwnSl 3 1 i.1 xs.length i.2 (ints xs)]

theorem apseq_spec {gf : FuncId} {cap : List Value} {step : List Int → Int → Prop} {fin : List Int → Prop} {L0 M : List HP} {F : List Fact} (hcall : ∀ args w, (callFunc gf args).run Try.prog w = .ok (.enter gf args) w) (hit : IterG Try.prog gf cap keyEnc step fin L0 F) (hst : ∀ pre x, step pre x → pre.length < 1000) : Ctr Try.prog 105 [.slice none 0 0, .func (.func gf) #[] cap.toArray] (L0 ++ M) F {z : List Int × Option Addr × Nat // fin z.1} (fun z => .slice z.1.2.1 z.1.1.length z.1.2.2) (fun z => OwnSl 3 1 z.1.2.1 z.1.1.length z.1.2.2 (ints z.1.1) :: (L0 ++ M)) (fun _ => F) := by
  refine Ctr.bodyM Try.func105 rfl rfl ?_
  refine TR.seq ?_
  refine TR.region ?_
  refine RL.box1 rfl rfl rfl rfl (fun b1 => ?_)
  refine RL.assign rfl rfl rfl ?_
  refine RL.nil ?_
  refine NX.seq ?_
  refine TR.seq ?_
  refine TR.seq ?_
  refine TR.region ?_
  refine RL.move rfl rfl rfl ?_
  refine RL.nil ?_
  refine NX.seq ?_
  refine TR.block ?_
  refine TR.rangeFuncG (κ := Unit) rfl hcall (by simp) keyEnc_len hit (fun pre => [IntB b1 pre]) M (fun w hw => (by have h9 := hw.tail; exact St.exClose (M0 := fun i : Option Addr × Nat => [Box b1 22 [.slice i.1 ([] : List Int).length i.2], OwnSl 3 1 i.1 ([] : List Int).length i.2 (ints [])]) (none, 0) (show St w ([_, _] ++ (L0 ++ M)) F from (OwnSl.nil_new 3 1 hw).swap))) (fun pre x args _ => [(2, .pointer (some ⟨b1, 0, none⟩)), (5, I x)]) (fun pre x args _ => [IntB b1 pre]) ?as0 ?bd0 ?ki0
  case as0 =>
    intro l pre x args hx he Mi G hG
    obtain rfl : args = [I x] := he
    have hpl := hst pre x hx
    refine TR.region ?_
    refine RL.assign rfl rfl rfl ?_
    refine RL.nil ?_
    exact NX.meet () ⟨rfl, rfl, trivial⟩ (fun w hw => hw)
  case bd0 =>
    intro l pre x args i hx he Mi G hG
    obtain rfl : args = [I x] := he
    have hpl := hst pre x hx
    refine TR.open (fun w hw => (St.exOpen (show St w (Ex _ :: _) G from hw))) (fun oc => ?_)
    refine TR.block ?_
    refine TR.region ?_
    refine RL.load1 0 rfl yd_ts22 rfl rfl rfl rfl ?_
    refine RL.move rfl rfl rfl ?_
    refine RL.buildSlice rfl rfl (yd_bs22_1_0 _) rfl (fun b2 => ?_)
    refine RL.ofGV rfl rfl (GV.append (j := 2) yd_tl22 yd_ni22 yd_te3 rfl rfl rfl (src_box (i := 0) rfl rfl rfl) (by omega) (by omega)) (fun z => ?_)
    refine RL.store1 1 rfl yd_ts22 rfl rfl rfl rfl rfl ?_
    refine RL.nil ?_
    refine NX.off ?_
    exact fun aa w _ hw => by
      have h9 : St w (Box b1 22 [.slice z.1 (pre.length + 1) z.2] :: OwnSl 3 1 z.1 (pre.length + 1) z.2 (ints pre ++ [I x]) :: Mi) G := hw.drop 0 rfl
      refine St.exClose (M0 := fun i : Option Addr × Nat => [Box b1 22 [.slice i.1 (pre ++ [x]).length i.2], OwnSl 3 1 i.1 (pre ++ [x]).length i.2 (ints (pre ++ [x]))]) z ?_
      rw [List.length_append, show ints (pre ++ [x]) = ints pre ++ [I x] from List.map_append]
      exact h9
  case ki0 =>
    intro xs hfin D
    refine NX.off ?_
    refine NX.seq ?_
    refine TR.seq ?_
    refine TR.pick 2 [1, 0] rfl ?_
    refine TR.open (fun w hw => (St.exOpen (show St w (Ex _ :: _) F from hw))) (fun oc => ?_)
    refine TR.region ?_
    refine RL.load1 0 rfl yd_ts22 rfl rfl rfl rfl ?_
    refine RL.assign rfl rfl rfl ?_
    refine RL.nil ?_
    refine NX.seq ?_
    refine TR.ret ?_
    refine NX.retM 2 (⟨(xs, oc), hfin⟩ : {z : List Int × Option Addr × Nat // fin z.1}) rfl rfl rfl rfl (fun w hw => ?_)
    exact hw.drop 0 rfl

end Go.Proofs.Ytdlpaojkkekdlaa

namespace Go.Proofs
open Go.Shelf
def Try.lays189_ren : Go.Shelf.Ren := ⟨fun | 189 => 101 | 125 => 107 | 257 => 106 | 128 => 117 | 129 => 118 | 294 => 108 | 295 => 109 | 296 => 110 | 297 => 111 | 298 => 112 | 299 => 113 | 216 => 114 | 300 => 115 | 301 => 116 | 328 => 119 | 329 => 120 | 330 => 121 | 331 => 122 | 332 => 123 | 215 => 124 | 343 => 125 | n => n, fun | 28 => 22 | 3 => 3 | 46 => 66 | 0 => 0 | 51 => 156 | 53 => 65 | 4 => 4 | 183 => 148 | 182 => 147 | 131 => 153 | 5 => 5 | 9 => 9 | 218 => 157 | 222 => 160 | 228 => 162 | 229 => 163 | n => n, fun | n => n⟩
theorem Try.lays189 : Go.Proofs.Lays.n189 Try.prog Try.lays189_ren := {
  mixed := by kernel_rfl
  f125 := Try.func107.trans (congrArg some (by kernel_rfl))
  f128 := Try.func117.trans (congrArg some (by kernel_rfl))
  f129 := Try.func118.trans (congrArg some (by kernel_rfl))
  f189 := Try.func101.trans (congrArg some (by kernel_rfl))
  f215 := Try.func124.trans (congrArg some (by kernel_rfl))
  f216 := Try.func114.trans (congrArg some (by kernel_rfl))
  f257 := Try.func106.trans (congrArg some (by kernel_rfl))
  f294 := Try.func108.trans (congrArg some (by kernel_rfl))
  f295 := Try.func109.trans (congrArg some (by kernel_rfl))
  f296 := Try.func110.trans (congrArg some (by kernel_rfl))
  f297 := Try.func111.trans (congrArg some (by kernel_rfl))
  f298 := Try.func112.trans (congrArg some (by kernel_rfl))
  f299 := Try.func113.trans (congrArg some (by kernel_rfl))
  f300 := Try.func115.trans (congrArg some (by kernel_rfl))
  f301 := Try.func116.trans (congrArg some (by kernel_rfl))
  f328 := Try.func119.trans (congrArg some (by kernel_rfl))
  f329 := Try.func120.trans (congrArg some (by kernel_rfl))
  f330 := Try.func121.trans (congrArg some (by kernel_rfl))
  f331 := Try.func122.trans (congrArg some (by kernel_rfl))
  f332 := Try.func123.trans (congrArg some (by kernel_rfl))
  f343 := Try.func125.trans (congrArg some (by kernel_rfl))
  t0 := Try.underlying0
  a0 := Try.isAgg0
  z0 := Try.sizeOf0
  v0 := Try.zeroValue0
  t3 := Try.underlying3
  a3 := Try.isAgg3
  z3 := Try.sizeOf3
  v3 := Try.zeroValue3
  t4 := Try.underlying4
  a4 := Try.isAgg4
  z4 := Try.sizeOf4
  v4 := Try.zeroValue4
  t5 := Try.underlying5
  a5 := Try.isAgg5
  z5 := Try.sizeOf5
  v5 := Try.zeroValue5
  t9 := Try.underlying9
  a9 := Try.isAgg9
  z9 := Try.sizeOf9
  v9 := Try.zeroValue9
  t28 := Try.underlying22
  a28 := Try.isAgg22
  z28 := Try.sizeOf22
  v28 := Try.zeroValue22
  t46 := Try.underlying66
  a46 := Try.isAgg66
  z46 := Try.sizeOf66
  v46 := Try.zeroValue66
  t51 := Try.underlying156
  a51 := Try.isAgg156
  z51 := Try.sizeOf156
  v51 := Try.zeroValue156
  t53 := Try.underlying65
  a53 := Try.isAgg65
  z53 := Try.sizeOf65
  v53 := Try.zeroValue65
  t131 := Try.underlying153
  a131 := Try.isAgg153
  z131 := Try.sizeOf153
  v131 := Try.zeroValue153
  t182 := Try.underlying147
  a182 := Try.isAgg147
  z182 := Try.sizeOf147
  v182 := Try.zeroValue147
  t183 := Try.underlying148
  a183 := Try.isAgg148
  z183 := Try.sizeOf148
  v183 := Try.zeroValue148
  t218 := Try.underlying157
  a218 := Try.isAgg157
  z218 := Try.sizeOf157
  v218 := Try.zeroValue157
  t222 := Try.underlying160
  a222 := Try.isAgg160
  z222 := Try.sizeOf160
  v222 := Try.zeroValue160
  t228 := Try.underlying162
  a228 := Try.isAgg162
  z228 := Try.sizeOf162
  v228 := Try.zeroValue162
  t229 := Try.underlying163
  a229 := Try.isAgg163
  z229 := Try.sizeOf163
  v229 := Try.zeroValue163 }
end Go.Proofs

namespace Go.Proofs.Ytdlpaojkkekdlaa
open Go.GL
set_option linter.unusedVariables false
theorem ye_tf92_0 : fieldOff Try.prog 92 0 0 = true := by kernel_rfl
theorem ye_ti3 : tyInt Try.prog 3 .i64 = true := by kernel_rfl
theorem ye_ti66 : tyInt Try.prog 66 .u64 = true := by kernel_rfl
theorem ye_tl22 : tySlice Try.prog 22 3 = true := by kernel_rfl
theorem ye_ts90 : tyScalar Try.prog 90 = true := by kernel_rfl
theorem collect_spec {gf : FuncId} {cap : List Value} {step : List Int → Int → Prop} {fin : List Int → Prop} {L0 M : List HP} {F : List Fact} (hcall : ∀ args w, (callFunc gf args).run Try.prog w = .ok (.enter gf args) w) (hit : IterG Try.prog gf cap keyEnc step fin L0 F) (hst : ∀ pre x, step pre x → pre.length < 1000) : Ctr Try.prog 100 [.func (.func gf) #[] cap.toArray] (L0 ++ M) F {z : List Int × Option Addr × Nat // fin z.1} (fun z => .slice z.1.2.1 z.1.1.length z.1.2.2) (fun z => OwnSl 3 1 z.1.2.1 z.1.1.length z.1.2.2 (ints z.1.1) :: (L0 ++ M)) (fun _ => F) := by
  refine Ctr.body Try.func100 rfl rfl ?_
  refine TR.seq ?_
  refine TR.region ?_
  refine RL.assign rfl rfl rfl ?_
  refine RL.nil ?_
  refine NX.seq ?_
  refine TR.seq ?_
  refine TR.region ?_
  refine RL.move rfl rfl rfl ?_
  refine RL.call rfl rfl Try.call105 rfl (apseq_spec hcall hit hst) (fun z => ?_)
  refine RL.assign rfl rfl rfl ?_
  refine RL.nil ?_
  refine NX.seq ?_
  refine TR.ret ?_
  exact NX.ret1 z rfl rfl rfl (fun w hw => hw)

theorem sort_nil {M : List HP} {F : List Fact} : Ctr Try.prog 101 [.slice none 0 0] (OwnSl 3 1 none 0 0 (ints []) :: M) F Unit (fun _ => .tuple #[]) (fun _ => OwnSl 3 1 none 0 0 (ints []) :: M) (fun _ => F) := by
  refine Ctr.body Try.func101 rfl rfl ?_
  refine TR.seq ?_
  refine TR.region ?_
  refine RL.move rfl rfl rfl ?_
  refine RL.lenSlice rfl ye_tl22 rfl rfl ?_
  refine RL.assign rfl rfl rfl ?_
  refine RL.nil ?_
  refine NX.seq ?_
  refine TR.region ?_
  refine RL.move rfl rfl rfl ?_
  refine RL.move rfl rfl rfl ?_
  refine RL.move rfl rfl rfl ?_
  refine RL.conv rfl rfl (ConvV.iu (n := 0) ye_ti3 ye_ti66 (by decide)) rfl ?_
  refine RL.call rfl rfl Try.call107 rfl (lenG (ρ := Try.lays189_ren) { Try.lays189 with } (n := 0) (by decide)) (fun zl => ?_)
  refine RL.call rfl rfl Try.call106 rfl (pdq_spec (l0 := []) (by decide) (by decide)) (fun z => ?_)
  refine RL.nil ?_
  exact NX.end0 () rfl rfl (fun w hw => by have h9 := List.perm_nil.1 z.2.1; rw [h9] at hw; exact hw)

theorem sort_spec {l : List Int} {oa : Option Addr} {c : Nat} {M : List HP} {F : List Fact} (hl : l.length < 4611686018427387904) :
    Ctr Try.prog 101 [.slice oa l.length c] (OwnSl 3 1 oa l.length c (ints l) :: M) F Unit (fun _ => .tuple #[]) (fun _ => OwnSl 3 1 oa l.length c (ints (srt l)) :: M) (fun _ => F) := by
  have key : ∀ w, St w (OwnSl 3 1 oa l.length c (ints l) :: M) F → (oa = none ∧ l = [] ∧ c = 0) ∨ ∃ g, oa = some ⟨g, 0, none⟩ := by
    intro w hw
    obtain ⟨K, ⟨K1, K2, eK, h1, h2⟩, hn, hf⟩ := hw
    rcases h1.1.2 with ⟨h0, h0'⟩ | ⟨g', cap', cur, hv, _⟩
    · simp only [Value.slice.injEq] at h0
      exact .inl ⟨h0.1, List.length_eq_zero_iff.1 h0.2.1, h0.2.2⟩
    · simp only [Value.slice.injEq] at hv
      exact .inr ⟨g', hv.1⟩
  intro w hw
  rcases key w hw with ⟨rfl, rfl, rfl⟩ | ⟨g, rfl⟩
  · rw [srt_nil]; exact sort_nil w hw
  · exact sortG Try.lays189 hl w hw

theorem sorted_spec {gf : FuncId} {cap : List Value} {step : List Int → Int → Prop} {fin : List Int → Prop} {L0 M : List HP} {F : List Fact} (hcall : ∀ args w, (callFunc gf args).run Try.prog w = .ok (.enter gf args) w) (hit : IterG Try.prog gf cap keyEnc step fin L0 F) (hst : ∀ pre x, step pre x → pre.length < 1000) (hfl : ∀ xs, fin xs → xs.length ≤ 1000) : Ctr Try.prog 88 [.func (.func gf) #[] cap.toArray] (L0 ++ M) F {z : List Int × Option Addr × Nat // fin z.1} (fun z => .slice z.1.2.1 z.1.1.length z.1.2.2) (fun z => OwnSl 3 1 z.1.2.1 z.1.1.length z.1.2.2 (ints (srt z.1.1)) :: (L0 ++ M)) (fun _ => F) := by
  refine Ctr.body Try.func88 rfl rfl ?_
  refine TR.seq ?_
  refine TR.region ?_
  refine RL.assign rfl rfl rfl ?_
  refine RL.nil ?_
  refine NX.seq ?_
  refine TR.seq ?_
  refine TR.region ?_
  refine RL.move rfl rfl rfl ?_
  refine RL.call rfl rfl Try.call100 rfl (collect_spec hcall hit hst) (fun z => ?_)
  refine RL.assign rfl rfl rfl ?_
  refine RL.nil ?_
  refine NX.seq ?_
  refine TR.seq ?_
  refine TR.region ?_
  refine RL.move rfl rfl rfl ?_
  refine RL.call rfl rfl Try.call101 rfl (sort_spec (by have := hfl z.1.1 z.2; omega)) (fun _ => ?_)
  refine RL.nil ?_
  refine NX.seq ?_
  refine TR.seq ?_
  refine TR.region ?_
  refine RL.move rfl rfl rfl ?_
  refine RL.assign rfl rfl rfl ?_
  refine RL.nil ?_
  refine NX.seq ?_
  refine TR.ret ?_
  exact NX.ret1 z rfl rfl rfl (fun w hw => hw)

theorem fs_few {fs : Fs} (h : OkF fs) : fs.length ≤ 64 := by
  have h1 : (fs.map fun p => p.1.toNat).Nodup := by
    have h2 := h.keys
    unfold List.Nodup at h2 ⊢
    rw [List.pairwise_map] at h2 ⊢
    refine h2.imp_of_mem fun {a b} ha hb hne e => hne ?_
    have := h.fits a ha; have := h.fits b hb; omega
  obtain ⟨js, hp⟩ := nodup_subperm (k := 64) h1 fun a ha => by
    obtain ⟨p, hp, rfl⟩ := List.mem_map.1 ha
    have := h.fits p hp
    omega
  have h4 := hp.length_eq
  rw [List.length_append, List.length_map, List.length_range] at h4
  omega

theorem files_spec {b : Nat} {s : Ds} {M : List HP} {F : List Fact} (hok : OkF s.fs) : Ctr Try.prog 62 [.pointer (some ⟨b, 0, none⟩)] (Box b 92 (dkC s) :: MpB s.m (fsV s.fs) :: M) F (Option Addr × Nat) (fun z => .slice z.1 (srt (s.fs.map Prod.fst)).length z.2) (fun z => OwnSl 3 1 z.1 (srt (s.fs.map Prod.fst)).length z.2 (ints (srt (s.fs.map Prod.fst))) :: Box b 92 (dkC s) :: MpB s.m (fsV s.fs) :: M) (fun _ => F) := by
  refine Ctr.body Try.func62 rfl rfl ?_
  refine TR.seq ?_
  refine TR.region ?_
  refine RL.assign rfl rfl rfl ?_
  refine RL.nil ?_
  refine NX.seq ?_
  refine TR.seq ?_
  refine TR.region ?_
  refine RL.move rfl rfl rfl ?_
  refine RL.nilCheck rfl rfl rfl ?_
  refine RL.fieldAddr rfl ye_tf92_0 rfl rfl ?_
  refine RL.load1 0 rfl ye_ts90 rfl rfl rfl rfl ?_
  refine RL.call rfl rfl Try.call89 rfl (mkeys_spec) (fun bm => ?_)
  refine RL.call rfl rfl Try.call88 rfl (Ctr.pick 3 [0, 2, 1] rfl (sorted_spec (L0 := [Box bm 90 [.map (some s.m)], MpB s.m (fsV s.fs)]) Try.call102 (keys_iter (by rw [fsV_keys]; exact hok.keys)) (fun pre x ⟨suf, hp⟩ => by have h9 := hp.length_eq; rw [fsV_keys, List.length_append, List.length_cons, List.length_map] at h9; have := fs_few hok; omega) (fun xs hp => by have h9 := hp.length_eq; rw [fsV_keys, List.length_map] at h9; have := fs_few hok; omega))) (fun z => ?_)
  refine RL.assign rfl rfl rfl ?_
  refine RL.nil ?_
  refine NX.seq ?_
  refine TR.ret ?_
  have hz : srt z.1.1 = srt (s.fs.map Prod.fst) := srt_of_perm (z.2.trans (List.Perm.of_eq (fsV_keys _)))
  have hzl : z.1.1.length = (srt (s.fs.map Prod.fst)).length := by rw [← hz, srt_len]
  refine NX.ret1 (z.1.2.1, z.1.2.2) rfl rfl (by rw [hzl]) (fun w hw => ?_)
  have h9 := (hw.to 4 [0, 3, 2] 0 [] rfl)
  rw [hz, hzl] at h9
  exact h9

end Go.Proofs.Ytdlpaojkkekdlaa

namespace Go.GL
set_option linter.unusedVariables false
theorem nodup_inj {α : Type} {l : List α} (h : l.Nodup) {i j : Nat} (hi : i < l.length) (hj : j < l.length) (e : l[i] = l[j]) : i = j := by
  have h1 := List.pairwise_iff_getElem.1 h
  rcases Nat.lt_trichotomy i j with h2 | h2 | h2
  · exact absurd e (h1 i j hi hj h2)
  · exact h2
  · exact absurd e.symm (h1 j i hj hi h2)
theorem filesB_mem {B : Nat → List UInt8} {n : Nat} : n ∈ filesB B ↔ n < 64 ∧ B n ≠ [] := by
  unfold filesB
  rw [List.mem_filter, List.mem_range]
  simp
theorem filesB_nodup (B : Nat → List UInt8) : (filesB B).Nodup := List.nodup_range.sublist List.filter_sublist
theorem filesB_len (B : Nat → List UInt8) : (filesB B).length ≤ 64 := by
  have := List.length_filter_le (fun n => !(B n).isEmpty) (List.range 64)
  simpa [filesB] using this
theorem vB_empty {fs : Fs} {n : Nat} (h : ∀ p, p ∈ fs → p.1 ≠ n) : fget fs n = fl0 := by
  rcases fget_in (fs := fs) (k := (n : Int)) with e | e
  · exact e
  · exact absurd rfl (h _ e)
theorem key_file {fs : Fs} (h : OkF fs) {n : Nat} : (n : Int) ∈ fs.map Prod.fst ↔ n ∈ filesB (vB fs) := by
  rw [filesB_mem]
  constructor
  · intro hm
    obtain ⟨p, hp, e⟩ := List.mem_map.1 hm
    have h1 := h.fits p hp
    have h2 : fget fs n = p.2 := fget_mem h.keys (by rw [← e]; exact hp)
    exact ⟨by omega, by unfold vB; rw [h2]; exact h.some p hp⟩
  · rintro ⟨h1, h2⟩
    rcases fget_in (fs := fs) (k := (n : Int)) with e | e
    · exact absurd (by unfold vB; rw [e]; rfl) h2
    · exact List.mem_map_of_mem (f := Prod.fst) e
theorem files_srt {fs : Fs} (h : OkF fs) : srt (fs.map Prod.fst) = (filesB (vB fs)).map fun n : Nat => (n : Int) := by
  have h1 : ((filesB (vB fs)).map fun n : Nat => (n : Int)).Pairwise (· ≤ ·) := by
    rw [List.pairwise_map]
    have h3 : (filesB (vB fs)).Pairwise (· < ·) := List.pairwise_lt_range.sublist List.filter_sublist
    exact h3.imp fun {a b} h => by omega
  have hnd : ((filesB (vB fs)).map fun n : Nat => (n : Int)).Nodup := by
    unfold List.Nodup
    rw [List.pairwise_map]
    exact (filesB_nodup (vB fs)).imp fun {a b} h => by omega
  have h2 : (fs.map Prod.fst).Perm ((filesB (vB fs)).map fun n : Nat => (n : Int)) := by
    refine (List.perm_ext_iff_of_nodup h.keys hnd).2 fun a => ?_
    constructor
    · intro ha
      obtain ⟨p, hp, e⟩ := List.mem_map.1 ha
      have h3 := h.fits p hp
      obtain ⟨n, hn⟩ : ∃ n : Nat, a = n := ⟨a.toNat, by omega⟩
      subst hn
      exact List.mem_map_of_mem ((key_file h).1 ha)
    · intro ha
      obtain ⟨n, hn, rfl⟩ := List.mem_map.1 ha
      exact (key_file h).2 hn
  exact List.Perm.eq_of_pairwise (le := fun a b : Int => a ≤ b) (fun a b _ _ h1 h2 => by omega) (srt_sorted _) h1 ((srt_perm _).trans h2)
theorem CrSt.init {s : Ds} {keep : List Int} (h : OkF s.fs) : CrSt s keep 0 s.fs [] := ⟨h, rfl, rfl, fun r hr => absurd hr (by simp), fun r hr => absurd hr (by simp), fun _ _ => rfl⟩
theorem CrSt.fresh {s : Ds} {keep : List Int} {i : Nat} {fs : Fs} {rs : List CrR} (h : CrSt s keep i fs rs) (hi : i < (filesB (vB s.fs)).length) : (filesB (vB s.fs))[i] ∉ rs.map CrR.n := by
  rw [h.n]
  intro hm
  obtain ⟨j, hj, e⟩ := List.getElem_of_mem hm
  rw [List.length_take] at hj
  rw [List.getElem_take] at e
  have h1 := nodup_inj (filesB_nodup (vB s.fs)) _ _ e
  omega
theorem fget_setF {fs : Fs} {n k : Int} {f : Fl} (hk : (fs.map Prod.fst).Nodup) : fget (setF fs n f) k = if k = n then (if f.b = [] then fl0 else f) else fget fs k := by
  have hdel : ∀ (l : Fs), (l.map Prod.fst).Nodup → ∀ k, fget (fdel l n) k = if k = n then fl0 else fget l k := by
    intro l
    induction l with
    | nil => intro _ k; simp [fdel, fget]
    | cons p l ih =>
      intro hn k
      rw [List.map_cons, List.nodup_cons] at hn
      rw [fdel]
      by_cases e : p.1 = n
      · rw [if_pos e]
        by_cases e2 : k = n
        · rw [if_pos e2]
          rcases fget_in (fs := l) (k := k) with e3 | e3
          · exact e3
          · exact absurd (by rw [e, ← e2]; exact List.mem_map_of_mem (f := Prod.fst) e3) hn.1
        · rw [if_neg e2, fget, if_neg (fun e3 => e2 (by rw [← e3, e]))]
      · rw [if_neg e, fget, fget]
        by_cases e2 : p.1 = k
        · rw [if_pos e2, if_pos e2, if_neg (fun e3 => e (by rw [e2, e3]))]
        · rw [if_neg e2, if_neg e2, ih hn.2]
  have hset : fget (fset fs n f) k = if k = n then f else fget fs k := by
    by_cases e : k = n
    · rw [if_pos e, e, fget_set]
    · rw [if_neg e, fget_other _ _ _ _ e]
  unfold Go.GL.setF
  by_cases h0 : f.b.length = 0
  · rw [if_pos h0, hdel _ (fset_keys hk), if_pos (List.eq_nil_of_length_eq_zero h0)]
    by_cases e : k = n
    · rw [if_pos e, if_pos e]
    · rw [if_neg e, if_neg e, hset, if_neg e]
  · rw [if_neg h0, hset]
    by_cases e : k = n
    · rw [if_pos e, if_pos e, if_neg (fun e => h0 (by rw [e]; rfl))]
    · rw [if_neg e, if_neg e]
theorem CrSt.step {s : Ds} {keep : List Int} {i : Nat} {fs : Fs} {rs : List CrR} (h : CrSt s keep i fs rs) (hok : OkF s.fs) (hi : i < (filesB (vB s.fs)).length) {r : CrR} (hn : r.n = (filesB (vB s.fs))[i]) (hb : r.b = cutB (vB s.fs) (vD s.fs) keep r.n)
    (hd : r.d = vD s.fs r.n) (hl : r.d ≤ r.b.length) (hc : r.b.length ≤ r.c) : CrSt s keep (i + 1) (setF fs r.n r.f) (rs ++ [r]) := by
  have hf := h.fresh hi
  have hm := (filesB_mem.1 (List.getElem_mem hi)).1
  have hrn : r.n < 64 := by rw [hn]; exact hm
  have hth : there (r.n : Int) := ⟨by omega, by omega⟩
  refine ⟨h.ok.setF hth ⟨hc, hl⟩, by rw [List.length_append, h.len]; rfl, ?_, ?_, ?_, ?_⟩
  · rw [List.map_append, h.n, List.map_singleton, hn, List.take_succ_eq_append_getElem hi]
  · intro q hq
    rcases List.mem_append.1 hq with hq | hq
    · exact h.b q hq
    · rw [List.mem_singleton.1 hq]; exact ⟨hb, hd, hl, hc⟩
  · intro q hq
    rw [fget_setF h.ok.keys]
    rcases List.mem_append.1 hq with hq | hq
    · have hne : q.n ≠ r.n := fun e => hf (by rw [← hn, ← e]; exact List.mem_map_of_mem hq)
      rw [if_neg (fun e => hne (by omega))]
      exact h.done q hq
    · rw [List.mem_singleton.1 hq, if_pos rfl]; rfl
  · intro k hk
    rw [List.map_append, List.map_singleton, List.mem_append, not_or] at hk
    rw [fget_setF h.ok.keys, if_neg (fun e => hk.2 (by rw [List.mem_singleton]; omega))]
    exact h.rest k hk.1
theorem idx_files {B : Nat → List UInt8} {i : Nat} (hi : i < (filesB B).length) : (filesB B).idxOf (filesB B)[i] = i := List.Nodup.idxOf_getElem (filesB_nodup B) i hi
theorem cut_at {s : Ds} {keep : List Int} {i : Nat} (hi : i < (filesB (vB s.fs)).length) : cutB (vB s.fs) (vD s.fs) keep (filesB (vB s.fs))[i] = (vB s.fs (filesB (vB s.fs))[i]).take (vD s.fs (filesB (vB s.fs))[i] + keepK keep i ((vB s.fs (filesB (vB s.fs))[i]).length - vD s.fs (filesB (vB s.fs))[i])) := by
  unfold cutB; rw [idx_files hi]
/-- what is left when all files have been cut -/
structure CrFin (s : Ds) (keep : List Int) (fs : Fs) (rs : List CrR) : Prop where
  ok : OkF fs
  n : rs.map CrR.n = filesB (vB s.fs)
  b : ∀ r, r ∈ rs → r.b = cutB (vB s.fs) (vD s.fs) keep r.n ∧ r.d = vD s.fs r.n ∧ r.d ≤ r.b.length ∧ r.b.length ≤ r.c
  mem : ∀ p, p ∈ fs → ∃ r, r ∈ rs ∧ (r.n : Int) = p.1 ∧ p.2 = r.f
  at_ : ∀ n, n < 64 → vB fs n = cutB (vB s.fs) (vD s.fs) keep n
theorem CrSt.fin {s : Ds} {keep : List Int} {fs : Fs} {rs : List CrR} (h : CrSt s keep (filesB (vB s.fs)).length fs rs) (hok : OkF s.fs) : CrFin s keep fs rs := by
  have hn : rs.map CrR.n = filesB (vB s.fs) := by rw [h.n, List.take_length]
  refine ⟨h.ok, hn, h.b, fun p hp => ?_, fun n hn64 => ?_⟩
  · have h1 := h.ok.fits p hp
    obtain ⟨k, hk⟩ : ∃ k : Nat, p.1 = k := ⟨p.1.toNat, by omega⟩
    have h2 : fget fs k = p.2 := fget_mem h.ok.keys (by rw [← hk]; exact hp)
    by_cases hm : k ∈ rs.map CrR.n
    · obtain ⟨r, hr, e⟩ := List.mem_map.1 hm
      have h3 := h.done r hr
      rw [e, h2] at h3
      refine ⟨r, hr, by omega, ?_⟩
      by_cases e2 : r.b = []
      · rw [if_pos e2] at h3
        exact absurd (by rw [h3]; rfl) (h.ok.some p hp)
      · rw [if_neg e2] at h3; exact h3
    · have h3 := h.rest k hm
      rw [hn] at hm
      exfalso
      refine hm (filesB_mem.2 ⟨by omega, ?_⟩)
      unfold vB
      rw [← h3, h2]
      exact h.ok.some p hp
  · by_cases hm : n ∈ rs.map CrR.n
    · obtain ⟨r, hr, e⟩ := List.mem_map.1 hm
      have h3 := h.done r hr
      rw [e] at h3
      show (fget fs n).b = _
      rw [h3]
      have h4 := (h.b r hr).1
      rw [e] at h4
      by_cases e2 : r.b = []
      · rw [if_pos e2]; show [] = _; rw [← h4, e2]
      · rw [if_neg e2]; exact h4
    · have h3 := h.rest n hm
      rw [hn] at hm
      have h4 : vB s.fs n = [] := by
        by_cases e : vB s.fs n = []
        · exact e
        · exact absurd (filesB_mem.2 ⟨hn64, e⟩) hm
      show (fget fs n).b = _
      rw [h3]
      show vB s.fs n = _
      unfold cutB; rw [h4, List.take_nil]
theorem crLoose_eq {s : Ds} {keep : List Int} {fs : Fs} {rs : List CrR} (h : CrFin s keep fs rs) : (crLoose rs).map (fun x => (x.1.n, x.2)) = looseB (vB s.fs) (vD s.fs) keep := by
  unfold crLoose looseB
  rw [← h.n, List.map_flatMap, List.flatMap_map]
  have h1 : ∀ (l : List CrR), (∀ r, r ∈ l → r ∈ rs) → l.flatMap (fun a => List.map (fun x : CrR × Nat => (x.1.n, x.2)) (List.map (fun j => (a, j)) (List.range' a.d (a.b.length - a.d)))) = l.flatMap fun a => List.map (fun j => (a.n, j)) (List.range' (vD s.fs a.n) ((cutB (vB s.fs) (vD s.fs) keep a.n).length - vD s.fs a.n)) := by
    intro l
    induction l with
    | nil => intro _; rfl
    | cons r l ih =>
      intro hl
      rw [List.flatMap_cons, List.flatMap_cons, ih (fun q hq => hl q (.tail _ hq))]
      have h2 := h.b r (hl r (.head _))
      rw [List.map_map, ← h2.1, ← h2.2.1]
      rfl
  exact h1 rs fun r hr => hr
/-- one bit of one file inverted -/
def flipF (fs : Fs) (n j r : Nat) : Fs := fs.map fun p => if p.1 = (n : Int) then (p.1, { p.2 with b := turnB p.2.b j r }) else p
theorem flipF_fsV (fs : Fs) (n j r : Nat) : fsV (flipF fs n j r) = fsV fs := by
  unfold fsV flipF
  rw [List.map_map]
  refine List.map_congr_left fun p _ => ?_
  show ((if p.1 = (n : Int) then (p.1, { p.2 with b := turnB p.2.b j r }) else p).1, flV (if p.1 = (n : Int) then (p.1, { p.2 with b := turnB p.2.b j r }) else p).2) = _
  split
  · show (p.1, flV { p.2 with b := turnB p.2.b j r }) = _
    unfold flV flC; simp only [turnB_len]
  · rfl
theorem fget_flipF (n j r : Nat) : ∀ (fs : Fs) (k : Nat), vB (flipF fs n j r) k = if k = n then turnB (vB fs k) j r else vB fs k
  | [], k => by
    show [] = if k = n then turnB [] j r else []
    unfold turnB; simp
  | p :: l, k => by
    have e0 : flipF (p :: l) n j r = (if p.1 = (n : Int) then (p.1, { p.2 with b := turnB p.2.b j r }) else p) :: flipF l n j r := rfl
    have e1 : (if p.1 = (n : Int) then (p.1, { p.2 with b := turnB p.2.b j r }) else p).1 = p.1 := by split <;> rfl
    unfold vB
    rw [e0, fget, e1, fget]
    by_cases e : p.1 = (k : Int)
    · rw [if_pos e, if_pos e]
      by_cases e2 : k = n
      · rw [if_pos e2, if_pos (by rw [e, e2])]
      · rw [if_neg e2, if_neg (by rw [e]; omega)]
    · rw [if_neg e, if_neg e]; exact fget_flipF n j r l k
theorem OkF.flip {fs : Fs} {n j r : Nat} (h : OkF fs) : OkF (flipF fs n j r) := by
  have e1 : ∀ p : Int × Fl, (if p.1 = (n : Int) then (p.1, { p.2 with b := turnB p.2.b j r }) else p).1 = p.1 := fun p => by split <;> rfl
  have hk : (flipF fs n j r).map Prod.fst = fs.map Prod.fst := by
    unfold flipF; rw [List.map_map]; exact List.map_congr_left fun p _ => e1 p
  refine ⟨by rw [hk]; exact h.keys, fun p hp => ?_, fun p hp => ?_, fun p hp => ?_⟩ <;> obtain ⟨q, hq, rfl⟩ := List.mem_map.1 hp
  · rw [e1]; exact h.fits q hq
  · split
    · show (turnB q.2.b j r).length ≤ q.2.c ∧ q.2.dur ≤ (turnB q.2.b j r).length
      rw [turnB_len]; exact h.each q hq
    · exact h.each q hq
  · split
    · intro e
      have := congrArg List.length e
      rw [turnB_len] at this
      exact h.some q hq (List.eq_nil_of_length_eq_zero this)
    · exact h.some q hq
/-- the files that a crash leaves, ahead of the hardening -/
structure CrEnd (s : Ds) (keep : List Int) (flip : Int) (fs : Fs) : Prop where
  ok : OkF fs
  b : ∀ n, n < 64 → vB fs n = crashB (vB s.fs) (vD s.fs) keep flip n
theorem CrFin.noFlip {s : Ds} {keep : List Int} {fs : Fs} {rs : List CrR} {flip : Int} (h : CrFin s keep fs rs) (hf : flip < 0 ∨ (crLoose rs).length = 0) : CrEnd s keep flip fs := by
  refine ⟨h.ok, fun n hn => ?_⟩
  rw [h.at_ n hn]
  unfold crashB
  split
  · rfl
  · rename_i h0
    have h1 := hf.resolve_left h0
    have h2 := congrArg List.length (crLoose_eq h)
    rw [List.length_map, h1] at h2
    rw [List.eq_nil_of_length_eq_zero h2.symm]
    rfl
theorem CrFin.flip {s : Ds} {keep : List Int} {fs : Fs} {rs : List CrR} {flip : Int} (h : CrFin s keep fs rs) (hf : ¬ flip < 0) (q : Nat) (hq : q = flip.toNat % (8 * (crLoose rs).length)) (h1 : q / 8 < (crLoose rs).length) :
    CrEnd s keep flip (flipF fs (crLoose rs)[q / 8].1.n (crLoose rs)[q / 8].2 (q % 8)) := by
  have h2 := crLoose_eq h
  have hl : (looseB (vB s.fs) (vD s.fs) keep).length = (crLoose rs).length := by rw [← h2, List.length_map]
  refine ⟨h.ok.flip, fun n hn => ?_⟩
  rw [fget_flipF, h.at_ n hn]
  unfold crashB
  rw [if_neg hf, hl, ← hq]
  have h3 : (looseB (vB s.fs) (vD s.fs) keep)[q / 8]? = some ((crLoose rs)[q / 8].1.n, (crLoose rs)[q / 8].2) := by
    rw [← h2, List.getElem?_map, List.getElem?_eq_getElem h1]; rfl
  rw [h3]
theorem CrEnd.crash {s : Ds} {keep : List Int} {flip : Int} {fs : Fs} (h : CrEnd s keep flip fs) : CrashR s keep flip ⟨s.m, hard fs, s.room, false, false, s.left⟩ :=
  ⟨rfl, rfl, rfl, rfl, rfl, h.ok.hard, fun n hn => by
    show vB (hard fs) n = _
    unfold vB; rw [fget_hard]; exact h.b n hn, fun n _ => by
    show vD (hard fs) n = (vB (hard fs) n).length
    unfold vD vB; rw [fget_hard]; rfl⟩
/-! ### In memory -/
theorem St.crKeep {w : World} {e : Nat} : ∀ {rs : List CrR} {M : List HP} {F : List Fact}, St w (rs.map (crOwn e) ++ M) F → ∃ G : List Fact, (∀ φ, φ ∈ F → φ ∈ G) ∧ (∀ r, r ∈ rs → ArrF r.oa (bytesV r.b) ∈ G) ∧ St w M G
  | [], M, F, h => ⟨F, fun _ h => h, fun r hr => absurd hr (by simp), h⟩
  | r :: rs, M, F, h => by
    have h1 : St w (rs.map (crOwn e) ++ M) (ArrF r.oa (bytesV r.b) :: F) := St.keepSl (M := rs.map (crOwn e) ++ M) h
    obtain ⟨G, g1, g2, g3⟩ := St.crKeep h1
    refine ⟨G, fun φ hφ => g1 φ (.tail _ hφ), fun q hq => ?_, g3⟩
    rcases List.mem_cons.1 hq with e1 | hq
    · rw [e1]; exact g1 _ (.head _)
    · exact g2 q hq
theorem St.crAll {w : World} {e : Nat} {rs : List CrR} {M : List HP} {F : List Fact} {fs : Fs} (h : St w (Al (rs.map (crOwn e)) :: M) F) (hm : ∀ p, p ∈ fs → ∃ r, r ∈ rs ∧ p.2.oa = r.oa ∧ p.2.b = r.b) : St w M (AllF fs :: F) := by
  obtain ⟨G, g1, g2, g3⟩ := St.crKeep h.alOpen
  have h1 := g3.derive (ψ := AllF fs) fun K hf p hp => by
    obtain ⟨r, hr, e1, e2⟩ := hm p hp
    rw [e1, e2]
    exact hf _ (g2 r hr)
  refine h1.facts fun φ hφ => ?_
  rcases List.mem_cons.1 hφ with e | hφ
  · exact e ▸ .head _
  · exact .tail _ (g1 φ hφ)
/-- a row with one bit inverted -/
def CrR.turn (r : CrR) (j q : Nat) : CrR := { r with b := turnB r.b j q }
theorem turn_mem {s : Ds} {keep : List Int} {fs : Fs} {rs : List CrR} (h : CrFin s keep fs rs) {i j q : Nat} (hi : i < rs.length) : ∀ p, p ∈ flipF fs rs[i].n j q → ∃ r, r ∈ rs.take i ++ rs[i].turn j q :: rs.drop (i + 1) ∧ p.2.oa = r.oa ∧ p.2.b = r.b := by
  intro p hp
  obtain ⟨p0, hp0, rfl⟩ := List.mem_map.1 hp
  obtain ⟨r, hr, e1, e2⟩ := h.mem p0 hp0
  have hnd : (rs.map CrR.n).Nodup := by rw [h.n]; exact filesB_nodup _
  by_cases e : p0.1 = (rs[i].n : Int)
  · rw [if_pos e]
    have hrr : r = rs[i] := by
      obtain ⟨k, hk, ek⟩ := List.getElem_of_mem hr
      have h3 : (rs.map CrR.n)[k]'(by simpa using hk) = (rs.map CrR.n)[i]'(by simpa using hi) := by
        rw [List.getElem_map, List.getElem_map, ek]; omega
      have := nodup_inj hnd _ _ h3
      subst this
      exact ek.symm
    refine ⟨rs[i].turn j q, by simp, ?_, ?_⟩
    · show p0.2.oa = _; rw [e2, hrr]; rfl
    · show turnB p0.2.b j q = _; rw [e2, hrr]; rfl
  · rw [if_neg e]
    refine ⟨r, ?_, by rw [e2]; rfl, by rw [e2]; rfl⟩
    obtain ⟨k, hk, ek⟩ := List.getElem_of_mem hr
    have hki : k ≠ i := fun e3 => e (by subst e3; rw [ek]; omega)
    rw [List.mem_append, List.mem_cons]
    rcases Nat.lt_or_gt_of_ne hki with h4 | h4
    · refine .inl ?_
      rw [← ek]
      exact List.mem_take_iff_getElem.2 ⟨k, by omega, rfl⟩
    · refine .inr (.inr ?_)
      rw [← ek]
      exact List.mem_drop_iff_getElem.2 ⟨k - (i + 1), by omega, by congr 1; omega⟩
theorem crPtrs_len (rs : List CrR) : (crPtrs rs).length = (crLoose rs).length := by unfold crPtrs; rw [List.length_map]
theorem crPtrs_one (rs : List CrR) : (crPtrs rs).all Value.oneCell' = true := by
  unfold crPtrs
  rw [List.all_map, List.all_eq_true]
  intro x _; rfl
theorem keepK_some {keep : List Int} {i room : Nat} {v : Int} (h : keep[i]? = some v) : ((keepK keep i room : Nat) : Int) = max 0 (min v (room : Int)) := by
  unfold keepK; rw [h]; show (((max 0 (min v (room : Int))).toNat : Nat) : Int) = _; omega
theorem keepK_none {keep : List Int} {i room : Nat} (h : keep.length ≤ i) : keepK keep i room = 0 := by
  unfold keepK; rw [List.getElem?_eq_none h]
theorem crLoose_bound {m : Nat} : ∀ {rs : List CrR}, (∀ r, r ∈ rs → r.b.length ≤ m) → (crLoose rs).length ≤ rs.length * m
  | [], _ => by simp [crLoose]
  | r :: rs, h => by
    have e : crLoose (r :: rs) = (List.range' r.d (r.b.length - r.d)).map (fun j => (r, j)) ++ crLoose rs := rfl
    rw [e, List.length_append, List.length_map, List.length_range', List.length_cons, Nat.succ_mul]
    have h1 := h r (.head _)
    have h2 := crLoose_bound (rs := rs) fun q hq => h q (.tail _ hq)
    omega
/-- the pointers of the rows, and of those bytes of one more that have been met -/
def crPL (rs : List CrR) (r : CrR) (j : Nat) : List Value := crPtrs rs ++ (List.range' r.d (j - r.d)).map (crPtr r)
theorem crPL_start (rs : List CrR) (r : CrR) : crPL rs r r.d = crPtrs rs := by unfold crPL; rw [Nat.sub_self]; simp
theorem crPL_step {rs : List CrR} {r : CrR} {j : Nat} (h : r.d ≤ j) : crPL rs r (j + 1) = crPL rs r j ++ [crPtr r j] := by
  unfold crPL
  rw [show j + 1 - r.d = (j - r.d) + 1 from by omega, List.range'_concat, List.map_append, List.append_assoc]
  congr 2
  simp only [List.map_singleton, Nat.one_mul]
  rw [show r.d + (j - r.d) = j from by omega]
theorem crPL_end (rs : List CrR) (r : CrR) : crPL rs r r.b.length = crPtrs (rs ++ [r]) := by
  unfold crPL crPtrs
  rw [crLoose_snoc, List.map_append, List.map_map]; rfl
theorem crPL_len {rs : List CrR} {r : CrR} {j : Nat} (h : r.d ≤ j) : (crPL rs r j).length = (crLoose rs).length + (j - r.d) := by
  unfold crPL; rw [List.length_append, crPtrs_len, List.length_map, List.length_range']
theorem crPL_one (rs : List CrR) (r : CrR) (j : Nat) : (crPL rs r j).all Value.oneCell' = true := by
  unfold crPL
  rw [List.all_append, crPtrs_one, List.all_map, Bool.true_and, List.all_eq_true]
  intro x _; rfl
theorem crPtr_at {r : CrR} {g : Nat} (h : r.oa = some ⟨g, 0, none⟩) (j : Nat) : crPtr r j = .pointer (some ⟨g, 0 + j * 1, none⟩) := by
  unfold crPtr; rw [h]; show Value.pointer (some (Addr.add ⟨g, 0, none⟩ (j * 1))) = _; rw [addr_add]
theorem CrSt.few {s : Ds} {keep : List Int} {i : Nat} {fs : Fs} {rs : List CrR} (h : CrSt s keep i fs rs) (hi : i ≤ (filesB (vB s.fs)).length) {m : Nat} (hu : used s.fs ≤ m) : (crLoose rs).length ≤ 64 * m := by
  refine Nat.le_trans (crLoose_bound (m := m) fun r hr => ?_) (Nat.mul_le_mul_right m ?_)
  · rw [(h.b r hr).1]
    exact Nat.le_trans (cutB_len _ _ _ _) (Nat.le_trans (fget_used s.fs r.n) hu)
  · rw [h.len]; exact Nat.le_trans hi (filesB_len _)
theorem St.crPick {w : World} {M : List HP} {F : List Fact} {e : Nat} {rs : List CrR} {i : Nat} (hi : i < rs.length) (hne : rs[i].b ≠ []) (h : St w (Al (rs.map (crOwn e)) :: M) F) :
    ∃ g, rs[i].oa = some ⟨g, 0, none⟩ ∧ St w (crOwn e rs[i] :: Al ((rs.take i).map (crOwn e)) :: Al ((rs.drop (i + 1)).map (crOwn e)) :: M) F := by
  have h1 := St.alCut i (by simpa using hi) h
  rw [List.getElem_map, ← List.map_take, ← List.map_drop] at h1
  refine own_at (i := 0) (M := crOwn e rs[i] :: _) rfl ?_ h1
  intro e0
  exact hne (List.eq_nil_of_length_eq_zero (by have := congrArg List.length e0; rwa [bytesV_length] at this))
theorem St.crBack {w : World} {M : List HP} {F : List Fact} {e : Nat} {rs : List CrR} {i : Nat} (hi : i < rs.length) {r : CrR} (h : St w (crOwn e r :: Al ((rs.take i).map (crOwn e)) :: Al ((rs.drop (i + 1)).map (crOwn e)) :: M) F) :
    St w (Al ((rs.take i ++ r :: rs.drop (i + 1)).map (crOwn e)) :: M) F := by
  have h1 := St.alJoin h
  rw [List.map_append, List.map_cons]
  exact h1
theorem flip_byte (x : UInt8) {q : Nat} (hq : q < 8) : B8 (x.toNat ^^^ (1 * 2 ^ (7 - q) % 256)) = .int .u8 ((flipB x q).toNat : Int) := by
  have h1 : 2 ^ (7 - q) < 256 := Nat.lt_of_le_of_lt (Nat.pow_le_pow_right (by omega) (show 7 - q ≤ 7 by omega)) (by decide)
  have h2 : 1 * 2 ^ (7 - q) % 256 = 2 ^ (7 - q) := by rw [Nat.one_mul, Nat.mod_eq_of_lt h1]
  have h3 : x.toNat ^^^ 2 ^ (7 - q) < 256 := Nat.xor_lt_two_pow (n := 8) x.toNat_lt h1
  rw [h2]
  unfold flipB
  rw [u8_ofNat h3]
theorem turn_bytes {b : List UInt8} {j q : Nat} (hj : j < b.length) (hq : q < 8) : (bytesV b).take (0 + j * 1) ++ [B8 (b[j].toNat ^^^ (1 * 2 ^ (7 - q) % 256))] ++ (bytesV b).drop (0 + j * 1 + 1) = bytesV (turnB b j q) := by
  rw [flip_byte _ hq, Nat.zero_add, Nat.mul_one]
  unfold turnB bytesV
  rw [List.getD_eq_getElem?_getD, List.getElem?_eq_getElem hj, List.map_set, List.set_eq_take_append_cons_drop, if_pos (by rw [List.length_map]; exact hj)]
  simp
end Go.GL

namespace Go.Proofs.Ytdlpaojkkekdlaa
open Go.GL
set_option linter.unusedVariables false
theorem yf_bs98_1_0 (x0 : Option Addr) : BuildSV Try.prog 98 102 1 [(0, .pointer x0)] [.pointer x0] := fun w => by kernel_rfl
theorem yf_ni98 : noInt Try.prog 98 = true := by kernel_rfl
theorem yf_ta101 : tyAgg Try.prog 101 2 = true := by kernel_rfl
theorem yf_te102 : tyElem Try.prog 102 1 8 = true := by kernel_rfl
theorem yf_tf101_0 : fieldOff Try.prog 101 0 0 = true := by kernel_rfl
theorem yf_tf101_1 : fieldOff Try.prog 101 1 1 = true := by kernel_rfl
theorem yf_tf92_0 : fieldOff Try.prog 92 0 0 = true := by kernel_rfl
theorem yf_tf92_2 : fieldOff Try.prog 92 2 2 = true := by kernel_rfl
theorem yf_tf92_3 : fieldOff Try.prog 92 3 3 = true := by kernel_rfl
theorem yf_tl22 : tySlice Try.prog 22 3 = true := by kernel_rfl
theorem yf_tl23 : tySlice Try.prog 23 5 = true := by kernel_rfl
theorem yf_tl98 : tySlice Try.prog 98 102 = true := by kernel_rfl
theorem yf_tm90 : tyMap Try.prog 90 3 101 = true := by kernel_rfl
theorem yf_ts102 : tyScalar Try.prog 102 = true := by kernel_rfl
theorem yf_ts23 : tyScalar Try.prog 23 = true := by kernel_rfl
theorem yf_ts3 : tyScalar Try.prog 3 = true := by kernel_rfl
theorem yf_ts4 : tyScalar Try.prog 4 = true := by kernel_rfl
theorem yf_ts5 : tyScalar Try.prog 5 = true := by kernel_rfl
theorem yf_ts90 : tyScalar Try.prog 90 = true := by kernel_rfl
theorem yf_tz101 : tySize Try.prog 101 2 = true := by kernel_rfl
theorem yf_tz102 : tySize Try.prog 102 1 = true := by kernel_rfl
theorem yf_tz3 : tySize Try.prog 3 1 = true := by kernel_rfl
theorem yf_tz5 : tySize Try.prog 5 1 = true := by kernel_rfl
structure CrX where
  i : Nat
  rs : List CrR
  fs : Fs
  oa : Option Addr
  c : Nat

structure CrY where
  j : Nat
  oa : Option Addr
  c : Nat

set_option maxHeartbeats 2000000 in
theorem crash_spec {keep : List Int} {flip : Int} {ok : Option Addr} {ck : Nat} {b : Nat} {s : Ds} {M : List HP} {F : List Fact} (hok : OkF s.fs) (hA : AllF s.fs ∈ F) (hK : ArrF ok (ints keep) ∈ F) (hks : IntsOk keep) (hu : used s.fs ≤ 16777216) (hflip : I64 flip) : Ctr Try.prog 31 [.pointer (some ⟨b, 0, none⟩), .slice ok keep.length ck, I flip] (Box b 92 (dkC s) :: MpB s.m (fsV s.fs) :: M) F {t : Ds // CrashR s keep flip t} (fun _ => .tuple #[]) (fun t => Box b 92 (dkC t.1) :: MpB t.1.m (fsV t.1.fs) :: M) (fun t => AllF t.1.fs :: F) := by
  refine Ctr.body Try.func31 rfl rfl ?_
  refine TR.seq ?_
  refine TR.region ?_
  refine RL.assign rfl rfl rfl ?_
  refine RL.nil ?_
  refine NX.seq ?_
  refine TR.seq ?_
  refine TR.seq ?_
  refine TR.region ?_
  refine RL.move rfl rfl rfl ?_
  refine RL.call rfl rfl Try.call62 rfl (files_spec hok) (fun ks => ?_)
  have hfs := files_srt hok
  have hfl := filesB_len (vB s.fs)
  rw [hfs]
  refine RL.weak (fun w hw => hw.keepSl) ?_
  refine RL.lenSlice rfl yf_tl22 rfl rfl ?_
  refine RL.move rfl rfl rfl ?_
  refine RL.nil ?_
  refine NX.seq ?_
  refine TR.block ?_
  refine TR.loopP (ι := CrX) (fun x => CrSt s keep x.i x.fs x.rs ∧ x.i ≤ (filesB (vB s.fs)).length) (fun x => [(0, .pointer (some ⟨b, 0, none⟩)), (1, .slice ok keep.length ck), (2, I flip), (6, .slice x.oa (crPtrs x.rs).length x.c), (15, .slice ks.1 ((filesB (vB s.fs)).map fun n : Nat => (n : Int)).length ks.2), (16, I (((filesB (vB s.fs)).map fun n : Nat => (n : Int)).length : Nat)), (17, I x.i)]) (fun x => OwnSl 102 1 x.oa (crPtrs x.rs).length x.c (crPtrs x.rs) :: Al (x.rs.map (crOwn 5)) :: Box b 92 (dkC (⟨s.m, x.fs, s.room, s.off, s.armed, s.left⟩ : Ds)) :: MpB s.m (fsV x.fs) :: M) (fun x => ArrF ks.1 (ints ((filesB (vB s.fs)).map fun n : Nat => (n : Int))) :: F) (fun x => (filesB (vB s.fs)).length - x.i) ⟨0, [], s.fs, none, 0⟩ ⟨CrSt.init hok, Nat.zero_le _⟩ ⟨rfl, rfl, rfl, rfl, rfl, rfl, rfl, trivial⟩ (fun w hw => OwnSl.nil_new 102 1 hw.alNil) (fun x hx => ?_)
  refine TR.seq ?_
  refine TR.region ?_
  refine RL.bin rfl rfl rfl BinV.lss rfl ?_
  refine RL.nil ?_
  refine NX.seq ?_
  refine TR.seq ?_
  refine TR.cond rfl (fun h1 => ?_) (fun h1 => ?_)
  · skip
    have hi : x.i < (filesB (vB s.fs)).length := by have h9 := of_decide_eq_true h1; simp only [List.length_map] at h9; omega
    obtain ⟨kf, hkf⟩ : ∃ kf, kf = (filesB (vB s.fs))[x.i] := ⟨_, rfl⟩
    have hkm := filesB_mem.1 (hkf ▸ List.getElem_mem hi : kf ∈ (filesB (vB s.fs)))
    have hkf64 : I64 (kf : Int) := ⟨by omega, by omega⟩
    have hfk : fget x.fs (kf : Int) = fget s.fs (kf : Int) := hx.1.rest kf (by rw [hkf]; exact hx.1.fresh hi)
    have hfe := fget_each hok (kf : Int)
    have hfu := fget_used s.fs (kf : Int)
    have hfe1 : (vB s.fs kf).length ≤ (fget s.fs (kf : Int)).c := hfe.1
    have hfe2 : vD s.fs kf ≤ (vB s.fs kf).length := hfe.2
    have hfu1 : (vB s.fs kf).length ≤ used s.fs := hfu
    have hvd : vD s.fs kf = (fget s.fs (kf : Int)).dur := rfl
    have hvb : (vB s.fs kf).length = (fget s.fs (kf : Int)).b.length := rfl
    have hFl : ((filesB (vB s.fs)).map fun n : Nat => (n : Int)).length = (filesB (vB s.fs)).length := List.length_map _
    have hkk := keepK_le keep x.i ((vB s.fs kf).length - vD s.fs kf)
    have hkv : (ints ((filesB (vB s.fs)).map fun n : Nat => (n : Int)))[((x.i : Nat) : Int).toNat * 1]? = some (I ((kf : Nat) : Int)) := by
      rw [Int.toNat_natCast, Nat.mul_one, List.getElem?_map, List.getElem?_map, List.getElem?_eq_getElem hi, hkf]; rfl
    have hlb := hx.1.few (Nat.le_of_lt hi) hu
    refine TR.openP (open_arr (oa := ks.1) (xs := ints ((filesB (vB s.fs)).map fun n : Nat => (n : Int))) (.head _) (by intro e; have := congrArg List.length e; simp only [List.length_map] at this; rw [List.length_nil] at this; omega)) (fun pq hpa => ?_)
    refine TR.skip ?_
    refine NX.seq ?_
    refine TR.seq ?_
    refine TR.block ?_
    refine TR.seq ?_
    refine TR.region ?_
    refine RL.move rfl rfl rfl ?_
    refine RL.indexAddr rfl yf_tl22 yf_tz3 (congrArg (fun a => some (Value.slice a _ _)) hpa) rfl (by omega) (by omega) rfl ?_
    refine RL.loadF rfl rfl (fun w K hF => run_loadCell1 (j := ((x.i : Nat) : Int).toNat * 1) (v := I ((kf : Nat) : Int)) (hF (CellsF pq.1 pq.2 (ints ((filesB (vB s.fs)).map fun n : Nat => (n : Int)))) (.head _)) yf_ts3 hkv) rfl ?_
    refine RL.assign rfl rfl rfl ?_
    refine RL.assign rfl rfl rfl ?_
    refine RL.nil ?_
    refine NX.seq ?_
    refine TR.seq ?_
    refine TR.region ?_
    refine RL.move rfl rfl rfl ?_
    refine RL.nilCheck rfl rfl rfl ?_
    refine RL.fieldAddr rfl yf_tf92_0 rfl rfl ?_
    refine RL.load1 2 rfl yf_ts90 rfl rfl rfl rfl ?_
    refine RL.move rfl rfl rfl ?_
    refine RL.lookupF 3 rfl yf_tm90 rfl rfl hkf64 rfl Try.zeroValue101 rfl ?_
    rw [hfk]
    refine RL.allocA rfl Try.zeroValue101 rfl (fun fb => ?_)
    refine RL.storeA 0 rfl rfl rfl rfl yf_tz101 rfl rfl ?_
    refine RL.nil ?_
    refine NX.seq ?_
    refine TR.seq ?_
    refine TR.region ?_
    refine RL.assign rfl rfl rfl ?_
    refine RL.nil ?_
    refine NX.seq ?_
    refine TR.cut (ι := Unit) (fun _ => [(0, .pointer (some ⟨b, 0, none⟩)), (1, .slice ok keep.length ck), (2, I flip), (6, .slice x.oa (crPtrs x.rs).length x.c), (7, I x.i), (8, I (kf : Int)), (9, .pointer (some ⟨fb, 0, none⟩)), (10, I ((keepK keep x.i ((vB s.fs kf).length - vD s.fs kf)) : Nat)), (15, .slice ks.1 ((filesB (vB s.fs)).map fun n : Nat => (n : Int)).length ks.2), (16, I (((filesB (vB s.fs)).map fun n : Nat => (n : Int)).length : Nat)), (17, I x.i)]) (fun _ => Box fb 101 (flC (fget s.fs (kf : Int))) :: Box b 92 (dkC (⟨s.m, x.fs, s.room, s.off, s.armed, s.left⟩ : Ds)) :: MpB s.m (fsV x.fs) :: OwnSl 102 1 x.oa (crPtrs x.rs).length x.c (crPtrs x.rs) :: Al (x.rs.map (crOwn 5)) :: M) (fun _ => CellsF pq.1 pq.2 (ints ((filesB (vB s.fs)).map fun n : Nat => (n : Int))) :: ArrF ks.1 (ints ((filesB (vB s.fs)).map fun n : Nat => (n : Int))) :: F) ?_ (fun _ => ?_)
    · skip
      refine TR.seq ?_
      refine TR.region ?_
      refine RL.move rfl rfl rfl ?_
      refine RL.move rfl rfl rfl ?_
      refine RL.lenSlice rfl yf_tl22 rfl rfl ?_
      refine RL.bin rfl rfl rfl BinV.lss rfl ?_
      refine RL.nil ?_
      refine NX.seq ?_
      refine TR.cond rfl (fun h2 => ?_) (fun h2 => ?_)
      · skip
        have hkl : x.i < keep.length := by have h9 := of_decide_eq_true h2; omega
        obtain ⟨kv, hkv2⟩ : ∃ kv, kv = keep[x.i] := ⟨_, rfl⟩
        have hkr := hks.2 kv (hkv2 ▸ List.getElem_mem hkl)
        have hkkv : (ints keep)[((x.i : Nat) : Int).toNat * 1]? = some (I kv) := by
          rw [Int.toNat_natCast, Nat.mul_one, List.getElem?_map, List.getElem?_eq_getElem hkl, hkv2]; rfl
        refine TR.openP (open_arr (oa := ok) (xs := ints keep) (.tail _ (.tail _ hK)) (ints_ne (by omega))) (fun pk hpk => ?_)
        refine TR.sub (E' := [(0, _), (1, _), (2, _), (6, _), (7, _), (8, _), (9, _), (15, _), (16, _), (17, _), (18, _), (19, _), (20, _), (21, _), (22, _), (23, _), (24, _), (25, _), (26, _), (27, _), (28, _), (29, _), (30, _), (31, _)]) ⟨rfl, rfl, rfl, rfl, rfl, rfl, rfl, rfl, rfl, rfl, rfl, rfl, rfl, rfl, rfl, rfl, rfl, rfl, rfl, rfl, rfl, rfl, rfl, rfl, trivial⟩ ?_
        refine TR.draw mixed ?_
        apply AR.more [(0, _), (1, _), (2, _), (3, _), (4, _), (5, _), (6, _), (7, _), (8, _), (9, _), (10, _), (11, _), (12, _)]
        refine AR.last [0, 1, 2, 3, 4, 5, 6, 7, 8, 9, 10, 11, 12] [0, 1, 2, 3, 4, 5, 6, 7, 8, 9, 10, 11, 12] ⟨QOne.yes rfl rfl rfl (PV.move rfl), QOne.yes rfl rfl rfl (PV.move rfl), QOne.yes rfl rfl rfl (PV.indexAddr yf_tl22 yf_tz3 (congrArg (fun a => some (Value.slice a _ _)) hpk) rfl (by omega) (by omega)), QOne.yes rfl rfl rfl (PV.loadF rfl (fun w K hF => run_loadCell1 (j := ((x.i : Nat) : Int).toNat * 1) (v := I kv) (hF (CellsF pk.1 pk.2 (ints keep)) (.head _)) yf_ts3 hkkv)), QOne.yes rfl rfl rfl (PV.fieldAddr yf_tf101_0 rfl), QOne.yes rfl rfl rfl (PV.load1 0 yf_ts23 rfl rfl rfl), QOne.yes rfl rfl rfl (PV.lenSlice yf_tl23 rfl), QOne.yes rfl rfl rfl (PV.fieldAddr yf_tf101_1 rfl), QOne.yes rfl rfl rfl (PV.load1 0 yf_ts3 rfl rfl rfl), QOne.yes rfl rfl rfl (PV.bin rfl rfl (BinV.sub _ rfl (by omega) (by omega))), QOne.yes rfl rfl rfl (PV.min rfl rfl), QOne.yes rfl rfl rfl (PV.max rfl rfl), QOne.yes rfl rfl rfl (PV.assign rfl), trivial⟩ rfl rfl rfl ?_
        refine NX.sub (E' := [(0, _), (1, _), (2, _), (6, _), (7, _), (8, _), (9, _), (10, _), (15, _), (16, _), (17, _), (18, _), (19, _), (20, _), (21, _), (22, _), (23, _), (24, _), (25, _), (26, _), (27, _), (28, _), (29, _), (30, _), (31, _), (32, _), (33, _), (34, _), (35, _), (36, _), (37, _), (38, _), (39, _), (40, _), (41, _), (42, _), (43, _)]) ⟨rfl, rfl, rfl, rfl, rfl, rfl, rfl, rfl, rfl, rfl, rfl, rfl, rfl, rfl, rfl, rfl, rfl, rfl, rfl, rfl, rfl, rfl, rfl, rfl, rfl, rfl, rfl, rfl, rfl, rfl, rfl, rfl, rfl, rfl, rfl, rfl, rfl, trivial⟩ ?_
        refine NX.meet () ⟨rfl, rfl, rfl, rfl, rfl, rfl, rfl, ?_, rfl, rfl, rfl, trivial⟩ (fun w hw => (hw.to 5 [0, 3, 4, 1, 2] 3 [1, 2] rfl))
        show some (I (max 0 (min kv (((vB s.fs kf).length : Int) - (vD s.fs kf : Int))))) = some (I ((keepK keep x.i ((vB s.fs kf).length - vD s.fs kf)) : Nat))
        rw [keepK_some (hkv2 ▸ List.getElem?_eq_getElem hkl), Int.ofNat_sub hfe2]
      · skip
        have hkl : keep.length ≤ x.i := by have h9 := of_decide_eq_false h2; omega
        refine TR.skip ?_
        refine NX.meet () ⟨rfl, rfl, rfl, rfl, rfl, rfl, rfl, ?_, rfl, rfl, rfl, trivial⟩ (fun w hw => (hw.to 5 [0, 3, 4, 1, 2] 2 [0, 1] rfl))
        rw [keepK_none hkl]; rfl
    refine TR.seq ?_
    refine TR.weak (fun w hw => hw.allF_get (k := (kf : Int)) (.tail _ (.tail _ hA))) ?_
    refine TR.region ?_
    refine RL.fieldAddr rfl yf_tf101_0 rfl rfl ?_
    refine RL.load1 0 rfl yf_ts23 rfl rfl rfl rfl ?_
    refine RL.fieldAddr rfl yf_tf101_1 rfl rfl ?_
    refine RL.load1 0 rfl yf_ts3 rfl rfl rfl rfl ?_
    refine RL.move rfl rfl rfl ?_
    refine RL.bin rfl rfl rfl (BinV.add ((vD s.fs kf + (keepK keep x.i ((vB s.fs kf).length - vD s.fs kf)) : Nat) : Int) (by omega) (by omega) (by omega)) rfl ?_
    refine RL.sliceToB (k := vD s.fs kf + (keepK keep x.i ((vB s.fs kf).length - vD s.fs kf))) (l := vB s.fs kf) rfl yf_tl23 yf_tz5 rfl rfl (by rw [List.length_take]; omega) hfe1 (.head _) rfl ?_
    refine RL.call rfl rfl Try.call61 rfl (cloneB_spec (l := ((vB s.fs kf).take (vD s.fs kf + (keepK keep x.i ((vB s.fs kf).length - vD s.fs kf))))) (rd_fact (.head _)) (by rw [List.length_take]; omega)) (fun y => ?_)
    refine RL.open1 (fun w hw => ⟨hw.ownLen.2, hw⟩) (fun hyc => ?_)
    refine RL.fieldAddr rfl yf_tf101_0 rfl rfl ?_
    refine RL.store1 1 rfl yf_ts23 rfl rfl rfl rfl rfl ?_
    refine RL.nil ?_
    refine NX.seq ?_
    refine TR.seq ?_
    refine TR.seq ?_
    refine TR.region ?_
    refine RL.fieldAddr rfl yf_tf101_1 rfl rfl ?_
    refine RL.load1 1 rfl yf_ts3 rfl rfl rfl rfl ?_
    refine RL.assign rfl rfl rfl ?_
    refine RL.nil ?_
    refine NX.seq ?_
    refine TR.block ?_
    refine TR.loopP (ι := CrY) (fun u => vD s.fs kf ≤ u.j ∧ u.j ≤ ((vB s.fs kf).take (vD s.fs kf + (keepK keep x.i ((vB s.fs kf).length - vD s.fs kf)))).length) (fun u => [(0, .pointer (some ⟨b, 0, none⟩)), (1, .slice ok keep.length ck), (2, I flip), (6, .slice u.oa (crPL x.rs (⟨kf, ((vB s.fs kf).take (vD s.fs kf + (keepK keep x.i ((vB s.fs kf).length - vD s.fs kf)))), vD s.fs kf, y.1, y.2⟩ : CrR) u.j).length u.c), (7, I x.i), (8, I (kf : Int)), (9, .pointer (some ⟨fb, 0, none⟩)), (11, I u.j), (15, .slice ks.1 ((filesB (vB s.fs)).map fun n : Nat => (n : Int)).length ks.2), (16, I (((filesB (vB s.fs)).map fun n : Nat => (n : Int)).length : Nat)), (17, I x.i)]) (fun u => OwnSl 102 1 u.oa (crPL x.rs (⟨kf, ((vB s.fs kf).take (vD s.fs kf + (keepK keep x.i ((vB s.fs kf).length - vD s.fs kf)))), vD s.fs kf, y.1, y.2⟩ : CrR) u.j).length u.c (crPL x.rs (⟨kf, ((vB s.fs kf).take (vD s.fs kf + (keepK keep x.i ((vB s.fs kf).length - vD s.fs kf)))), vD s.fs kf, y.1, y.2⟩ : CrR) u.j) :: Box fb 101 [.slice y.1 ((vB s.fs kf).take (vD s.fs kf + (keepK keep x.i ((vB s.fs kf).length - vD s.fs kf)))).length y.2, I (vD s.fs kf)] :: OwnSl 5 1 y.1 ((vB s.fs kf).take (vD s.fs kf + (keepK keep x.i ((vB s.fs kf).length - vD s.fs kf)))).length y.2 (bytesV ((vB s.fs kf).take (vD s.fs kf + (keepK keep x.i ((vB s.fs kf).length - vD s.fs kf))))) :: Al (x.rs.map (crOwn 5)) :: Box b 92 (dkC (⟨s.m, x.fs, s.room, s.off, s.armed, s.left⟩ : Ds)) :: MpB s.m (fsV x.fs) :: M) (fun u => ArrF ks.1 (ints ((filesB (vB s.fs)).map fun n : Nat => (n : Int))) :: F) (fun u => ((vB s.fs kf).take (vD s.fs kf + (keepK keep x.i ((vB s.fs kf).length - vD s.fs kf)))).length - u.j) ⟨vD s.fs kf, x.oa, x.c⟩ ⟨Nat.le_refl _, by show vD s.fs kf ≤ _; rw [List.length_take]; omega⟩ ⟨rfl, rfl, rfl, (by show some (Value.slice x.oa (crPtrs x.rs).length x.c) = some (Value.slice x.oa (crPL x.rs (⟨kf, ((vB s.fs kf).take (vD s.fs kf + (keepK keep x.i ((vB s.fs kf).length - vD s.fs kf)))), vD s.fs kf, y.1, y.2⟩ : CrR) (vD s.fs kf)).length x.c); rw [show crPL x.rs (⟨kf, ((vB s.fs kf).take (vD s.fs kf + (keepK keep x.i ((vB s.fs kf).length - vD s.fs kf)))), vD s.fs kf, y.1, y.2⟩ : CrR) (vD s.fs kf) = crPtrs x.rs from crPL_start _ _]), rfl, rfl, rfl, rfl, rfl, rfl, rfl, trivial⟩ (fun w hw => (by have h9 := (hw.to 6 [4, 1, 0, 5, 2, 3] 4 [3] rfl); rw [← show crPL x.rs (⟨kf, ((vB s.fs kf).take (vD s.fs kf + (keepK keep x.i ((vB s.fs kf).length - vD s.fs kf)))), vD s.fs kf, y.1, y.2⟩ : CrR) (vD s.fs kf) = crPtrs x.rs from crPL_start _ _] at h9; exact h9)) (fun u hq => ?_)
    refine TR.seq ?_
    refine TR.seq ?_
    refine TR.region ?_
    refine RL.move rfl rfl rfl ?_
    refine RL.fieldAddr rfl yf_tf101_0 rfl rfl ?_
    refine RL.load1 1 rfl yf_ts23 rfl rfl rfl rfl ?_
    refine RL.lenSlice rfl yf_tl23 rfl rfl ?_
    refine RL.bin rfl rfl rfl BinV.lss rfl ?_
    refine RL.nil ?_
    refine NX.seq ?_
    refine TR.cond rfl (fun h3 => ?_) (fun h3 => ?_)
    · skip
      have hj : u.j < ((vB s.fs kf).take (vD s.fs kf + (keepK keep x.i ((vB s.fs kf).length - vD s.fs kf)))).length := by have h9 := of_decide_eq_true h3; omega
      have hpl : (crPL x.rs (⟨kf, ((vB s.fs kf).take (vD s.fs kf + (keepK keep x.i ((vB s.fs kf).length - vD s.fs kf)))), vD s.fs kf, y.1, y.2⟩ : CrR) u.j).length = (crLoose x.rs).length + (u.j - vD s.fs kf) := crPL_len (r := (⟨kf, ((vB s.fs kf).take (vD s.fs kf + (keepK keep x.i ((vB s.fs kf).length - vD s.fs kf)))), vD s.fs kf, y.1, y.2⟩ : CrR)) hq.1
      have hnl : ((vB s.fs kf).take (vD s.fs kf + (keepK keep x.i ((vB s.fs kf).length - vD s.fs kf)))).length ≤ (vB s.fs kf).length := by rw [List.length_take]; omega
      refine TR.openP (fun w hw => own_at (i := 2) (M := _ :: _ :: _ :: _) rfl (bytesV_ne (b := ((vB s.fs kf).take (vD s.fs kf + (keepK keep x.i ((vB s.fs kf).length - vD s.fs kf))))) hj) hw) (fun g hga => ?_)
      refine TR.skip ?_
      refine NX.seq ?_
      refine TR.seq ?_
      refine TR.block ?_
      refine TR.region ?_
      refine RL.move rfl rfl rfl ?_
      refine RL.fieldAddr rfl yf_tf101_0 rfl rfl ?_
      refine RL.load1 1 rfl yf_ts23 rfl rfl rfl rfl ?_
      refine RL.move rfl rfl rfl ?_
      refine RL.indexAddr rfl yf_tl23 yf_tz5 (congrArg (fun a => some (Value.slice a _ _)) hga) rfl (by omega) (by omega) rfl ?_
      refine RL.buildSlice rfl rfl (yf_bs98_1_0 _) rfl (fun b4 => ?_)
      refine RL.ofGV rfl rfl (GV.append (j := 1) yf_tl98 yf_ni98 yf_te102 rfl rfl rfl (src_box (i := 0) rfl rfl rfl) (by rw [hpl]; omega) (by rw [hpl]; omega)) (fun z => ?_)
      refine RL.assign rfl rfl rfl ?_
      refine RL.nil ?_
      refine NX.off ?_
      refine NX.seq ?_
      refine TR.region ?_
      refine RL.move rfl rfl rfl ?_
      refine RL.bin rfl rfl rfl (BinV.add ((u.j + 1 : Nat) : Int) (by omega) (by omega) (by omega)) rfl ?_
      refine RL.assign rfl rfl rfl ?_
      refine RL.nil ?_
      refine NX.roundP ⟨u.j + 1, z.1, z.2⟩ ⟨by show vD s.fs kf ≤ u.j + 1; have := hq.1; omega, by show u.j + 1 ≤ ((vB s.fs kf).take (vD s.fs kf + (keepK keep x.i ((vB s.fs kf).length - vD s.fs kf)))).length; omega⟩ (by show ((vB s.fs kf).take (vD s.fs kf + (keepK keep x.i ((vB s.fs kf).length - vD s.fs kf)))).length - (u.j + 1) < _; omega) ⟨rfl, rfl, rfl, ?_, rfl, rfl, rfl, rfl, rfl, rfl, rfl, trivial⟩ (fun w hw => ?_)
      · show some (Value.slice z.1 ((crPL x.rs (⟨kf, ((vB s.fs kf).take (vD s.fs kf + (keepK keep x.i ((vB s.fs kf).length - vD s.fs kf)))), vD s.fs kf, y.1, y.2⟩ : CrR) u.j).length + 1) z.2) = some (Value.slice z.1 (crPL x.rs (⟨kf, ((vB s.fs kf).take (vD s.fs kf + (keepK keep x.i ((vB s.fs kf).length - vD s.fs kf)))), vD s.fs kf, y.1, y.2⟩ : CrR) (u.j + 1)).length z.2)
        rw [crPL_step (r := (⟨kf, ((vB s.fs kf).take (vD s.fs kf + (keepK keep x.i ((vB s.fs kf).length - vD s.fs kf)))), vD s.fs kf, y.1, y.2⟩ : CrR)) hq.1, List.length_append]; rfl
      · have h9 := (hw.to 7 [1, 2, 3, 4, 5, 6] 1 [0] rfl)
        show St w (OwnSl 102 1 z.1 (crPL x.rs (⟨kf, ((vB s.fs kf).take (vD s.fs kf + (keepK keep x.i ((vB s.fs kf).length - vD s.fs kf)))), vD s.fs kf, y.1, y.2⟩ : CrR) (u.j + 1)).length z.2 (crPL x.rs (⟨kf, ((vB s.fs kf).take (vD s.fs kf + (keepK keep x.i ((vB s.fs kf).length - vD s.fs kf)))), vD s.fs kf, y.1, y.2⟩ : CrR) (u.j + 1)) :: _) _
        rw [crPL_step (r := (⟨kf, ((vB s.fs kf).take (vD s.fs kf + (keepK keep x.i ((vB s.fs kf).length - vD s.fs kf)))), vD s.fs kf, y.1, y.2⟩ : CrR)) hq.1, List.length_append, crPtr_at (r := (⟨kf, ((vB s.fs kf).take (vD s.fs kf + (keepK keep x.i ((vB s.fs kf).length - vD s.fs kf)))), vD s.fs kf, y.1, y.2⟩ : CrR)) hga]
        exact h9
    · skip
      have hj : u.j = ((vB s.fs kf).take (vD s.fs kf + (keepK keep x.i ((vB s.fs kf).length - vD s.fs kf)))).length := by have h9 := of_decide_eq_false h3; have := hq.2; omega
      refine TR.exit ?_
      refine NX.exitThen ?_
      refine NX.exitThen ?_
      refine NX.exitHere ?_
      refine NX.seq ?_
      refine TR.region ?_
      refine RL.move rfl rfl rfl ?_
      refine RL.move rfl rfl rfl ?_
      refine RL.loadA 1 rfl rfl rfl yf_ta101 rfl ?_
      refine RL.call rfl rfl Try.call63 rfl (Ctr.pick 6 [4, 5, 0, 1, 2, 3] rfl (set_spec (s := (⟨s.m, x.fs, s.room, s.off, s.armed, s.left⟩ : Ds)) (f := (⟨kf, ((vB s.fs kf).take (vD s.fs kf + (keepK keep x.i ((vB s.fs kf).length - vD s.fs kf)))), vD s.fs kf, y.1, y.2⟩ : CrR).f) (n := (kf : Int)) hkf64)) (fun _ => ?_)
      refine RL.nil ?_
      refine NX.off ?_
      refine NX.seq ?_
      refine TR.region ?_
      refine RL.bin rfl rfl rfl (BinV.add ((x.i + 1 : Nat) : Int) (by omega) (by omega) (by omega)) rfl ?_
      refine RL.move rfl rfl rfl ?_
      refine RL.nil ?_
      refine NX.roundP ⟨x.i + 1, x.rs ++ [(⟨kf, ((vB s.fs kf).take (vD s.fs kf + (keepK keep x.i ((vB s.fs kf).length - vD s.fs kf)))), vD s.fs kf, y.1, y.2⟩ : CrR)], setF x.fs (kf : Int) (⟨kf, ((vB s.fs kf).take (vD s.fs kf + (keepK keep x.i ((vB s.fs kf).length - vD s.fs kf)))), vD s.fs kf, y.1, y.2⟩ : CrR).f, u.oa, u.c⟩ ⟨hx.1.step hok hi (r := (⟨kf, ((vB s.fs kf).take (vD s.fs kf + (keepK keep x.i ((vB s.fs kf).length - vD s.fs kf)))), vD s.fs kf, y.1, y.2⟩ : CrR)) hkf (hkf ▸ (cut_at hi).symm : ((vB s.fs kf).take (vD s.fs kf + (keepK keep x.i ((vB s.fs kf).length - vD s.fs kf)))) = cutB (vB s.fs) (vD s.fs) keep kf) rfl (by show vD s.fs kf ≤ ((vB s.fs kf).take (vD s.fs kf + (keepK keep x.i ((vB s.fs kf).length - vD s.fs kf)))).length; rw [List.length_take]; omega) hyc, by show x.i + 1 ≤ _; omega⟩ (by show (filesB (vB s.fs)).length - (x.i + 1) < _; omega) ⟨rfl, rfl, rfl, ?_, rfl, rfl, rfl, trivial⟩ (fun w hw => ?_)
      · show some (Value.slice u.oa (crPL x.rs (⟨kf, ((vB s.fs kf).take (vD s.fs kf + (keepK keep x.i ((vB s.fs kf).length - vD s.fs kf)))), vD s.fs kf, y.1, y.2⟩ : CrR) u.j).length u.c) = some (Value.slice u.oa (crPtrs (x.rs ++ [(⟨kf, ((vB s.fs kf).take (vD s.fs kf + (keepK keep x.i ((vB s.fs kf).length - vD s.fs kf)))), vD s.fs kf, y.1, y.2⟩ : CrR)])).length u.c)
        rw [hj, ← crPL_end]
      · have h9 := (hw.to 6 [4, 5, 2, 0, 1] 1 [0] rfl)
        rw [hj, show crPL x.rs (⟨kf, ((vB s.fs kf).take (vD s.fs kf + (keepK keep x.i ((vB s.fs kf).length - vD s.fs kf)))), vD s.fs kf, y.1, y.2⟩ : CrR) ((vB s.fs kf).take (vD s.fs kf + (keepK keep x.i ((vB s.fs kf).length - vD s.fs kf)))).length = crPtrs (x.rs ++ [(⟨kf, ((vB s.fs kf).take (vD s.fs kf + (keepK keep x.i ((vB s.fs kf).length - vD s.fs kf)))), vD s.fs kf, y.1, y.2⟩ : CrR)]) from crPL_end _ _] at h9
        have h8 := (show St w (crOwn 5 (⟨kf, ((vB s.fs kf).take (vD s.fs kf + (keepK keep x.i ((vB s.fs kf).length - vD s.fs kf)))), vD s.fs kf, y.1, y.2⟩ : CrR) :: Al (x.rs.map (crOwn 5)) :: _) _ from h9).alSnoc
        show St w (_ :: Al ((x.rs ++ [(⟨kf, ((vB s.fs kf).take (vD s.fs kf + (keepK keep x.i ((vB s.fs kf).length - vD s.fs kf)))), vD s.fs kf, y.1, y.2⟩ : CrR)]).map (crOwn 5)) :: _ :: _ :: M) _
        rw [List.map_append]
        exact h8.swap
  · skip
    have hi : x.i = (filesB (vB s.fs)).length := by have h9 := of_decide_eq_false h1; simp only [List.length_map] at h9; have := hx.2; omega
    have hcf : CrFin s keep x.fs x.rs := (hi ▸ hx.1).fin hok
    have hlb := hx.1.few hx.2 hu
    have hlp := crPtrs_len x.rs
    refine TR.exit ?_
    refine NX.exitThen ?_
    refine NX.exitThen ?_
    refine NX.exitHere ?_
    refine NX.seq ?_
    refine TR.cut (ι := {z : Fs // CrEnd s keep flip z}) (fun _ => [(0, .pointer (some ⟨b, 0, none⟩))]) (fun z => Box b 92 (dkC (⟨s.m, z.1, s.room, s.off, s.armed, s.left⟩ : Ds)) :: MpB s.m (fsV z.1) :: M) (fun z => AllF z.1 :: F) ?_ (fun z => ?_)
    · skip
      refine TR.seq ?_
      refine TR.region ?_
      refine RL.move rfl rfl rfl ?_
      refine RL.lenSlice rfl yf_tl98 rfl rfl ?_
      refine RL.bin rfl rfl rfl (BinV.mul ((8 * (crPtrs x.rs).length : Nat) : Int) (by omega) (by omega) (by omega)) rfl ?_
      refine RL.assign rfl rfl rfl ?_
      refine RL.nil ?_
      refine NX.seq ?_
      refine TR.seq ?_
      refine TR.region ?_
      refine RL.move rfl rfl rfl ?_
      refine RL.bin rfl rfl rfl BinV.geq rfl ?_
      refine RL.move rfl rfl rfl ?_
      refine RL.part (fun h6 => ?_) (fun h6 => ?_)
      · skip
        have hf0 := of_decide_eq_true h6
        obtain ⟨fn, hfn⟩ : ∃ fn : Nat, flip = fn := ⟨flip.toNat, by omega⟩
        refine RL.move rfl rfl rfl ?_
        refine RL.bin rfl rfl rfl BinV.gtr rfl ?_
        refine RL.pickT rfl rfl rfl rfl ?_
        refine RL.nil ?_
        refine NX.seq ?_
        refine TR.cond rfl (fun h7 => ?_) (fun h7 => ?_)
        · skip
          have hmany := of_decide_eq_true h7
          refine TR.seq ?_
          subst hfn
          refine TR.region ?_
          refine RL.move rfl rfl rfl ?_
          refine RL.move rfl rfl rfl ?_
          refine RL.bin rfl rfl rfl (BinV.remK (a := fn) (b := 8 * (crPtrs x.rs).length) (by omega)) rfl ?_
          refine RL.assign rfl rfl rfl ?_
          refine RL.nil ?_
          refine NX.seq ?_
          obtain ⟨q, hqd⟩ : ∃ q, q = fn % (8 * (crPtrs x.rs).length) := ⟨_, rfl⟩
          have hqlt : q < 8 * (crPtrs x.rs).length := hqd ▸ Nat.mod_lt _ (by omega)
          have hq8 : q / 8 < (crLoose x.rs).length := by omega
          obtain ⟨hm1, hm2, hm3⟩ := crLoose_mem (List.getElem_mem hq8)
          obtain ⟨ir, hir, hrow⟩ := List.getElem_of_mem hm1
          obtain ⟨jj, hjj⟩ : ∃ jj, jj = (crLoose x.rs)[q / 8].2 := ⟨_, rfl⟩
          have hjl : jj < x.rs[ir].b.length := by rw [hrow, hjj]; exact hm3
          have hcl := (hcf.b x.rs[ir] (List.getElem_mem hir)).1
          have hcl2 : x.rs[ir].b.length ≤ used s.fs := by rw [hcl]; exact Nat.le_trans (cutB_len _ _ _ _) (fget_used _ _)
          rw [← hqd]
          refine TR.openP (fun w hw => own_at (i := 0) (M := _ :: _) rfl (by intro e; have := congrArg List.length e; rw [hlp, List.length_nil] at this; omega) hw) (fun gl hgl => ?_)
          refine TR.pick 4 [1, 0, 2, 3] rfl ?_
          refine TR.openP (fun w hw => St.crPick (e := 5) hir (by intro e; rw [e] at hjl; exact absurd hjl (by simp)) hw) (fun gr hgr => ?_)
          have hpv : (crPtrs x.rs)[0 + ((q / 8 : Nat) : Int).toNat * 1]? = some (.pointer (some ⟨gr, 0 + jj * 1, none⟩)) := by
            rw [Int.toNat_natCast, Nat.zero_add, Nat.mul_one]
            unfold crPtrs
            rw [List.getElem?_map, List.getElem?_eq_getElem hq8]
            show some (crPtr (crLoose x.rs)[q / 8].1 (crLoose x.rs)[q / 8].2) = _
            rw [← hrow, ← hjj, crPtr_at hgr]
          have hbv : (bytesV x.rs[ir].b)[0 + jj * 1]? = some (B8 (x.rs[ir].b[jj]).toNat) := by
            rw [Nat.zero_add, Nat.mul_one]; unfold bytesV; rw [List.getElem?_map, List.getElem?_eq_getElem hjl]; rfl
          refine TR.sub (E' := [(0, _), (1, _), (2, _), (6, _), (12, _), (13, _), (15, _), (16, _), (17, _), (18, _), (74, _), (75, _), (76, _), (77, _), (78, _), (79, _), (80, _), (81, _), (82, _), (83, _), (84, _), (85, _)]) ⟨rfl, rfl, rfl, rfl, rfl, rfl, rfl, rfl, rfl, rfl, rfl, rfl, rfl, rfl, rfl, rfl, rfl, rfl, rfl, rfl, rfl, rfl, trivial⟩ ?_
          refine TR.draw mixed ?_
          apply AR.more [(0, _), (1, _), (2, _), (3, _), (4, _), (5, _), (6, _), (7, _), (8, _), (9, _), (10, _), (11, _), (12, _)]
          refine AR.eff [0, 1, 2, 3, 4, 5, 6, 7, 8, 9, 10, 11, 12] 13 [0, 1, 2, 3, 4, 5, 6, 7, 8, 9, 10, 11, 12, 13] ⟨QOne.yes rfl rfl rfl (PV.move rfl), QOne.yes rfl rfl rfl (PV.move rfl), QOne.yes rfl rfl rfl (PV.bin rfl rfl (BinV.quo (by decide) ((q / 8 : Nat) : Int) (by rw [Int.tdiv_eq_ediv_of_nonneg (by omega)]; omega) (by omega) (by omega))), QOne.yes rfl rfl rfl (PV.indexAddr yf_tl98 yf_tz102 (congrArg (fun a => some (Value.slice a _ _)) hgl) rfl (by omega) (by omega)), QOne.yes rfl rfl rfl (PV.loadS rfl (own_one (i := 3) rfl hgl yf_ts102 hpv)), QOne.yes rfl rfl rfl (PV.nilCheck rfl), QOne.yes rfl rfl rfl (PV.loadS rfl (own_one (i := 0) rfl hgr yf_ts5 hbv)), QOne.yes rfl rfl rfl (PV.move rfl), QOne.yes rfl rfl rfl (PV.bin rfl rfl (BinV.remK (a := q) (b := 8) (by decide))), QOne.yes rfl rfl rfl (PV.bin rfl rfl (BinV.sub ((7 - q % 8 : Nat) : Int) (by omega) (by omega) (by omega))), QOne.yes rfl rfl rfl (PV.bin rfl rfl (BinV.shlB (a := 1) (s := 7 - q % 8) (by omega))), QOne.yes rfl rfl rfl (PV.bin rfl rfl (BinV.xorB (a := (x.rs[ir].b[jj]).toNat) (b := 1 * 2 ^ (7 - q % 8) % 256) (UInt8.toNat_lt _) (Nat.mod_lt _ (by decide)))), QOne.yes rfl rfl rfl (PV.nilCheck rfl), trivial⟩ rfl rfl rfl rfl rfl rfl rfl (EV.storeO (vs := [B8 ((x.rs[ir].b[jj]).toNat ^^^ (1 * 2 ^ (7 - q % 8) % 256))]) 0 rfl rfl rfl hgr yf_tz5 rfl (by rw [bytesV_length]; show 0 + jj * 1 + 1 ≤ _; omega) rfl) (fun _ => ?_)
          refine AR.done [12, 11, 0, 1, 2, 3, 4, 5, 6, 7, 8, 9, 10] rfl ?_
          refine AR.last [] [0, 1, 2, 3, 4, 5, 6, 7, 8, 9, 10, 11, 12, 13] trivial rfl rfl rfl ?_
          refine NX.sub (E' := [(0, _), (1, _), (2, _), (6, _), (12, _), (15, _), (16, _), (17, _), (18, _), (74, _), (75, _), (76, _), (77, _), (78, _), (79, _), (80, _), (81, _), (82, _), (83, _), (84, _), (85, _)]) ⟨rfl, rfl, rfl, rfl, rfl, rfl, rfl, rfl, rfl, rfl, rfl, rfl, rfl, rfl, rfl, rfl, rfl, rfl, rfl, rfl, rfl, trivial⟩ ?_
          refine NX.meet (⟨flipF x.fs x.rs[ir].n jj (q % 8), by have h9 := hcf.flip (flip := (fn : Int)) (by omega) q (by rw [Int.toNat_natCast, ← hlp]; exact hqd) hq8; rw [← hrow, ← hjj] at h9; exact h9⟩ : {z : Fs // CrEnd s keep (fn : Int) z}) ⟨rfl, trivial⟩ (fun w hw => ?_)
          have h8 : St w (OwnSl 5 1 x.rs[ir].oa x.rs[ir].b.length x.rs[ir].c ((bytesV x.rs[ir].b).take (0 + jj * 1) ++ [B8 (x.rs[ir].b[jj].toNat ^^^ (1 * 2 ^ (7 - q % 8) % 256))] ++ (bytesV x.rs[ir].b).drop (0 + jj * 1 + 1)) :: Al ((x.rs.take ir).map (crOwn 5)) :: Al ((x.rs.drop (ir + 1)).map (crOwn 5)) :: Box b 92 (dkC (⟨s.m, x.fs, s.room, s.off, s.armed, s.left⟩ : Ds)) :: MpB s.m (fsV x.fs) :: M) F := (hw.to 6 [0, 1, 2, 4, 5] 1 [] rfl)
          rw [turn_bytes hjl (Nat.mod_lt _ (by decide))] at h8
          have h7 : St w (crOwn 5 (x.rs[ir].turn jj (q % 8)) :: Al ((x.rs.take ir).map (crOwn 5)) :: Al ((x.rs.drop (ir + 1)).map (crOwn 5)) :: Box b 92 (dkC (⟨s.m, x.fs, s.room, s.off, s.armed, s.left⟩ : Ds)) :: MpB s.m (fsV x.fs) :: M) F := by
            show St w (OwnSl 5 1 x.rs[ir].oa (turnB x.rs[ir].b jj (q % 8)).length x.rs[ir].c (bytesV (turnB x.rs[ir].b jj (q % 8))) :: _) F
            rw [turnB_len]; exact h8
          have h6 := (St.crBack hir h7).crAll (turn_mem hcf (j := jj) (q := q % 8) hir)
          show St w (Box b 92 (dkC (⟨s.m, x.fs, s.room, s.off, s.armed, s.left⟩ : Ds)) :: MpB s.m (fsV (flipF x.fs x.rs[ir].n jj (q % 8))) :: M) (AllF (flipF x.fs x.rs[ir].n jj (q % 8)) :: F)
          rw [flipF_fsV]
          exact h6
        · skip
          have hno : flip < 0 ∨ (crLoose x.rs).length = 0 := Or.inr (by have h9 := of_decide_eq_false h7; omega)
          refine TR.skip ?_
          refine NX.meet (⟨x.fs, hcf.noFlip hno⟩ : {z : Fs // CrEnd s keep flip z}) ⟨rfl, trivial⟩ (fun w hw => ?_)
          exact (hw.to 4 [1, 2, 3] 1 [] rfl).crAll (fun p hp => by obtain ⟨r, h1, _, h3⟩ := hcf.mem p hp; exact ⟨r, h1, by rw [h3]; rfl, by rw [h3]; rfl⟩)
      · skip
        have hf0 := of_decide_eq_false h6
        have hno : flip < 0 ∨ (crLoose x.rs).length = 0 := Or.inl (by omega)
        refine RL.skip rfl rfl rfl ?_
        refine RL.skip rfl rfl rfl ?_
        refine RL.pickF rfl rfl rfl rfl ?_
        refine RL.nil ?_
        refine NX.seq ?_
        refine TR.condF rfl ?_
        refine TR.skip ?_
        refine NX.meet (⟨x.fs, hcf.noFlip hno⟩ : {z : Fs // CrEnd s keep flip z}) ⟨rfl, trivial⟩ (fun w hw => ?_)
        exact (hw.to 4 [1, 2, 3] 1 [] rfl).crAll (fun p hp => by obtain ⟨r, h1, _, h3⟩ := hcf.mem p hp; exact ⟨r, h1, by rw [h3]; rfl, by rw [h3]; rfl⟩)
    refine TR.seq ?_
    refine TR.region ?_
    refine RL.move rfl rfl rfl ?_
    refine RL.call rfl rfl Try.call64 rfl (harden_spec (s := (⟨s.m, z.1, s.room, s.off, s.armed, s.left⟩ : Ds)) z.2.ok) (fun _ => ?_)
    refine RL.nil ?_
    refine NX.seq ?_
    refine TR.region ?_
    refine RL.move rfl rfl rfl ?_
    refine RL.move rfl rfl rfl ?_
    refine RL.nilCheck rfl rfl rfl ?_
    refine RL.fieldAddr rfl yf_tf92_2 rfl rfl ?_
    refine RL.store1 0 rfl yf_ts4 rfl rfl rfl rfl rfl ?_
    refine RL.nilCheck rfl rfl rfl ?_
    refine RL.fieldAddr rfl yf_tf92_3 rfl rfl ?_
    refine RL.store1 0 rfl yf_ts4 rfl rfl rfl rfl rfl ?_
    refine RL.nil ?_
    refine NX.end0 (⟨⟨s.m, hard z.1, s.room, false, false, s.left⟩, z.2.crash⟩ : {t : Ds // CrashR s keep flip t}) rfl rfl (fun w hw => ?_)
    have h9 := (hw).hardF (fs := z.1) (.head _)
    exact h9.facts (fun φ h => by rcases List.mem_cons.1 h with e1 | h; exact e1 ▸ .head _; exact .tail _ (.tail _ h))

end Go.Proofs.Ytdlpaojkkekdlaa

namespace Go.GL
set_option linter.unusedVariables false
/-! ### How much is used -/
theorem sum_perm {l l' : List Nat} (h : l.Perm l') : l.sum = l'.sum := by
  induction h with
  | nil => rfl
  | cons x _ ih => rw [List.sum_cons, List.sum_cons, ih]
  | swap x y l => rw [List.sum_cons, List.sum_cons, List.sum_cons, List.sum_cons]; omega
  | trans _ _ h1 h2 => exact h1.trans h2
theorem sum_filter0 (g : Nat → Nat) (p : Nat → Bool) : ∀ (l : List Nat), (∀ n, n ∈ l → p n = false → g n = 0) → ((l.filter p).map g).sum = (l.map g).sum
  | [], _ => rfl
  | a :: l, h => by
    have ih := sum_filter0 g p l fun n hn => h n (.tail _ hn)
    rw [List.filter_cons]
    cases hp : p a with
    | true => rw [if_pos rfl, List.map_cons, List.sum_cons, List.map_cons, List.sum_cons, ih]
    | false => rw [if_neg (by simp), List.map_cons, List.sum_cons, ih, h a (.head _) hp, Nat.zero_add]
theorem used_view {fs : Fs} (h : OkF fs) : used fs = ((List.range 64).map fun n => (vB fs n).length).sum := by
  rw [← used_sumK h.keys]
  have h1 : (fs.map Prod.fst).Perm ((filesB (vB fs)).map fun n : Nat => (n : Int)) := (srt_perm _).symm.trans (List.Perm.of_eq (files_srt h))
  unfold sumK
  rw [sum_perm (h1.map fun k => (fget fs k).b.length), List.map_map]
  refine sum_filter0 (fun n => (vB fs n).length) (fun n => !(vB fs n).isEmpty) _ fun n _ hp => ?_
  have : (vB fs n).isEmpty = true := by simpa using hp
  rw [List.isEmpty_iff.1 this]; rfl
theorem sum_le {g g' : Nat → Nat} : ∀ {l : List Nat}, (∀ n, n ∈ l → g n ≤ g' n) → (l.map g).sum ≤ (l.map g').sum
  | [], _ => Nat.le_refl _
  | a :: l, h => by
    rw [List.map_cons, List.sum_cons, List.map_cons, List.sum_cons]
    have := h a (.head _); have := sum_le (l := l) fun n hn => h n (.tail _ hn); omega
theorem used_mono {fs fs' : Fs} (h : OkF fs) (h' : OkF fs') (hle : ∀ n, n < 64 → (vB fs n).length ≤ (vB fs' n).length) : used fs ≤ used fs' := by
  rw [used_view h, used_view h']
  exact sum_le fun n hn => hle n (List.mem_range.1 hn)
theorem CrashR.used {s t : Ds} {keep : List Int} {flip : Int} (h : CrashR s keep flip t) (hok : OkF s.fs) : used t.fs ≤ used s.fs := used_mono h.ok hok fun n hn => by
  rw [h.b n hn, crashB_len]; exact cutB_len _ _ _ _
/-! ### Files by their bytes -/
theorem vB_setF {fs : Fs} {n : Nat} {f : Fl} (h : OkF fs) (k : Nat) : vB (setF fs n f) k = if k = n then f.b else vB fs k := by
  show (fget (setF fs n f) k).b = _
  rw [fget_setF h.keys]
  by_cases e : k = n
  · rw [if_pos e, if_pos (by omega)]
    by_cases e2 : f.b = []
    · rw [if_pos e2, e2]; rfl
    · rw [if_neg e2]
  · rw [if_neg e, if_neg (by omega)]; rfl
theorem vD_setF {fs : Fs} {n : Nat} {f : Fl} (h : OkF fs) (k : Nat) : vD (setF fs n f) k = if k = n then (if f.b = [] then 0 else f.dur) else vD fs k := by
  show (fget (setF fs n f) k).dur = _
  rw [fget_setF h.keys]
  by_cases e : k = n
  · rw [if_pos e, if_pos (by omega)]
    by_cases e2 : f.b = []
    · rw [if_pos e2, if_pos e2]; rfl
    · rw [if_neg e2, if_neg e2]
  · rw [if_neg e, if_neg (by omega)]; rfl
theorem vB_hard (fs : Fs) (k : Nat) : vB (hard fs) k = vB fs k := by
  show (fget (hard fs) k).b = _; rw [fget_hard]; rfl
theorem vD_hard (fs : Fs) (k : Nat) : vD (hard fs) k = (vB fs k).length := by
  show (fget (hard fs) k).dur = _; rw [fget_hard]; rfl
/-! ### The log -/
structure Lft (s : Ds) : Prop where
  lo : -1 ≤ s.left
  hi : s.left ≤ 4611686018427387904
  armed : s.armed = true → 0 ≤ s.left
structure Rm (s : Ds) : Prop where
  used : used s.fs ≤ s.room
  room : s.room ≤ 16777216
structure LogSt (s : Ds) (g : Lg) (f : Nat) (L : List (List UInt8)) : Prop where
  ok : OkF s.fs
  lft : Lft s
  rm : Rm s
  off : s.off = false
  gf : g.f = (f : Int)
  hf : f < 64
  n : g.n = L.length
  dn : g.dn = false
  b : vB s.fs f = framesJ 0 L
  hard : ∀ k, vD s.fs k = (vB s.fs k).length
structure LogDn (s : Ds) (g : Lg) (f : Nat) (L : List (List UInt8)) (x : List UInt8) : Prop where
  ok : OkF s.fs
  lft : Lft s
  rm : Rm s
  off : s.off = true
  gf : g.f = (f : Int)
  hf : f < 64
  n : g.n = L.length
  dn : g.dn = true
  b : vB s.fs f = framesJ 0 (L ++ [x])
  d : vD s.fs f = (framesJ 0 L).length
theorem step_cases (s : Ds) (h : Lft s) : (s.armed = false ∧ stepS s = s ∧ stepB s = true) ∨
    (s.armed = true ∧ 0 < s.left ∧ stepS s = { s with left := s.left - 1 } ∧ (s.off = false → stepB s = true)) ∨
    (s.armed = true ∧ s.left = 0 ∧ stepS s = { s with left := -1, off := true, armed := false } ∧ stepB s = false) := by
  by_cases ha : s.armed = true
  case neg =>
    have ha : s.armed = false := by simpa using ha
    exact .inl ⟨ha, by unfold stepS; rw [if_neg (by rw [ha]; simp)], by unfold stepB; rw [if_neg (by rw [ha]; simp)]⟩
  case pos =>
    have h0 := h.armed ha
    by_cases hl : s.left - 1 < 0
    · have e : stepS s = { s with left := s.left - 1, off := true, armed := false } := by unfold stepS; rw [if_pos ha, if_pos hl]
      have e0 : s.left = 0 := by omega
      refine .inr (.inr ⟨ha, e0, ?_, ?_⟩)
      · rw [e, e0]; rfl
      · unfold stepB; rw [if_pos ha, e]; rfl
    · have e : stepS s = { s with left := s.left - 1 } := by unfold stepS; rw [if_pos ha, if_neg hl]
      refine .inr (.inl ⟨ha, by omega, e, fun ho => ?_⟩)
      unfold stepB; rw [if_pos ha, e]
      show (!s.off) = true
      rw [ho]; rfl
theorem step_lft {s : Ds} (h : Lft s) : Lft (stepS s) := by
  rcases step_cases s h with ⟨_, e, _⟩ | ⟨ha, hl, e, _⟩ | ⟨ha, hl, e, _⟩ <;> rw [e]
  · exact h
  · exact ⟨by show -1 ≤ s.left - 1; omega, by show s.left - 1 ≤ _; have := h.hi; omega, fun _ => by show 0 ≤ s.left - 1; omega⟩
  · exact ⟨by show (-1 : Int) ≤ -1; omega, by show (-1 : Int) ≤ _; omega, fun e => by cases e⟩
theorem Lft.fs {s : Ds} (h : Lft s) (fs : Fs) : Lft { s with fs := fs } := ⟨h.lo, h.hi, h.armed⟩
/-- an Append to a log that is up -/
theorem log_append {s : Ds} {g : Lg} {f : Nat} {L : List (List UInt8)} {x : List UInt8} {z : RdX} (h : LogSt s g f L) (hx : x.length ≤ 65536) (hz : ((fget s.fs g.f).b ++ lgFr g x).length ≤ z.c) (hr : used s.fs + (lgFr g x).length ≤ s.room) :
    (lgE s g x z = 0 ∧ LogSt (lgS s g x z) (lgG s g x z) f (L ++ [x]) ∧ (s.armed = false → (lgS s g x z).armed = false) ∧ used (lgS s g x z).fs = used s.fs + (lgFr g x).length ∧ (lgS s g x z).room = s.room ∧ (∀ k, k ≠ f → vB (lgS s g x z).fs k = vB s.fs k)) ∨
    (lgE s g x z = 22 ∧ s.armed = true ∧ LogDn (lgS s g x z) (lgG s g x z) f L x ∧ used (lgS s g x z).fs = used s.fs + (lgFr g x).length ∧ (lgS s g x z).room = s.room) := by
  have hth : there g.f := by rw [h.gf]; exact ⟨by omega, by have := h.hf; omega⟩
  have h1 : ¬ s.off = true := by rw [h.off]; simp
  have h2 : ¬ g.dn = true := by rw [h.dn]; simp
  have hx2 : ¬ (65536 : Int) < x.length := by omega
  have hroom : ¬ (s.room : Int) - used s.fs < (lgFr g x).length := by omega
  have hpos := lgFr_pos g x
  -- the bytes
  have hbb : (fget s.fs g.f).b = framesJ 0 L := by rw [h.gf]; exact h.b
  have hfr : framesJ 0 (L ++ [x]) = framesJ 0 L ++ lgFr g x := by rw [framesJ_snoc, Nat.zero_add]; unfold lgFr; rw [h.n]
  have hdd : (fget s.fs g.f).dur = (framesJ 0 L).length := by
    have h3 := h.hard f; rw [h.b] at h3; rw [h.gf]; exact h3
  obtain ⟨s1, hs1⟩ : ∃ s1 : Ds, s1 = { s with fs := setF s.fs g.f (appF s g.f (lgFr g x) z) } := ⟨_, rfl⟩
  have hS : appS s g.f (lgFr g x) z = stepS s1 := by unfold appS; rw [if_neg (show ¬ ¬ there g.f from fun e => e hth), if_neg h1, if_neg hroom, hs1]
  have hE : appE s g.f (lgFr g x) = if stepB s1 = true then 0 else 22 := by
    unfold appE; rw [if_neg (show ¬ ¬ there g.f from fun e => e hth), if_neg h1, if_neg hroom]
    rw [show stepB s1 = stepB s from by rw [hs1]; exact stepB_fs s _]
  have hnz : (appF s g.f (lgFr g x) z).b = framesJ 0 (L ++ [x]) := by show (fget s.fs g.f).b ++ lgFr g x = _; rw [hbb, hfr]
  have hne : (appF s g.f (lgFr g x) z).b ≠ [] := by
    intro e; have := congrArg List.length (hnz.symm.trans e); rw [hfr, List.length_append, List.length_nil] at this; omega
  have hok1 : OkF s1.fs := by
    rw [hs1]; exact h.ok.setF hth ⟨hz, by show (fget s.fs g.f).dur ≤ ((fget s.fs g.f).b ++ lgFr g x).length; rw [List.length_append, hdd, hbb]; omega⟩
  have hl1 : Lft s1 := by rw [hs1]; exact h.lft.fs _
  have ho1 : s1.off = false := by rw [hs1]; exact h.off
  have hrm1 : s1.room = s.room := by rw [hs1]
  have har1 : s1.armed = s.armed := by rw [hs1]
  have hvb : ∀ k, vB s1.fs k = if k = f then framesJ 0 (L ++ [x]) else vB s.fs k := fun k => by rw [hs1]; show vB (setF s.fs g.f _) k = _; rw [h.gf, vB_setF h.ok, ← h.gf, hnz]
  have hvd : vD s1.fs f = (framesJ 0 L).length := by
    rw [hs1]; show vD (setF s.fs g.f _) f = _
    rw [h.gf, vD_setF h.ok, if_pos rfl, ← h.gf, if_neg hne]
    exact hdd
  have hus : used s1.fs = used s.fs + (lgFr g x).length := by
    have := files_app (s := s) (n := g.f) (fr := lgFr g x) (z := z) h.ok hth hz hpos
    rw [used_hard] at this
    rw [hs1]; exact this.2.2
  have down : ∀ t : Ds, lgS s g x z = t → t.fs = s1.fs → t.off = true → t.room = s.room → Lft t → lgE s g x z = 22 → lgG s g x z = lgN g 22 → LogDn (lgS s g x z) (lgG s g x z) f L x ∧ used (lgS s g x z).fs = used s.fs + (lgFr g x).length ∧ (lgS s g x z).room = s.room := by
    intro t e1 e2 e3 e4 e5 e6 e7
    rw [e1, e7]
    exact ⟨⟨by rw [e2]; exact hok1, e5, ⟨by rw [e2, e4, hus]; exact hr, by rw [e4]; exact h.rm.room⟩, e3, h.gf, h.hf, by show (if (22 : Int) = 0 then g.n + 1 else g.n) = _; rw [if_neg (by decide)]; exact h.n, rfl, by rw [e2, hvb, if_pos rfl], by rw [e2, hvd]⟩, by rw [e2, hus], e4⟩
  have up : ∀ t : Ds, lgS s g x z = { t with fs := hard t.fs } → t.fs = s1.fs → t.off = false → t.room = s.room → Lft t → (s.armed = false → t.armed = false) → lgE s g x z = 0 → lgG s g x z = lgN g 0 →
      (lgE s g x z = 0 ∧ LogSt (lgS s g x z) (lgG s g x z) f (L ++ [x]) ∧ (s.armed = false → (lgS s g x z).armed = false) ∧ used (lgS s g x z).fs = used s.fs + (lgFr g x).length ∧ (lgS s g x z).room = s.room ∧ (∀ k, k ≠ f → vB (lgS s g x z).fs k = vB s.fs k)) := by
    intro t e1 e2 e3 e4 e5 e6 e7 e8
    rw [e1, e8]
    refine ⟨e7, ⟨?_, e5.fs _, ⟨?_, ?_⟩, e3, h.gf, h.hf, ?_, rfl, ?_, fun k => ?_⟩, e6, ?_, e4, fun k hk => ?_⟩
    · show OkF (hard t.fs); rw [e2]; exact hok1.hard
    · show used (hard t.fs) ≤ t.room; rw [used_hard, e2, hus, e4]; exact hr
    · show t.room ≤ _; rw [e4]; exact h.rm.room
    · show (if (0 : Int) = 0 then g.n + 1 else g.n) = _; rw [if_pos rfl, h.n, List.length_append]; rfl
    · show vB (hard t.fs) f = _; rw [vB_hard, e2, hvb, if_pos rfl]
    · show vD (hard t.fs) k = (vB (hard t.fs) k).length; rw [vD_hard, vB_hard]
    · show used (hard t.fs) = _; rw [used_hard, e2, hus]
    · show vB (hard t.fs) k = _; rw [vB_hard, e2, hvb, if_neg hk]
  rcases step_cases s1 hl1 with ⟨ha, e, eb⟩ | ⟨ha, hl, e, eb⟩ | ⟨ha, hl, e, eb⟩
  · -- nothing planned
    have hE0 : ¬ appE s g.f (lgFr g x) ≠ 0 := by rw [hE, if_pos eb]; simp
    obtain ⟨e1, e2, e3⟩ := lgE_sync (z := z) hx2 h2 hE0
    rw [hS, e] at e1 e2 e3
    have hs0 : syncE s1 = 0 := by unfold syncE; rw [if_neg (fun h => h.elim (by rw [ho1]; simp) (by rw [eb]; simp))]
    have hss : syncS s1 = { s1 with fs := hard s1.fs } := by unfold syncS; rw [if_neg (by rw [ho1]; simp), if_neg (by rw [eb]; simp), e]
    rw [hs0] at e1 e3
    rw [hss] at e2
    exact .inl (up s1 e2 rfl ho1 hrm1 hl1 (fun h => har1.trans h) e1 e3)
  · -- the first step is let through
    have hE0 : ¬ appE s g.f (lgFr g x) ≠ 0 := by rw [hE, if_pos (eb ho1)]; simp
    obtain ⟨e1, e2, e3⟩ := lgE_sync (z := z) hx2 h2 hE0
    rw [hS] at e1 e2 e3
    have hl2 := step_lft hl1
    have ho2 : (stepS s1).off = false := by rw [e]; exact ho1
    rcases step_cases (stepS s1) hl2 with ⟨ha2, f, fb⟩ | ⟨ha2, hlt2, f, fb⟩ | ⟨ha2, hlt2, f, fb⟩
    · exfalso; rw [e] at ha2; rw [show ({ s1 with left := s1.left - 1 } : Ds).armed = s1.armed from rfl, ha] at ha2; cases ha2
    · have hs0 : syncE (stepS s1) = 0 := by unfold syncE; rw [if_neg (fun h => h.elim (by rw [ho2]; simp) (by rw [fb ho2]; simp))]
      have hss : syncS (stepS s1) = { stepS (stepS s1) with fs := hard (stepS (stepS s1)).fs } := by unfold syncS; rw [if_neg (by rw [ho2]; simp), if_neg (by rw [fb ho2]; simp)]
      rw [hs0] at e1 e3
      rw [hss] at e2
      refine .inl (up (stepS (stepS s1)) e2 (by rw [stepS_fs, stepS_fs]) ?_ (by rw [stepS_room, stepS_room, hrm1]) (step_lft hl2) (fun h => ?_) e1 e3)
      · rw [f]; exact ho2
      · exfalso; rw [har1, h] at ha; cases ha
    · have hs0 : syncE (stepS s1) = 22 := by unfold syncE; rw [if_pos (Or.inr fb)]
      have hss : syncS (stepS s1) = stepS (stepS s1) := by unfold syncS; rw [if_neg (by rw [ho2]; simp), if_pos fb]
      rw [hs0] at e1 e3
      rw [hss] at e2
      exact .inr ⟨e1, har1 ▸ ha, down _ e2 (by rw [stepS_fs, stepS_fs]) (by rw [f]) (by rw [stepS_room, stepS_room, hrm1]) (step_lft hl2) e1 e3⟩
  · have hE1 : appE s g.f (lgFr g x) = 22 := by rw [hE, if_neg (by rw [eb]; simp)]
    obtain ⟨e1, e2, e3⟩ := lgE_app (z := z) hx2 h2 (show appE s g.f (lgFr g x) ≠ 0 by rw [hE1]; decide)
    rw [hE1] at e1 e3
    rw [hS] at e2
    exact .inr ⟨e1, har1 ▸ ha, down _ e2 (stepS_fs _) (by rw [e]) (by rw [stepS_room, hrm1]) (step_lft hl1) e1 e3⟩
/-- an Append when the power is about to fail -/
theorem log_fail {s : Ds} {g : Lg} {f : Nat} {L : List (List UInt8)} {x : List UInt8} {z : RdX} (h : LogSt s g f L) (ha : s.armed = true) (h0 : s.left = 0) (hx : x.length ≤ 65536) (hr : used s.fs + (lgFr g x).length ≤ s.room) : lgE s g x z = 22 := by
  have hth : there g.f := by rw [h.gf]; exact ⟨by omega, by have := h.hf; omega⟩
  have h1 : ¬ s.off = true := by rw [h.off]; simp
  have h2 : ¬ g.dn = true := by rw [h.dn]; simp
  have hb : stepB s = false := by
    rcases step_cases s h.lft with ⟨e, _⟩ | ⟨_, e, _⟩ | ⟨_, _, _, e⟩
    · rw [ha] at e; cases e
    · omega
    · exact e
  have hE : appE s g.f (lgFr g x) = 22 := by
    unfold appE; rw [if_neg (show ¬ ¬ there g.f from fun e => e hth), if_neg h1, if_neg (by omega), if_neg (by rw [hb]; simp)]
  have := (lgE_app (z := z) (show ¬ (65536 : Int) < x.length by omega) h2 (show appE s g.f (lgFr g x) ≠ 0 by rw [hE]; decide)).1
  rw [this, hE]
/-- an Append to a log that is down -/
theorem log_down {s : Ds} {g : Lg} {x : List UInt8} {z : RdX} (hd : g.dn = true) (hx : x.length ≤ 65536) : lgE s g x z = 22 ∧ lgS s g x z = s ∧ lgG s g x z = g := by
  obtain ⟨e1, e2, e3⟩ := lgE_dn (s := s) (g := g) (x := x) (z := z) (by omega) hd
  refine ⟨e1, e2, ?_⟩
  rw [e3]
  obtain ⟨f, n, dn⟩ := g
  simp only at hd
  subst hd
  rfl
/-! ### After a crash -/
theorem cutB_take (B : Nat → List UInt8) (D : Nat → Nat) (keep : List Int) (n : Nat) : ∃ m, D n ≤ m ∧ cutB B D keep n = (B n).take m := ⟨_, Nat.le_add_right _ _, rfl⟩
theorem cutB_hard {B : Nat → List UInt8} {D : Nat → Nat} (h : ∀ k, D k = (B k).length) (keep : List Int) (n : Nat) : cutB B D keep n = B n := by
  unfold cutB; rw [h n, List.take_of_length_le (by omega)]
theorem looseB_hard {B : Nat → List UInt8} {D : Nat → Nat} (h : ∀ k, D k = (B k).length) (keep : List Int) : looseB B D keep = [] := by
  unfold looseB
  rw [List.flatMap_eq_nil_iff]
  intro n _
  rw [cutB_hard h, h n, Nat.sub_self]; rfl
theorem crashB_hard {B : Nat → List UInt8} {D : Nat → Nat} (h : ∀ k, D k = (B k).length) (keep : List Int) (flip : Int) (n : Nat) : crashB B D keep flip n = B n := by
  unfold crashB
  rw [looseB_hard h]
  split
  · exact cutB_hard h keep n
  · exact cutB_hard h keep n
theorem turnB_take {b : List UInt8} {j r m : Nat} (h : m ≤ j) : (turnB b j r).take m = b.take m := by
  unfold turnB; rw [List.take_set_of_le h]
theorem looseB_mem {B : Nat → List UInt8} {D : Nat → Nat} {keep : List Int} {x : Nat × Nat} (h : x ∈ looseB B D keep) : x.1 ∈ filesB B ∧ D x.1 ≤ x.2 ∧ x.2 < (cutB B D keep x.1).length := by
  obtain ⟨n, hn, hx⟩ := List.mem_flatMap.1 h
  obtain ⟨j, hj, rfl⟩ := List.mem_map.1 hx
  have := List.mem_range'_1.1 hj
  exact ⟨hn, this.1, by have := this.2; show j < (cutB B D keep n).length; omega⟩
/-- what was durable stays -/
theorem crashB_firm {B : Nat → List UInt8} {D : Nat → Nat} (keep : List Int) (flip : Int) (n : Nat) (hd : D n ≤ (B n).length) : (crashB B D keep flip n).take (D n) = (B n).take (D n) ∧ D n ≤ (crashB B D keep flip n).length := by
  have h1 : (cutB B D keep n).take (D n) = (B n).take (D n) := by
    obtain ⟨m, hm, e⟩ := cutB_take B D keep n
    rw [e, List.take_take, Nat.min_eq_left hm]
  have h2 : D n ≤ (cutB B D keep n).length := by
    unfold cutB; rw [List.length_take]; omega
  refine ⟨?_, by rw [crashB_len]; exact h2⟩
  unfold crashB
  split
  · exact h1
  · split
    · rename_i m j hmj
      split
      · rename_i hnm
        have h3 := (looseB_mem (List.mem_of_getElem? hmj)).2.1
        rw [turnB_take (by rw [hnm]; exact h3), h1]
      · exact h1
    · exact h1
theorem CrashR.calm {s t : Ds} {keep : List Int} {flip : Int} (h : CrashR s keep flip t) : CalmD t := ⟨h.off, h.armed⟩
theorem fget_big {fs : Fs} (h : OkF fs) {k : Nat} (hk : 64 ≤ k) : fget fs k = fl0 := vB_empty fun p hp => by have := h.fits p hp; omega
theorem CrashR.hard {s t : Ds} {keep : List Int} {flip : Int} (h : CrashR s keep flip t) (k : Nat) : vD t.fs k = (vB t.fs k).length := by
  by_cases hk : k < 64
  · exact h.d k hk
  · unfold vD vB; rw [fget_big h.ok (by omega)]; rfl
theorem scan_cut {i : Nat} {x p : List UInt8} {m : Nat} (hp : p = (frameJ (i : Int) x).take m) (hi : i ≤ 4611686018427387904) (hx : x.length ≤ 65536) : scanJ i p = [] ∨ scanJ i p = [x] := by
  by_cases hm : (frameJ (i : Int) x).length ≤ m
  · right
    have h := scanJ_frames [x] i [] ⟨by simp; omega, fun y hy => by rw [List.mem_singleton.1 hy]; omega⟩
    have e : framesJ i [x] = frameJ (i : Int) x := by
      show frameJ _ x ++ [] = _; rw [List.append_nil]
    rw [e, List.append_nil, scanJ_nil, List.append_nil] at h
    rw [hp, List.take_of_length_le hm]; exact h
  · left
    refine scanJ_no fun hpre => ?_
    obtain ⟨r1, hr1⟩ := hpre
    have e : frameJ (i : Int) x = frameJ (i : Int) (recOf p) ++ (r1 ++ (frameJ (i : Int) x).drop m) := by
      rw [← List.append_assoc, hr1, hp, List.take_append_drop]
    have hl : (recOf p).length ≤ 4611686018427387000 := by
      have h1 := recOf_len (b := p)
      have h2 : p.length ≤ x.length + 40 := by
        rw [hp, List.length_take]
        have := (frameJ_len (i := (i : Int)) (x := x) (by omega) (by omega) (by omega)).1; omega
      omega
    have h1 := recOf_frame (i := (i : Int)) (x := recOf p) (rest := r1 ++ (frameJ (i : Int) x).drop m) (by omega) (by omega) hl
    rw [← e] at h1
    have h2 := recOf_frame (i := (i : Int)) (x := x) (rest := []) (by omega) (by omega) (by omega)
    rw [List.append_nil] at h2
    have h3 : recOf p = x := h1.symm.trans h2
    rw [h3] at hr1
    have h4 := congrArg List.length hr1
    rw [List.length_append, hp, List.length_take] at h4
    omega
end Go.GL

namespace Go.GL
set_option linter.unusedVariables false
theorem log_open {s : Ds} {f : Nat} (hok : OkF s.fs) (hc : CalmD s) (hl : Lft s) (hr : Rm s) (hf : f < 64) :
    LogSt { s with fs := openFs s f } ⟨f, (scanJ 0 (vB s.fs f)).length, false⟩ f (scanJ 0 (vB s.fs f)) ∧ (∀ k, k ≠ f → vB (openFs s f) k = vB s.fs k) ∧ used (openFs s f) ≤ used s.fs := by
  obtain ⟨rest, hrest⟩ := scanJ_split (vB s.fs f).length (vB s.fs f) 0 (Nat.le_refl _)
  obtain ⟨L, hL⟩ : ∃ L, L = scanJ 0 (vB s.fs f) := ⟨_, rfl⟩
  rw [← hL] at hrest
  have hth : there (f : Int) := ⟨by omega, by omega⟩
  have key : ∃ fs0, openFs s f = hard fs0 ∧ OkF fs0 ∧ vB fs0 f = framesJ 0 L ∧ (∀ k, k ≠ f → vB fs0 k = vB s.fs k) := by
    unfold openFs
    have e0 : (fget s.fs (f : Int)).b = vB s.fs f := rfl
    rw [e0, ← hL]
    by_cases hlt : (framesJ 0 L).length < (vB s.fs f).length
    · rw [if_pos hlt]
      refine ⟨_, rfl, hok.setF hth (truncF_ok hok _ _), ?_, fun k hk => ?_⟩
      · rw [vB_setF hok, if_pos rfl]
        show (vB s.fs f).take (framesJ 0 L).length = _
        conv => lhs; rw [hrest]
        rw [List.take_left']
        rfl
      · rw [vB_setF hok, if_neg hk]
    · rw [if_neg hlt]
      refine ⟨_, rfl, hok, ?_, fun k _ => rfl⟩
      have h1 := congrArg List.length hrest
      rw [List.length_append] at h1
      have : rest = [] := List.eq_nil_of_length_eq_zero (by omega)
      rw [this, List.append_nil] at hrest
      exact hrest
  obtain ⟨fs0, e1, e2, e3, e4⟩ := key
  have hus : used (openFs s f) ≤ used s.fs := by
    rw [e1, used_hard]
    refine used_mono e2 hok fun n _ => ?_
    by_cases e : n = f
    · rw [e, e3, hrest, List.length_append]; omega
    · rw [e4 n e]; omega
  rw [← hL]
  refine ⟨⟨?_, hl.fs _, ⟨Nat.le_trans hus hr.used, hr.room⟩, hc.off, rfl, hf, rfl, rfl, ?_, fun k => ?_⟩, fun k hk => ?_, hus⟩
  · show OkF (openFs s f); rw [e1]; exact e2.hard
  · show vB (openFs s f) f = _; rw [e1, vB_hard, e3]
  · show vD (openFs s f) k = (vB (openFs s f) k).length; rw [e1, vD_hard, vB_hard]
  · rw [e1, vB_hard, e4 k hk]
theorem CrashR.lft {s t : Ds} {keep : List Int} {flip : Int} (h : CrashR s keep flip t) (hl : Lft s) : Lft t := ⟨by rw [h.left]; exact hl.lo, by rw [h.left]; exact hl.hi, fun e => by rw [h.armed] at e; cases e⟩
theorem CrashR.rm {s t : Ds} {keep : List Int} {flip : Int} (h : CrashR s keep flip t) (hok : OkF s.fs) (hr : Rm s) : Rm t := ⟨by rw [h.room]; exact Nat.le_trans (h.used hok) hr.used, by rw [h.room]; exact hr.room⟩
theorem crash_hard {s t : Ds} {keep : List Int} {flip : Int} (h : CrashR s keep flip t) (hok : OkF s.fs) (hh : ∀ k, vD s.fs k = (vB s.fs k).length) (k : Nat) : vB t.fs k = vB s.fs k := by
  by_cases hk : k < 64
  · rw [h.b k hk, crashB_hard hh]
  · unfold vB; rw [fget_big h.ok (by omega), fget_big hok (by omega)]
theorem crash_dn {s t : Ds} {g : Lg} {f : Nat} {L : List (List UInt8)} {x : List UInt8} {keep : List Int} {flip : Int} (hd : LogDn s g f L x) (h : CrashR s keep flip t) (hf : flip < 0) : ∃ m, (framesJ 0 L).length ≤ m ∧ vB t.fs f = (framesJ 0 (L ++ [x])).take m := by
  rw [h.b f hd.hf, crashB_calm _ _ _ _ _ hf]
  obtain ⟨m, hm, e⟩ := cutB_take (vB s.fs) (vD s.fs) keep f
  exact ⟨m, by rw [← hd.d]; exact hm, by rw [e, hd.b]⟩
theorem crash_firm {s t : Ds} {g : Lg} {f : Nat} {L : List (List UInt8)} {x : List UInt8} {keep : List Int} {flip : Int} (hd : LogDn s g f L x) (h : CrashR s keep flip t) : ∃ rest, vB t.fs f = framesJ 0 L ++ rest := by
  have h1 := crashB_firm (B := vB s.fs) (D := vD s.fs) keep flip f (fget_each hd.ok f).2
  rw [hd.d, hd.b] at h1
  refine ⟨(vB t.fs f).drop (framesJ 0 L).length, ?_⟩
  conv => lhs; rw [← List.take_append_drop (framesJ 0 L).length (vB t.fs f)]
  congr 1
  rw [h.b f hd.hf, h1.1, framesJ_append, List.take_left']
  rfl
/-- a log of which all is there, or all but a part of the last frame -/
theorem scan_prefix {L : List (List UInt8)} {x : List UInt8} {m : Nat} (hm : (framesJ 0 L).length ≤ m) (hL : L.length ≤ 4611686018427387904) (hl : ∀ y, y ∈ L → y.length ≤ 65536) (hx : x.length ≤ 65536) :
    scanJ 0 ((framesJ 0 (L ++ [x])).take m) = L ∨ scanJ 0 ((framesJ 0 (L ++ [x])).take m) = L ++ [x] := by
  have e : (framesJ 0 (L ++ [x])).take m = framesJ 0 L ++ (frameJ (L.length : Int) x).take (m - (framesJ 0 L).length) := by
    rw [framesJ_snoc, Nat.zero_add, List.take_append, List.take_of_length_le hm]
  have h1 := scanJ_frames L 0 ((frameJ (L.length : Int) x).take (m - (framesJ 0 L).length)) ⟨by omega, fun y hy => by have := hl y hy; omega⟩
  rw [e, h1, Nat.zero_add]
  rcases scan_cut (i := L.length) (x := x) rfl hL hx with e2 | e2
  · left; rw [e2, List.append_nil]
  · right; rw [e2]
theorem scan_firm {L : List (List UInt8)} {rest : List UInt8} (hL : L.length ≤ 4611686018427387904) (hl : ∀ y, y ∈ L → y.length ≤ 65536) : ∃ L', scanJ 0 (framesJ 0 L ++ rest) = L ++ L' := ⟨_, scanJ_frames L 0 rest ⟨by omega, fun y hy => by have := hl y hy; omega⟩⟩
theorem scan_all {L : List (List UInt8)} (hL : L.length ≤ 4611686018427387904) (hl : ∀ y, y ∈ L → y.length ≤ 65536) : scanJ 0 (framesJ 0 L) = L := by
  have h := scanJ_frames L 0 [] ⟨by omega, fun y hy => by have := hl y hy; omega⟩
  rw [List.append_nil, scanJ_nil, List.append_nil] at h; exact h
def armS (s : Ds) (n : Int) : Ds := if s.off = true then s else { s with armed := decide (0 ≤ n), left := n }
theorem armS_on {s : Ds} {n : Int} (h : s.off = false) : armS s n = { s with armed := decide (0 ≤ n), left := n } := by unfold armS; rw [if_neg (by rw [h]; simp)]
theorem LogSt.arm {s : Ds} {g : Lg} {f : Nat} {L : List (List UInt8)} {n : Int} (h : LogSt s g f L) (h0 : -1 ≤ n) (h1 : n ≤ 4611686018427387904) : LogSt (armS s n) g f L := by
  rw [armS_on h.off]
  exact ⟨h.ok, ⟨h0, h1, fun e => of_decide_eq_true e⟩, ⟨h.rm.used, h.rm.room⟩, h.off, h.gf, h.hf, h.n, h.dn, h.b, h.hard⟩
theorem LogSt.used {s : Ds} {g : Lg} {f : Nat} {L : List (List UInt8)} (h : LogSt s g f L) : used s.fs ≤ 16777216 := Nat.le_trans h.rm.used h.rm.room
theorem appends_len {s : Ds} {g : Lg} {x : List UInt8} (hn : g.n ≤ 4611686018427387904) (hx : x.length ≤ 65536) : (lgFr g x).length ≤ x.length + 40 := (frameJ_len (i := (g.n : Int)) (x := x) (by omega) (by omega) (by omega)).1
/-- what an Append to a log that is up leaves -/
def AppR (s : Ds) (f : Nat) (L : List (List UInt8)) (x : List UInt8) (q : Int × Ds × Lg) : Prop :=
  (q.1 = 0 ∧ LogSt q.2.1 q.2.2 f (L ++ [x]) ∧ (s.armed = false → q.2.1.armed = false) ∧ used q.2.1.fs ≤ used s.fs + x.length + 40 ∧ q.2.1.room = s.room ∧ ∀ k, k ≠ f → vB q.2.1.fs k = vB s.fs k) ∨
  (q.1 = 22 ∧ s.armed = true ∧ LogDn q.2.1 q.2.2 f L x ∧ used q.2.1.fs ≤ used s.fs + x.length + 40 ∧ q.2.1.room = s.room)
theorem AppR.of {s : Ds} {g : Lg} {f : Nat} {L : List (List UInt8)} {x : List UInt8} {z : RdX} (h : LogSt s g f L) (hn : g.n ≤ 4611686018427387904) (hx : x.length ≤ 65536) (hz : ((fget s.fs g.f).b ++ lgFr g x).length ≤ z.c) (hr : Go.GL.used s.fs + x.length + 40 ≤ s.room) :
    AppR s f L x (lgE s g x z, lgS s g x z, lgG s g x z) := by
  have hl := appends_len (s := s) (x := x) hn hx
  rcases log_append (z := z) h hx hz (by omega) with ⟨e1, e2, e3, e4, e5, e6⟩ | ⟨e1, e2, e3, e4, e5⟩
  · exact .inl ⟨e1, e2, e3, by show Go.GL.used (lgS s g x z).fs ≤ _; omega, e5, e6⟩
  · exact .inr ⟨e1, e2, e3, by show Go.GL.used (lgS s g x z).fs ≤ _; omega, e5⟩
/-- what an opening in a calm disk leaves -/
structure OpenR (s : Ds) (f : Nat) (q : (Nat × LsX) × Ds) : Prop where
  recs : q.1.2.ps.map Prod.fst = scanJ 0 (vB s.fs f)
  caps : ∀ p, p ∈ q.1.2.ps → p.1.length ≤ p.2.c
  st : LogSt q.2 ⟨f, q.1.2.ps.length, false⟩ f (scanJ 0 (vB s.fs f))
  armed : q.2.armed = false
  used : Go.GL.used q.2.fs ≤ Go.GL.used s.fs
  room : q.2.room = s.room
  other : ∀ k, k ≠ f → vB q.2.fs k = vB s.fs k
theorem LogSt.other {s s' : Ds} {g g' : Lg} {f f' : Nat} {L L' : List (List UInt8)} (h : LogSt s g f L) (h' : LogSt s' g' f' L') (hk : vB s'.fs f = vB s.fs f) : LogSt s' g f L := ⟨h'.ok, h'.lft, h'.rm, h'.off, h.gf, h.hf, h.n, h.dn, by rw [hk]; exact h.b, h'.hard⟩
theorem LogSt.crash {s t : Ds} {g : Lg} {f : Nat} {L : List (List UInt8)} {keep : List Int} {flip : Int} (h : LogSt s g f L) (c : CrashR s keep flip t) : LogSt t g f L := ⟨c.ok, c.lft h.lft, c.rm h.ok h.rm, c.off, h.gf, h.hf, h.n, h.dn, by rw [crash_hard c h.ok h.hard]; exact h.b, c.hard⟩
theorem LogSt.calm {s : Ds} {g : Lg} {f : Nat} {L : List (List UInt8)} (h : LogSt s g f L) (ha : s.armed = false) : CalmD s := ⟨h.off, ha⟩
theorem frameJ_four (i : Int) (x : List UInt8) : 4 ≤ (frameJ i x).length := by
  have h1 := encU_pos (zz i); have h2 := encU_pos x.length; have h3 := encU_pos (coreJ i x).length; have h4 := encU_pos (hashN jl (coreJ i x))
  have h5 : (coreJ i x).length = (encU (zz i)).length + ((encU x.length).length + x.length) := by unfold coreJ encR; rw [List.length_append, List.length_append]
  unfold frameJ encR
  rw [List.length_append, List.length_append]
  omega
theorem scan_short {b : List UInt8} (h : b.length ≤ 3) : scanJ 0 b = [] := scanJ_no fun hp => by
  have := hp.length_le
  have := frameJ_four ((0 : Nat) : Int) (recOf b)
  omega
theorem fresh_log {m k f : Nat} {o : Nat × LsX} {t : Ds} (h : OpenR ⟨m, [], k, false, false, 0⟩ f (o, t)) : LogSt t ⟨(f : Nat), o.2.ps.length, false⟩ f [] ∧ Go.GL.used t.fs = 0 := by
  have h1 := h.st
  have e : scanJ 0 (vB ([] : Fs) f) = [] := scanJ_nil
  rw [e] at h1
  exact ⟨h1, Nat.le_zero.1 h.used⟩
theorem fresh_lft {m k : Nat} : Lft ⟨m, [], k, false, false, 0⟩ := ⟨by show (-1 : Int) ≤ 0; decide, by show (0 : Int) ≤ _; decide, fun e => by cases e⟩
theorem fresh_rm {m k : Nat} (hk : k ≤ 16777216) : Rm ⟨m, [], k, false, false, 0⟩ := ⟨Nat.zero_le _, hk⟩
/-! ### A disk as one part -/
def DkB (T b : Nat) (s : Ds) : HP := Al [Box b T (dkC s), MpB s.m (fsV s.fs)]
theorem St.dkOpen {w : World} {F : List Fact} {T b : Nat} {s : Ds} (L : List HP) {M : List HP} (h : St w (L ++ (DkB T b s :: M)) F) : St w (L ++ (Box b T (dkC s) :: MpB s.m (fsV s.fs) :: M)) F := by
  have h1 : St w (DkB T b s :: (L ++ M)) F := h.perm List.perm_middle
  have h2 : St w ([Box b T (dkC s), MpB s.m (fsV s.fs)] ++ (L ++ M)) F := h1.alOpen
  exact h2.perm (perm_mid [Box b T (dkC s), MpB s.m (fsV s.fs)] L M)
theorem St.dkClose {w : World} {F : List Fact} {T b : Nat} {s : Ds} (L : List HP) {M : List HP} (h : St w (L ++ (Box b T (dkC s) :: MpB s.m (fsV s.fs) :: M)) F) : St w (L ++ (DkB T b s :: M)) F := by
  have h1 : St w ([Box b T (dkC s), MpB s.m (fsV s.fs)] ++ (L ++ M)) F := h.perm (perm_mid L [Box b T (dkC s), MpB s.m (fsV s.fs)] M)
  have h2 : St w (DkB T b s :: (L ++ M)) F := h1.alClose
  exact h2.perm List.perm_middle.symm
theorem Ctr.dk {P : Program} {f : FuncId} {args : List Value} {M : List HP} {F : List Fact} {ι : Type} {val : ι → Value} {F' : ι → List Fact} {T b : Nat} {s : Ds} (L : List HP) (L' : ι → List HP) (s' : ι → Ds)
    (h : Ctr P f args (L ++ (Box b T (dkC s) :: MpB s.m (fsV s.fs) :: M)) F ι val (fun i => L' i ++ (Box b T (dkC (s' i)) :: MpB (s' i).m (fsV (s' i).fs) :: M)) F') : Ctr P f args (L ++ (DkB T b s :: M)) F ι val (fun i => L' i ++ (DkB T b (s' i) :: M)) F' :=
  h.weak (fun w hw => hw.dkOpen L) id (fun _ => rfl) (fun i w hw => hw.dkClose (L' i))
end Go.GL

namespace Go.Proofs.Ytdlpaojkkekdlaa
open Go.GL
set_option linter.unusedVariables false
theorem za_tf92_2 : fieldOff Try.prog 92 2 2 = true := by kernel_rfl
theorem za_tf92_3 : fieldOff Try.prog 92 3 3 = true := by kernel_rfl
theorem za_tf92_4 : fieldOff Try.prog 92 4 4 = true := by kernel_rfl
theorem za_ts3 : tyScalar Try.prog 3 = true := by kernel_rfl
theorem za_ts4 : tyScalar Try.prog 4 = true := by kernel_rfl
theorem arm_spec {n : Int} {b : Nat} {s : Ds} {M : List HP} {F : List Fact} : Ctr Try.prog 24 [.pointer (some ⟨b, 0, none⟩), I n] (Box b 92 (dkC s) :: MpB s.m (fsV s.fs) :: M) F Unit (fun _ => .tuple #[]) (fun _ => Box b 92 (dkC (armS s n)) :: MpB (armS s n).m (fsV (armS s n).fs) :: M) (fun _ => F) := by
  refine Ctr.body Try.func24 rfl rfl ?_
  refine TR.seq ?_
  refine TR.region ?_
  refine RL.move rfl rfl rfl ?_
  refine RL.nilCheck rfl rfl rfl ?_
  refine RL.fieldAddr rfl za_tf92_2 rfl rfl ?_
  refine RL.load1 0 rfl za_ts4 rfl rfl rfl rfl ?_
  refine RL.not rfl rfl rfl ?_
  refine RL.nil ?_
  refine NX.seq ?_
  refine TR.cond rfl (fun h1 => ?_) (fun h1 => ?_)
  · skip
    refine TR.region ?_
    refine RL.move rfl rfl rfl ?_
    refine RL.move rfl rfl rfl ?_
    refine RL.move rfl rfl rfl ?_
    refine RL.bin rfl rfl rfl BinV.geq rfl ?_
    refine RL.move rfl rfl rfl ?_
    refine RL.nilCheck rfl rfl rfl ?_
    refine RL.fieldAddr rfl za_tf92_3 rfl rfl ?_
    refine RL.store1 0 rfl za_ts4 rfl rfl rfl rfl rfl ?_
    refine RL.nilCheck rfl rfl rfl ?_
    refine RL.fieldAddr rfl za_tf92_4 rfl rfl ?_
    refine RL.store1 0 rfl za_ts3 rfl rfl rfl rfl rfl ?_
    refine RL.nil ?_
    have hoff : s.off = false := by simpa using h1
    refine NX.end0 () rfl rfl (fun w hw => ?_)
    rw [armS_on hoff]
    exact hw
  · skip
    refine TR.skip ?_
    have hoff : s.off = true := by simpa using h1
    refine NX.end0 () rfl rfl (fun w hw => ?_)
    rw [show armS s n = s from by unfold armS; rw [if_pos hoff]]
    exact hw

theorem fresh_d {k : Nat} {M : List HP} {F : List Fact} (hk : k ≤ 16777216) : Ctr Try.prog 21 [I k] M F (Nat × Nat) (fun z => .pointer (some ⟨z.1, 0, none⟩)) (fun z => DkB 92 z.1 ⟨z.2, [], k, false, false, 0⟩ :: M) (fun _ => AllF [] :: F) :=
  (fresh_spec hk).weak (fun w hw => hw) id (fun _ => rfl) (fun z w hw => ((show St w ([] ++ (Box z.1 92 (dkC ⟨z.2, [], k, false, false, 0⟩) :: MpB z.2 (fsV []) :: M)) F from hw).dkClose []).derive (ψ := AllF []) (fun K hf p hp => absurd hp (by simp)))

theorem arm_d {n : Int} {b : Nat} {s : Ds} {M : List HP} {F : List Fact} : Ctr Try.prog 24 [.pointer (some ⟨b, 0, none⟩), I n] (DkB 92 b (s) :: M) F Unit (fun _ => .tuple #[]) (fun _ => DkB 92 b (armS s n) :: M) (fun _ => F) := Ctr.dk [] (fun _ => []) (fun _ => armS s n) arm_spec

theorem crash_d {keep : List Int} {flip : Int} {ok : Option Addr} {ck : Nat} {b : Nat} {s : Ds} {M : List HP} {F : List Fact} (hok : OkF s.fs) (hA : AllF s.fs ∈ F) (hK : ArrF ok (ints keep) ∈ F) (hks : IntsOk keep) (hu : used s.fs ≤ 16777216) (hflip : I64 flip) : Ctr Try.prog 31 [.pointer (some ⟨b, 0, none⟩), .slice ok keep.length ck, I flip] (DkB 92 b (s) :: M) F {t : Ds // CrashR s keep flip t} (fun _ => .tuple #[]) (fun t => DkB 92 b t.1 :: M) (fun t => AllF t.1.fs :: F) := Ctr.dk (ι := {t : Ds // CrashR s keep flip t}) (M := M) [] (fun _ => []) (fun t => t.1) (crash_spec hok hA hK hks hu hflip)

theorem lapp_up {l f : Nat} {g : Lg} {L : List (List UInt8)} {x : List UInt8} {ob : Option Addr} {cb : Nat} {b : Nat} {s : Ds} {M : List HP} {F : List Fact} (h : LogSt s g f L) (hA : AllF s.fs ∈ F) (hx : ArrF ob (bytesV x) ∈ F) (hxl : x.length ≤ 65536) (hn : L.length ≤ 4611686018427387904) (hr : used s.fs + x.length + 40 ≤ s.room) :
    Ctr Try.prog 29 [.pointer (some ⟨l, 0, none⟩), .slice ob x.length cb] (Box l 88 (lgC b g) :: DkB 92 b (s) :: M) F {q : Int × Ds × Lg // AppR s f L x q} (fun q => I q.1.1) (fun q => Box l 88 (lgC b q.1.2.2) :: DkB 92 b q.1.2.1 :: M) (fun q => AllF q.1.2.1.fs :: F) := by
  have hgn : g.n ≤ 4611686018427387904 := by rw [h.n]; exact hn
  have h0 := Ctr.dk (ι := {z : RdX // ((fget s.fs g.f).b ++ lgFr g x).length ≤ z.c}) (M := M) [Box l 88 (lgC b g)] (fun z => [Box l 88 (lgC b (lgG s g x z.1))]) (fun z => lgS s g x z.1) (lapp_spec (l := l) (b := b) (cb := cb) (g := g) (s := s) (x := x) h.ok hA hx h.rm.used h.rm.room (by rw [h.gf]; have := h.hf; exact ⟨by omega, by omega⟩) ⟨by have := h.lft.lo; omega, by have := h.lft.hi; omega⟩ hgn (by omega))
  exact h0.weak (fun w hw => hw) (fun z => ⟨(lgE s g x z.1, lgS s g x z.1, lgG s g x z.1), AppR.of h hgn hxl z.2 hr⟩) (fun _ => rfl) (fun z w hw => hw)
theorem lapp_ok {l f : Nat} {g : Lg} {L : List (List UInt8)} {x : List UInt8} {ob : Option Addr} {cb : Nat} {b : Nat} {s : Ds} {M : List HP} {F : List Fact} (h : LogSt s g f L) (ha : s.armed = false) (hA : AllF s.fs ∈ F) (hx : ArrF ob (bytesV x) ∈ F) (hxl : x.length ≤ 65536) (hn : L.length ≤ 4611686018427387904) (hr : used s.fs + x.length + 40 ≤ s.room) :
    Ctr Try.prog 29 [.pointer (some ⟨l, 0, none⟩), .slice ob x.length cb] (Box l 88 (lgC b g) :: DkB 92 b (s) :: M) F {q : Ds × Lg // LogSt q.1 q.2 f (L ++ [x]) ∧ q.1.armed = false ∧ used q.1.fs ≤ used s.fs + x.length + 40 ∧ q.1.room = s.room ∧ ∀ k, k ≠ f → vB q.1.fs k = vB s.fs k} (fun _ => I 0) (fun q => Box l 88 (lgC b q.1.2) :: DkB 92 b q.1.1 :: M) (fun q => AllF q.1.1.fs :: F) := by
  refine (lapp_up h hA hx hxl hn hr).weak (fun w hw => hw) (fun q => ⟨(q.1.2.1, q.1.2.2), ?_⟩) (fun q => ?_) (fun q w hw => hw)
  · rcases q.2 with ⟨e1, e2, e3, e4, e5, e6⟩ | ⟨e1, e2, _⟩
    · exact ⟨e2, e3 ha, e4, e5, e6⟩
    · rw [ha] at e2; cases e2
  · rcases q.2 with ⟨e1, _⟩ | ⟨e1, e2, _⟩
    · show I q.1.1 = I 0; rw [e1]
    · rw [ha] at e2; cases e2
theorem lapp_fail {l f : Nat} {g : Lg} {L : List (List UInt8)} {x : List UInt8} {ob : Option Addr} {cb : Nat} {b : Nat} {s : Ds} {M : List HP} {F : List Fact} (h : LogSt s g f L) (ha : s.armed = true) (h0 : s.left = 0) (hA : AllF s.fs ∈ F) (hx : ArrF ob (bytesV x) ∈ F) (hxl : x.length ≤ 65536) (hn : L.length ≤ 4611686018427387904) (hr : used s.fs + x.length + 40 ≤ s.room) :
    Ctr Try.prog 29 [.pointer (some ⟨l, 0, none⟩), .slice ob x.length cb] (Box l 88 (lgC b g) :: DkB 92 b (s) :: M) F {q : Ds × Lg // LogDn q.1 q.2 f L x ∧ used q.1.fs ≤ used s.fs + x.length + 40 ∧ q.1.room = s.room} (fun _ => I 22) (fun q => Box l 88 (lgC b q.1.2) :: DkB 92 b q.1.1 :: M) (fun q => AllF q.1.1.fs :: F) := by
  have hgn : g.n ≤ 4611686018427387904 := by rw [h.n]; exact hn
  have hl := appends_len (s := s) (x := x) hgn hxl
  have key : ∀ z : {z : RdX // ((fget s.fs g.f).b ++ lgFr g x).length ≤ z.c}, lgE s g x z.1 = 22 ∧ LogDn (lgS s g x z.1) (lgG s g x z.1) f L x ∧ used (lgS s g x z.1).fs ≤ used s.fs + x.length + 40 ∧ (lgS s g x z.1).room = s.room := fun z => by
    have e := log_fail (z := z.1) h ha h0 hxl (by omega)
    rcases log_append (z := z.1) h hxl z.2 (by omega) with ⟨e1, _⟩ | ⟨e1, e2, e3, e4, e5⟩
    · rw [e] at e1; exact absurd e1 (by decide)
    · exact ⟨e, e3, by omega, e5⟩
  have h0 := Ctr.dk (ι := {z : RdX // ((fget s.fs g.f).b ++ lgFr g x).length ≤ z.c}) (M := M) [Box l 88 (lgC b g)] (fun z => [Box l 88 (lgC b (lgG s g x z.1))]) (fun z => lgS s g x z.1) (lapp_spec (l := l) (b := b) (cb := cb) (g := g) (s := s) (x := x) h.ok hA hx h.rm.used h.rm.room (by rw [h.gf]; have := h.hf; exact ⟨by omega, by omega⟩) ⟨by have := h.lft.lo; omega, by have := h.lft.hi; omega⟩ hgn (by omega))
  exact h0.weak (fun w hw => hw) (fun z => ⟨(lgS s g x z.1, lgG s g x z.1), (key z).2⟩) (fun z => by show I (lgE s g x z.1) = _; rw [(key z).1]) (fun z w hw => hw)
theorem lapp_dn {l : Nat} {g : Lg} {x : List UInt8} {ob : Option Addr} {cb : Nat} {b : Nat} {s : Ds} {M : List HP} {F : List Fact} (hd : g.dn = true) (hgf : I64 g.f) (hgn : g.n ≤ 4611686018427387904) (hok : OkF s.fs) (hl : Lft s) (hr : Rm s) (hA : AllF s.fs ∈ F) (hx : ArrF ob (bytesV x) ∈ F) (hxl : x.length ≤ 65536) :
    Ctr Try.prog 29 [.pointer (some ⟨l, 0, none⟩), .slice ob x.length cb] (Box l 88 (lgC b g) :: DkB 92 b (s) :: M) F Unit (fun _ => I 22) (fun _ => Box l 88 (lgC b g) :: DkB 92 b (s) :: M) (fun _ => F) := by
  have e := fun z => log_down (s := s) (g := g) (x := x) (z := z) hd hxl
  have h0 := Ctr.dk (ι := {z : RdX // ((fget s.fs g.f).b ++ lgFr g x).length ≤ z.c}) (M := M) [Box l 88 (lgC b g)] (fun z => [Box l 88 (lgC b (lgG s g x z.1))]) (fun z => lgS s g x z.1) (lapp_spec (l := l) (b := b) (cb := cb) (g := g) (s := s) (x := x) hok hA hx hr.used hr.room hgf ⟨by have := hl.lo; omega, by have := hl.hi; omega⟩ hgn (by omega))
  refine h0.weak (fun w hw => hw) (fun _ => ()) (fun z => by show I (lgE s g x z.1) = _; rw [(e z.1).1]) (fun z w hw => ?_)
  have h9 : St w (Box l 88 (lgC b (lgG s g x z.1)) :: DkB 92 b (lgS s g x z.1) :: M) (AllF (lgS s g x z.1).fs :: F) := hw
  rw [(e z.1).2.1, (e z.1).2.2] at h9
  exact h9.facts (fun φ h => .tail _ h)
theorem open_d {f : Nat} {b : Nat} {s : Ds} {M : List HP} {F : List Fact} (hc : CalmD s) (hf : f < 64) (hok : OkF s.fs) (hl : Lft s) (hr : Rm s) (hA : AllF s.fs ∈ F) :
    Ctr Try.prog 22 [.pointer (some ⟨b, 0, none⟩), I (f : Int)] (DkB 92 b (s) :: M) F {q : (Nat × LsX) × Ds // OpenR s f q} (fun q => .tuple #[.pointer (some ⟨q.1.1.1, 0, none⟩), .slice q.1.1.2.oa q.1.1.2.ps.length q.1.1.2.c, I 0])
      (fun q => Box q.1.1.1 88 (lgC b ⟨f, q.1.1.2.ps.length, false⟩) :: OwnSl 23 1 q.1.1.2.oa q.1.1.2.ps.length q.1.1.2.c (listV q.1.1.2.ps) :: DkB 92 b q.1.2 :: M) (fun q => AllB q.1.1.2.ps :: AllF q.1.2.fs :: F) := by
  obtain ⟨o1, o2, o3⟩ := log_open hok hc hl hr hf
  have h0 := Ctr.dk (ι := {z : Nat × LsX // z.2.ps.map Prod.fst = scanJ 0 (fget s.fs (f : Int)).b ∧ ∀ p, p ∈ z.2.ps → p.1.length ≤ p.2.c}) (M := M) [] (fun z => [Box z.1.1 88 (lgC b ⟨f, z.1.2.ps.length, false⟩), OwnSl 23 1 z.1.2.oa z.1.2.ps.length z.1.2.c (listV z.1.2.ps)]) (fun _ => { s with fs := openFs s f }) (open_calm (b := b) (s := s) (n := (f : Int)) hc ⟨by omega, by omega⟩ hok hA (Nat.le_trans hr.used hr.room) ⟨by have := hl.lo; omega, by have := hl.hi; omega⟩)
  refine h0.weak (fun w hw => hw)
    (fun z => ⟨((z.1.1, z.1.2), { s with fs := openFs s f }), ⟨z.2.1, z.2.2, ?_, hc.armed, o3, rfl, o2⟩⟩) (fun _ => rfl) (fun z w hw => hw)
  have e : z.1.2.ps.length = (scanJ 0 (vB s.fs f)).length := by rw [← List.length_map (f := Prod.fst), z.2.1]; rfl
  rw [e]; exact o1

theorem dapp_d {n : Int} {x : List UInt8} {ob : Option Addr} {cb : Nat} {b : Nat} {s : Ds} {M : List HP} {F : List Fact} (hok : OkF s.fs) (hl : Lft s) (hr : Rm s) (hA : AllF s.fs ∈ F) (hx : ArrF ob (bytesV x) ∈ F) (hn : I64 n) (hxl : x.length ≤ 4398046511104) :
    Ctr Try.prog 44 [.pointer (some ⟨b, 0, none⟩), I n, .slice ob x.length cb] (DkB 92 b (s) :: M) F {z : RdX // ((fget s.fs n).b ++ x).length ≤ z.c} (fun _ => I (appE s n x)) (fun z => DkB 92 b (appS s n x z.1) :: M) (fun z => AllF (appS s n x z.1).fs :: F) :=
  Ctr.dk (ι := {z : RdX // ((fget s.fs n).b ++ x).length ≤ z.c}) (M := M) [] (fun _ => []) (fun z => appS s n x z.1) (append_spec (b := b) (s := s) (cb := cb) hok hA hx hr.used hr.room hn ⟨by have := hl.lo; omega, by have := hl.hi; omega⟩ hxl)

end Go.Proofs.Ytdlpaojkkekdlaa

namespace Go.Proofs.Ytdlpaojkkekdlaa
open Go.GL
set_option linter.unusedVariables false
theorem zb_bs22_1_0 (x0 : Int) : BuildSV Try.prog 22 3 1 [(0, .int .i64 x0)] [.int .i64 x0] := fun w => by kernel_rfl
theorem zb_tb4 : tyBool Try.prog 4 = true := by kernel_rfl
theorem zb_tl27 : tySlice Try.prog 27 23 = true := by kernel_rfl
theorem zb_tp36 : tyPtr Try.prog 36 92 = true := by kernel_rfl
theorem zb_tp38 : tyPtr Try.prog 38 88 = true := by kernel_rfl
theorem zb_ts23 : tyScalar Try.prog 23 = true := by kernel_rfl
theorem zb_tz23 : tySize Try.prog 23 1 = true := by kernel_rfl
structure DuX where
  i : Nat
  dn : Nat
  tr : Nat
  s : Ds
  g : Lg

/-- where a log stands when the first i records have been handed to it -/
def DuP (xs : List (List UInt8)) (x : DuX) : Prop :=
  x.i ≤ xs.length ∧ x.s.room = 5000 ∧ used x.s.fs ≤ 60 * x.i ∧
  ((LogSt x.s x.g 0 (xs.take x.i) ∧ x.dn = x.i ∧ x.tr = x.i) ∨ ∃ j, ∃ hj : j < x.i, ∃ hl : j < xs.length, LogDn x.s x.g 0 (xs.take j) xs[j] ∧ x.dn = j ∧ x.tr = j + 1)
theorem DuP.some {xs : List (List UInt8)} {x : DuX} (h : DuP xs x) : OkF x.s.fs ∧ Lft x.s ∧ Rm x.s := by
  rcases h.2.2.2 with ⟨h, _⟩ | ⟨j, _, _, h, _⟩
  · exact ⟨h.ok, h.lft, h.rm⟩
  · exact ⟨h.ok, h.lft, h.rm⟩
/-- what is there after the crash -/
theorem DuP.crash {xs : List (List UInt8)} {x : DuX} (h : DuP xs x) (hi : x.i = xs.length) (hl : ∀ y, y ∈ xs → y.length ≤ 65536) (hn : xs.length ≤ 4611686018427387904) {t : Ds} {keep : List Int} (hc : CrashR x.s keep (-1) t) :
    ∃ m, x.dn ≤ m ∧ m ≤ x.tr ∧ m ≤ xs.length ∧ scanJ 0 (vB t.fs 0) = xs.take m := by
  rcases h.2.2.2 with ⟨h1, h2, h3⟩ | ⟨j, hj, hjl, h1, h2, h3⟩
  · refine ⟨xs.length, by omega, by omega, Nat.le_refl _, ?_⟩
    rw [crash_hard hc h1.ok h1.hard, h1.b, hi, List.take_length]
    exact scan_all hn hl
  · obtain ⟨m, hm, e⟩ := crash_dn h1 hc (by decide)
    have h4 := scan_prefix (m := m) hm (by rw [List.length_take]; omega) (fun y hy => hl y (List.mem_of_mem_take hy)) (hl _ (List.getElem_mem hjl))
    rw [← e] at h4
    rcases h4 with h4 | h4
    · exact ⟨j, by omega, by omega, by omega, h4⟩
    · exact ⟨j + 1, by omega, by omega, by omega, by rw [h4, List.take_succ_eq_append_getElem hjl]⟩

set_option maxHeartbeats 2000000 in
theorem law_durable {xs : List Int} {wn k : Int} {b : List UInt8} {oa ob : Option Addr} {ca cb : Nat} {M : List HP} {F : List Fact} (ha : ArrF oa (ints xs) ∈ F) (hxs : IntsOk xs) (hw0 : I64 wn) (hk0 : I64 k) (hb : ArrF ob (bytesV b) ∈ F) (hbc : b.length ≤ cb) : Ctr Try.prog 9 [.slice oa xs.length ca, I wn, I k, .slice ob b.length cb] M F Unit (fun _ => .bool true) (fun _ => M) (fun _ => F) := by
  refine Ctr.body Try.func9 rfl rfl ?_
  refine TR.seq ?_
  refine TR.region ?_
  refine RL.assign rfl rfl rfl ?_
  refine RL.nil ?_
  refine NX.seq ?_
  refine TR.seq ?_
  refine TR.region ?_
  refine RL.call rfl rfl Try.call21 rfl (fresh_d (k := 5000) (by decide)) (fun z0 => ?_)
  refine RL.assign rfl rfl rfl ?_
  refine RL.nil ?_
  refine NX.seq ?_
  refine TR.seq ?_
  refine TR.seq ?_
  refine TR.region ?_
  refine RL.move rfl rfl rfl ?_
  refine RL.bin rfl rfl rfl (BinV.eqlPtrNil zb_tp36) rfl ?_
  refine RL.nil ?_
  refine NX.seq ?_
  refine TR.condF rfl ?_
  refine TR.skip ?_
  refine NX.seq ?_
  refine TR.seq ?_
  refine TR.region ?_
  refine RL.move rfl rfl rfl ?_
  refine RL.call rfl rfl Try.call22 rfl (open_d (f := 0) (s := (⟨z0.2, [], 5000, false, false, 0⟩ : Ds)) ⟨rfl, rfl⟩ (by decide) OkF.nil fresh_lft (fresh_rm (by decide)) (.head _)) (fun q1 => ?_)
  obtain ⟨hq1, hu1⟩ := fresh_log (o := q1.1.1) (t := q1.1.2) q1.2
  refine RL.weak (fun w hw => hw.drop 1 rfl) ?_
  refine RL.move rfl rfl rfl ?_
  refine RL.extract rfl rfl rfl rfl ?_
  refine RL.extract rfl rfl rfl rfl ?_
  refine RL.extract rfl rfl rfl rfl ?_
  refine RL.assign rfl rfl rfl ?_
  refine RL.assign rfl rfl rfl ?_
  refine RL.assign rfl rfl rfl ?_
  refine RL.nil ?_
  refine NX.seq ?_
  refine TR.seq ?_
  refine TR.seq ?_
  refine TR.region ?_
  refine RL.move rfl rfl rfl ?_
  refine RL.bin rfl rfl rfl (BinV.eqlPtrNil zb_tp38) rfl ?_
  refine RL.move rfl rfl rfl ?_
  refine RL.move rfl rfl rfl ?_
  refine RL.bin rfl rfl rfl (BinV.to (d := false) BinV.neq (decide_eq_false (by simp))) rfl ?_
  refine RL.pickF rfl rfl rfl rfl ?_
  refine RL.nil ?_
  refine NX.seq ?_
  refine TR.condF rfl ?_
  refine TR.skip ?_
  refine NX.seq ?_
  refine TR.seq ?_
  refine TR.region ?_
  refine RL.move rfl rfl rfl ?_
  refine RL.move rfl rfl rfl ?_
  refine RL.call rfl rfl Try.call20 rfl (around_spec (by decide) hw0.1 hw0.2) (fun r => ?_)
  refine RL.call rfl rfl Try.call24 rfl (Ctr.pick 2 [1, 0] rfl (arm_d (n := r.1) (s := q1.1.2))) (fun _ => ?_)
  have harm := hq1.arm (n := r.1) (by have := r.2.1; omega) (by have := r.2.2; omega)
  refine RL.nil ?_
  refine NX.seq ?_
  refine TR.seq ?_
  refine TR.region ?_
  refine RL.move rfl rfl rfl ?_
  refine RL.call rfl rfl Try.call15 rfl (records_spec2 (.tail _ (.tail _ (.tail _ ha))) hxs) (fun X => ?_)
  have hX6 := X.2.1
  refine RL.open1 (fun w hw => ⟨hw.ownLen.2, hw⟩) (fun hXc => ?_)
  refine RL.weak (fun w hw => hw.keepSl) ?_
  refine RL.assign rfl rfl rfl ?_
  refine RL.nil ?_
  refine NX.seq ?_
  refine TR.seq ?_
  refine TR.region ?_
  refine RL.assign rfl rfl rfl ?_
  refine RL.nil ?_
  refine NX.seq ?_
  refine TR.seq ?_
  refine TR.region ?_
  refine RL.assign rfl rfl rfl ?_
  refine RL.nil ?_
  refine NX.seq ?_
  refine TR.seq ?_
  refine TR.seq ?_
  refine TR.region ?_
  refine RL.assign rfl rfl rfl ?_
  refine RL.nil ?_
  refine NX.seq ?_
  refine TR.block ?_
  refine TR.loopP (ι := DuX) (fun x => DuP (X.1.ps.map Prod.fst) x) (fun x => [(2, I k), (3, .slice ob b.length cb), (9, .pointer (some ⟨z0.1, 0, none⟩)), (10, .pointer (some ⟨q1.1.1.1, 0, none⟩)), (13, .slice X.1.oa X.1.ps.length X.1.c), (14, I x.dn), (15, I x.tr), (16, I x.i)]) (fun x => Box q1.1.1.1 88 (lgC z0.1 x.g) :: DkB 92 z0.1 x.s :: M) (fun x => AllF x.s.fs :: ArrF X.1.oa (listV X.1.ps) :: AllB X.1.ps :: F) (fun x => (X.1.ps.map Prod.fst).length - x.i) ⟨0, 0, 0, armS q1.1.2 r.1, ⟨(0 : Nat), q1.1.1.2.ps.length, false⟩⟩ ⟨Nat.zero_le _, by rw [armS_on hq1.off]; exact q1.2.room, by rw [armS_on hq1.off]; show used q1.1.2.fs ≤ _; omega, .inl ⟨harm, rfl, rfl⟩⟩ ⟨rfl, rfl, rfl, rfl, rfl, rfl, rfl, rfl, trivial⟩ (fun w hw => (by have h9 := (hw.to 2 [1, 0] 5 [3, 0, 1] rfl); rw [armS_on hq1.off] at h9 ⊢; exact h9)) (fun x hx => ?_)
  refine TR.seq ?_
  refine TR.seq ?_
  refine TR.region ?_
  refine RL.move rfl rfl rfl ?_
  refine RL.move rfl rfl rfl ?_
  refine RL.lenSlice rfl zb_tl27 rfl rfl ?_
  refine RL.bin rfl rfl rfl BinV.lss rfl ?_
  refine RL.nil ?_
  refine NX.seq ?_
  refine TR.cond rfl (fun h1 => ?_) (fun h1 => ?_)
  · skip
    have hk1 : x.i < X.1.ps.length := by have := of_decide_eq_true h1; omega
    have hxi : x.i < (X.1.ps.map Prod.fst).length := by rw [List.length_map]; exact hk1
    have hrl := (X.2.2 _ (List.getElem_mem hk1)).1
    have hroom := hx.2.1
    have hus := hx.2.2.1
    have hrow : X.1.ps[x.i].1 = (X.1.ps.map Prod.fst)[x.i] := by rw [List.getElem_map]
    have hsn : (X.1.ps.map Prod.fst).take x.i ++ [X.1.ps[x.i].1] = (X.1.ps.map Prod.fst).take (x.i + 1) := by rw [List.take_succ_eq_append_getElem hxi, List.getElem_map]
    refine TR.weak (fun w hw => hw.allB_get (ps := X.1.ps) (.tail _ (.tail _ (.head _))) (List.getElem_mem hk1)) ?_
    refine TR.openP (open_arr (oa := X.1.oa) (xs := listV X.1.ps) (.tail _ (.tail _ (.head _))) (listV_ne hk1)) (fun pq hpa => ?_)
    refine TR.skip ?_
    refine NX.seq ?_
    refine TR.seq ?_
    refine TR.block ?_
    refine TR.seq ?_
    refine TR.region ?_
    rcases hx.2.2.2 with hup | ⟨jd, hjd, hjl, hdn, hdn2⟩
    · skip
      refine RL.move rfl rfl rfl ?_
      refine RL.move rfl rfl rfl ?_
      refine RL.move rfl rfl rfl ?_
      refine RL.indexAddr rfl zb_tl27 zb_tz23 (congrArg (fun a => some (Value.slice a _ _)) hpa) rfl (by omega) (by omega) rfl ?_
      refine RL.loadF rfl rfl (fun w K hF => run_loadCell1 (j := (x.i : Int).toNat * 1) (v := .slice X.1.ps[x.i].2.oa X.1.ps[x.i].1.length X.1.ps[x.i].2.c) (hF (CellsF pq.1 pq.2 (listV X.1.ps)) (.head _)) zb_ts23 (listV_get hk1)) rfl ?_
      refine RL.call rfl rfl Try.call29 rfl (lapp_up (g := x.g) (s := x.s) (x := X.1.ps[x.i].1) hup.1 (.tail _ (.tail _ (.head _))) (.tail _ (.head _)) (by omega) (by rw [List.length_take]; omega) (by omega)) (fun q => ?_)
      have hA := q.2
      refine RL.bin rfl rfl rfl BinV.eql rfl ?_
      refine RL.nil ?_
      refine NX.seq ?_
      refine TR.cond rfl (fun h2 => ?_) (fun h2 => ?_)
      · skip
        have hA : _ := (q.2.resolve_right fun e => by have h9 := of_decide_eq_true h2; rw [e.1] at h9; exact absurd h9 (by decide))
        refine TR.seq ?_
        refine TR.region ?_
        refine RL.move rfl rfl rfl ?_
        refine RL.bin rfl rfl rfl (BinV.add _ rfl (by omega) (by omega)) rfl ?_
        refine RL.assign rfl rfl rfl ?_
        refine RL.nil ?_
        refine NX.seq ?_
        refine TR.region ?_
        refine RL.move rfl rfl rfl ?_
        refine RL.assign rfl rfl rfl ?_
        refine RL.nil ?_
        refine NX.off ?_
        refine NX.seq ?_
        refine TR.region ?_
        refine RL.move rfl rfl rfl ?_
        refine RL.bin rfl rfl rfl (BinV.add _ rfl (by omega) (by omega)) rfl ?_
        refine RL.assign rfl rfl rfl ?_
        refine RL.nil ?_
        refine NX.roundP ⟨x.i + 1, x.dn + 1, x.dn + 1, q.1.2.1, q.1.2.2⟩ ⟨by show x.i + 1 ≤ _; omega, hA.2.2.2.2.1.trans hroom, by show used q.1.2.1.fs ≤ 60 * (x.i + 1); have := hA.2.2.2.1; omega, .inl ⟨Eq.mp (congrArg (fun L => LogSt q.1.2.1 q.1.2.2 0 L) hsn) hA.2.1, by show x.dn + 1 = x.i + 1; omega, by show x.dn + 1 = x.i + 1; omega⟩⟩ (by show (X.1.ps.map Prod.fst).length - (x.i + 1) < _; omega) ⟨rfl, rfl, rfl, rfl, rfl, ?_, ?_, rfl, trivial⟩ (fun w hw => (hw.to 2 [0, 1] 6 [0, 4, 5] rfl))
        · show some (I ((x.dn : Int) + 1)) = some (I ((x.dn + 1 : Nat) : Int)); congr 2
        · show some (I ((x.dn : Int) + 1)) = some (I ((x.dn + 1 : Nat) : Int)); congr 2
      · skip
        have hA : _ := (q.2.resolve_left fun e => by have h9 := of_decide_eq_false h2; exact h9 e.1)
        refine TR.seq ?_
        refine TR.region ?_
        refine RL.move rfl rfl rfl ?_
        refine RL.move rfl rfl rfl ?_
        refine RL.bin rfl rfl rfl BinV.eql rfl ?_
        refine RL.nil ?_
        refine NX.seq ?_
        refine TR.cond rfl (fun h3 => ?_) (fun h3 => ?_)
        · skip
          skip
          refine TR.region ?_
          refine RL.move rfl rfl rfl ?_
          refine RL.bin rfl rfl rfl (BinV.add _ rfl (by omega) (by omega)) rfl ?_
          refine RL.assign rfl rfl rfl ?_
          refine RL.nil ?_
          refine NX.off ?_
          refine NX.seq ?_
          refine TR.region ?_
          refine RL.move rfl rfl rfl ?_
          refine RL.bin rfl rfl rfl (BinV.add _ rfl (by omega) (by omega)) rfl ?_
          refine RL.assign rfl rfl rfl ?_
          refine RL.nil ?_
          refine NX.roundP ⟨x.i + 1, x.dn, x.dn + 1, q.1.2.1, q.1.2.2⟩ ⟨by show x.i + 1 ≤ _; omega, hA.2.2.2.2.trans hroom, by show used q.1.2.1.fs ≤ 60 * (x.i + 1); have := hA.2.2.2.1; omega, .inr ⟨x.i, Nat.lt_succ_self _, hxi, Eq.mp (congrArg (fun y => LogDn q.1.2.1 q.1.2.2 0 ((X.1.ps.map Prod.fst).take x.i) y) hrow) hA.2.2.1, hup.2.1, by show x.dn + 1 = x.i + 1; omega⟩⟩ (by show (X.1.ps.map Prod.fst).length - (x.i + 1) < _; omega) ⟨rfl, rfl, rfl, rfl, rfl, rfl, ?_, rfl, trivial⟩ (fun w hw => (hw.to 2 [0, 1] 6 [0, 4, 5] rfl))
          show some (I ((x.dn : Int) + 1)) = some (I ((x.dn + 1 : Nat) : Int)); congr 2
        · skip
          exact absurd (show (x.dn : Int) = x.i by have := hup.2.1; omega) (of_decide_eq_false h3)
    · skip
      refine RL.move rfl rfl rfl ?_
      refine RL.move rfl rfl rfl ?_
      refine RL.move rfl rfl rfl ?_
      refine RL.indexAddr rfl zb_tl27 zb_tz23 (congrArg (fun a => some (Value.slice a _ _)) hpa) rfl (by omega) (by omega) rfl ?_
      refine RL.loadF rfl rfl (fun w K hF => run_loadCell1 (j := (x.i : Int).toNat * 1) (v := .slice X.1.ps[x.i].2.oa X.1.ps[x.i].1.length X.1.ps[x.i].2.c) (hF (CellsF pq.1 pq.2 (listV X.1.ps)) (.head _)) zb_ts23 (listV_get hk1)) rfl ?_
      refine RL.call rfl rfl Try.call29 rfl (lapp_dn (g := x.g) (s := x.s) (x := X.1.ps[x.i].1) hdn.dn (by rw [hdn.gf]; exact ⟨by decide, by decide⟩) (by rw [hdn.n, List.length_take]; omega) hdn.ok hdn.lft hdn.rm (.tail _ (.tail _ (.head _))) (.tail _ (.head _)) (by omega)) (fun _ => ?_)
      refine RL.bin rfl rfl rfl BinV.eql rfl ?_
      refine RL.nil ?_
      refine NX.seq ?_
      refine TR.cond rfl (fun h4 => ?_) (fun h4 => ?_)
      · skip
        exact absurd (of_decide_eq_true h4) (by decide)
      · skip
        skip
        refine TR.seq ?_
        refine TR.region ?_
        refine RL.move rfl rfl rfl ?_
        refine RL.move rfl rfl rfl ?_
        refine RL.bin rfl rfl rfl BinV.eql rfl ?_
        refine RL.nil ?_
        refine NX.seq ?_
        refine TR.cond rfl (fun h5 => ?_) (fun h5 => ?_)
        · skip
          exact absurd (of_decide_eq_true h5) (by have := hdn2.1; omega)
        · skip
          skip
          refine TR.skip ?_
          refine NX.off ?_
          refine NX.seq ?_
          refine TR.region ?_
          refine RL.move rfl rfl rfl ?_
          refine RL.bin rfl rfl rfl (BinV.add _ rfl (by omega) (by omega)) rfl ?_
          refine RL.assign rfl rfl rfl ?_
          refine RL.nil ?_
          refine NX.roundP ⟨x.i + 1, x.dn, x.tr, x.s, x.g⟩ ⟨by show x.i + 1 ≤ _; omega, hroom, by show used x.s.fs ≤ 60 * (x.i + 1); omega, .inr ⟨jd, by show jd < x.i + 1; omega, hjl, hdn, hdn2.1, hdn2.2⟩⟩ (by show (X.1.ps.map Prod.fst).length - (x.i + 1) < _; omega) ⟨rfl, rfl, rfl, rfl, rfl, rfl, rfl, rfl, trivial⟩ (fun w hw => (hw.to 2 [0, 1] 5 [2, 3, 4] rfl))
  · skip
    have hxn0 : (X.1.ps.map Prod.fst).length = X.1.ps.length := List.length_map _
    have hi : x.i = (X.1.ps.map Prod.fst).length := by have := of_decide_eq_false h1; have := hx.1; omega
    have hso := hx.some
    have hkl : ∀ y, y ∈ (X.1.ps.map Prod.fst) → y.length ≤ 65536 := fun y hy => by obtain ⟨p, hp, rfl⟩ := List.mem_map.1 hy; have := (X.2.2 p hp).1; omega
    have hxn : (X.1.ps.map Prod.fst).length ≤ 4611686018427387904 := by omega
    have hxl : x.g.n = x.dn := by
      rcases hx.2.2.2 with ⟨h1, h2, _⟩ | ⟨j, hj, hjl, h1, h2, _⟩
      · rw [h1.n, List.length_take]; omega
      · rw [h1.n, List.length_take]; omega
    have hxu : (!x.g.dn) = decide ((x.dn : Int) = (X.1.ps.length : Int)) := by
      rcases hx.2.2.2 with ⟨h1, h2, _⟩ | ⟨j, hj, hjl, h1, h2, _⟩
      · rw [h1.dn]; exact (decide_eq_true (by omega)).symm
      · rw [h1.dn]; exact (decide_eq_false (by omega)).symm
    refine TR.exit ?_
    refine NX.exitThen ?_
    refine NX.exitThen ?_
    refine NX.exitHere ?_
    refine NX.seq ?_
    refine TR.seq ?_
    refine TR.seq ?_
    refine TR.region ?_
    refine RL.move rfl rfl rfl ?_
    refine RL.call rfl rfl Try.call42 rfl (llen_spec) (fun _ => ?_)
    refine RL.move rfl rfl rfl ?_
    refine RL.bin rfl rfl rfl (BinV.to (d := false) BinV.neq (decide_eq_false (by have := hxl; omega))) rfl ?_
    refine RL.move rfl rfl rfl ?_
    refine RL.move rfl rfl rfl ?_
    refine RL.call rfl rfl Try.call43 rfl (lup_spec) (fun _ => ?_)
    refine RL.move rfl rfl rfl ?_
    refine RL.move rfl rfl rfl ?_
    refine RL.lenSlice rfl zb_tl27 rfl rfl ?_
    refine RL.bin rfl rfl rfl BinV.eql rfl ?_
    refine RL.bin rfl rfl rfl (BinV.to (d := false) (BinV.neqB zb_tb4) (decide_eq_false (by simp only [ne_eq, Decidable.not_not]; exact hxu))) rfl ?_
    refine RL.pickF rfl rfl rfl rfl ?_
    refine RL.nil ?_
    refine NX.seq ?_
    refine TR.condF rfl ?_
    refine TR.skip ?_
    refine NX.seq ?_
    refine TR.seq ?_
    refine TR.region ?_
    refine RL.move rfl rfl rfl ?_
    refine RL.move rfl rfl rfl ?_
    refine RL.buildSlice rfl rfl (zb_bs22_1_0 _) rfl (fun b6 => ?_)
    refine RL.weak (fun w hw => St.boxArr (show St w (Box _ _ (ints [k]) :: _) _ from hw)) ?_
    refine RL.call rfl rfl Try.call31 rfl (Ctr.pick 2 [1, 0] rfl (crash_d (keep := [k]) (flip := -1) hso.1 (.tail _ (.head _)) (.head _) ⟨by show 1 ≤ _; decide, fun v hv => by rw [List.mem_singleton.1 hv]; exact hk0⟩ (Nat.le_trans hso.2.2.used hso.2.2.room) ⟨by decide, by decide⟩)) (fun t => ?_)
    refine RL.nil ?_
    refine NX.seq ?_
    refine TR.seq ?_
    refine TR.region ?_
    refine RL.move rfl rfl rfl ?_
    refine RL.call rfl rfl Try.call22 rfl (open_d (f := 0) (s := t.1) t.2.calm (by decide) t.2.ok (t.2.lft hso.2.1) (t.2.rm hso.1 hso.2.2) (.head _)) (fun q2 => ?_)
    obtain ⟨m, hm1, hm2, hm3, hm4⟩ := hx.crash hi hkl hxn t.2
    have hq2 := q2.2.st
    have hre := q2.2.recs
    rw [hm4] at hq2 hre
    have hlen : q2.1.1.2.ps.length = m := by have h9 := congrArg List.length hre; rw [List.length_map, List.length_take] at h9; omega
    have hqu : used q2.1.2.fs ≤ 360 := by have := q2.2.used; have := t.2.used hso.1; have := hx.2.2.1; omega
    have hqr : q2.1.2.room = 5000 := q2.2.room.trans (t.2.room.trans hx.2.1)
    have hqc := q2.2.armed
    refine RL.weak (fun w hw => (hw.front (i := 1) rfl).keepSl) ?_
    refine RL.move rfl rfl rfl ?_
    refine RL.extract rfl rfl rfl rfl ?_
    refine RL.extract rfl rfl rfl rfl ?_
    refine RL.extract rfl rfl rfl rfl ?_
    refine RL.assign rfl rfl rfl ?_
    refine RL.assign rfl rfl rfl ?_
    refine RL.assign rfl rfl rfl ?_
    refine RL.nil ?_
    refine NX.seq ?_
    refine TR.seq ?_
    refine TR.seq ?_
    refine TR.region ?_
    refine RL.move rfl rfl rfl ?_
    refine RL.bin rfl rfl rfl (BinV.eqlPtrNil zb_tp38) rfl ?_
    refine RL.move rfl rfl rfl ?_
    refine RL.move rfl rfl rfl ?_
    refine RL.bin rfl rfl rfl (BinV.to (d := false) BinV.neq (decide_eq_false (by simp))) rfl ?_
    refine RL.pickF rfl rfl rfl rfl ?_
    refine RL.move rfl rfl rfl ?_
    refine RL.move rfl rfl rfl ?_
    refine RL.lenSlice rfl zb_tl27 rfl rfl ?_
    refine RL.move rfl rfl rfl ?_
    refine RL.bin rfl rfl rfl (BinV.to (d := false) BinV.lss (decide_eq_false (by omega))) rfl ?_
    refine RL.pickF rfl rfl rfl rfl ?_
    refine RL.move rfl rfl rfl ?_
    refine RL.move rfl rfl rfl ?_
    refine RL.lenSlice rfl zb_tl27 rfl rfl ?_
    refine RL.move rfl rfl rfl ?_
    refine RL.bin rfl rfl rfl (BinV.to (d := false) BinV.gtr (decide_eq_false (by omega))) rfl ?_
    refine RL.pickF rfl rfl rfl rfl ?_
    refine RL.move rfl rfl rfl ?_
    refine RL.move rfl rfl rfl ?_
    refine RL.move rfl rfl rfl ?_
    refine RL.move rfl rfl rfl ?_
    refine RL.lenSlice rfl zb_tl27 rfl rfl ?_
    refine RL.sliceToL (k := q2.1.1.2.ps.length) (ps := X.1.ps) rfl zb_tl27 zb_tz23 rfl rfl (by rw [List.length_take]; omega) hXc (.tail _ (.tail _ (.tail _ (.tail _ (.tail _ (.tail _ (.head _))))))) (.tail _ (.tail _ (.tail _ (.tail _ (.tail _ (.tail _ (.tail _ (.head _)))))))) rfl ?_
    refine RL.call rfl rfl Try.call18 rfl (Ctr.boolT (decide_eq_true (by rw [hre, List.map_take, hlen])) (sameL_spec (ps := q2.1.1.2.ps) (qs := X.1.ps.take q2.1.1.2.ps.length) (.tail _ (.tail _ (.head _))) (.head _) (.tail _ (.tail _ (.tail _ (.head _)))) (.tail _ (.head _)) (fun p hp => by have h9 := hkl p.1 (by have h8 := List.mem_map_of_mem (f := Prod.fst) hp; rw [hre] at h8; exact List.mem_of_mem_take h8); omega) (by omega))) (fun _ => ?_)
    refine RL.not (b := true) rfl rfl rfl ?_
    refine RL.pickF rfl rfl rfl rfl ?_
    refine RL.move rfl rfl rfl ?_
    refine RL.move rfl rfl rfl ?_
    refine RL.call rfl rfl Try.call42 rfl (llen_spec) (fun _ => ?_)
    refine RL.move rfl rfl rfl ?_
    refine RL.lenSlice rfl zb_tl27 rfl rfl ?_
    refine RL.bin rfl rfl rfl (BinV.to (d := false) BinV.neq (decide_eq_false (by simp))) rfl ?_
    refine RL.pickF rfl rfl rfl rfl ?_
    refine RL.nil ?_
    refine NX.seq ?_
    refine TR.condF rfl ?_
    refine TR.skip ?_
    refine NX.seq ?_
    refine TR.seq ?_
    refine TR.region ?_
    refine RL.move rfl rfl rfl ?_
    refine RL.call rfl rfl Try.call11 rfl (few_spec (m := 50) (.tail _ (.tail _ (.tail _ (.tail _ (.tail _ (.tail _ (.tail _ (.tail _ (.tail _ (.tail _ hb)))))))))) hbc (by decide)) (fun fw => ?_)
    refine RL.weak (fun w hw => hw.keepSl) ?_
    refine RL.assign rfl rfl rfl ?_
    refine RL.nil ?_
    refine NX.seq ?_
    refine TR.seq ?_
    refine TR.seq ?_
    refine TR.region ?_
    refine RL.move rfl rfl rfl ?_
    refine RL.move rfl rfl rfl ?_
    refine RL.call rfl rfl Try.call29 rfl (lapp_ok (s := q2.1.2) (x := b.take 50) hq2 hqc (.tail _ (.tail _ (.tail _ (.tail _ (.tail _ (.head _)))))) (.head _) (by rw [List.length_take]; omega) (by rw [List.length_take]; omega) (by rw [hqr, List.length_take]; omega)) (fun q3 => ?_)
    refine RL.bin rfl rfl rfl (BinV.to (d := false) BinV.neq (decide_eq_false (by simp))) rfl ?_
    refine RL.nil ?_
    refine NX.seq ?_
    refine TR.condF rfl ?_
    refine TR.skip ?_
    refine NX.seq ?_
    refine TR.seq ?_
    refine TR.region ?_
    refine RL.move rfl rfl rfl ?_
    refine RL.call rfl rfl Try.call22 rfl (Ctr.pick 3 [1, 0, 2] rfl (open_d (f := 0) (s := q3.1.1) ⟨q3.2.1.off, q3.2.2.1⟩ (by decide) q3.2.1.ok q3.2.1.lft q3.2.1.rm (.head _))) (fun q4 => ?_)
    have hre4 := q4.2.recs
    rw [q3.2.1.b, scan_all (by rw [List.length_append, List.length_take, List.length_singleton]; omega) (fun y hy => by rcases List.mem_append.1 hy with h | h; exact hkl y (List.mem_of_mem_take h); rw [List.mem_singleton.1 h, List.length_take]; omega)] at hre4
    have hlen4 : q4.1.1.2.ps.length = m + 1 := by have h9 := congrArg List.length hre4; simp only [List.length_map, List.length_append, List.length_take, List.length_cons, List.length_nil] at h9; omega
    have hlast : m < q4.1.1.2.ps.length := by omega
    have hlv : q4.1.1.2.ps[m].1 = b.take 50 := by
      have h9 : (q4.1.1.2.ps.map Prod.fst)[m]'(by rw [List.length_map]; exact hlast) = b.take 50 := by
        have e : ∀ (l : List (List UInt8)) (h : m < l.length), l = (X.1.ps.map Prod.fst).take m ++ [b.take 50] → l[m] = b.take 50 := by
          intro l h e; subst e
          rw [List.getElem_append_right (by rw [List.length_take]; omega)]
          simp
        exact e _ _ hre4
      rw [List.getElem_map] at h9; exact h9
    refine RL.weak (fun w hw => (hw.front (i := 1) rfl).keepSl) ?_
    refine RL.move rfl rfl rfl ?_
    refine RL.extract rfl rfl rfl rfl ?_
    refine RL.extract rfl rfl rfl rfl ?_
    refine RL.extract rfl rfl rfl rfl ?_
    refine RL.assign rfl rfl rfl ?_
    refine RL.assign rfl rfl rfl ?_
    refine RL.assign rfl rfl rfl ?_
    refine RL.nil ?_
    refine NX.seq ?_
    refine TR.seq ?_
    refine TR.region ?_
    refine RL.move rfl rfl rfl ?_
    refine RL.bin rfl rfl rfl (BinV.to (d := true) BinV.eql (decide_eq_true rfl)) rfl ?_
    refine RL.move rfl rfl rfl ?_
    refine RL.move rfl rfl rfl ?_
    refine RL.lenSlice rfl zb_tl27 rfl rfl ?_
    refine RL.move rfl rfl rfl ?_
    refine RL.lenSlice rfl zb_tl27 rfl rfl ?_
    refine RL.bin rfl rfl rfl (BinV.add _ rfl (by omega) (by omega)) rfl ?_
    refine RL.bin rfl rfl rfl (BinV.to (d := true) BinV.eql (decide_eq_true (by omega))) rfl ?_
    refine RL.pickT rfl rfl rfl rfl ?_
    refine RL.move rfl rfl rfl ?_
    refine RL.move rfl rfl rfl ?_
    refine RL.move rfl rfl rfl ?_
    refine RL.lenSlice rfl zb_tl27 rfl rfl ?_
    refine RL.weak (fun w hw => hw.allB_get (ps := q4.1.1.2.ps) (.tail _ (.head _)) (List.getElem_mem hlast)) ?_
    refine RL.openP (open_arr (oa := q4.1.1.2.oa) (xs := listV q4.1.1.2.ps) (.tail _ (.head _)) (listV_ne hlast)) (fun p4 hp4 => ?_)
    refine RL.indexAddr rfl zb_tl27 zb_tz23 (congrArg (fun a => some (Value.slice a _ _)) hp4) rfl (by omega) (by omega) rfl ?_
    refine RL.loadF rfl rfl (fun w K hF => run_loadCell1 (j := (q2.1.1.2.ps.length : Int).toNat * 1) (v := .slice q4.1.1.2.ps[m].2.oa q4.1.1.2.ps[m].1.length q4.1.1.2.ps[m].2.c) (hF (CellsF p4.1 p4.2 (listV q4.1.1.2.ps)) (.head _)) zb_ts23 (by rw [hlen]; exact listV_get hlast)) rfl ?_
    refine RL.move rfl rfl rfl ?_
    refine RL.call rfl rfl Try.call12 rfl (Ctr.boolT (decide_eq_true hlv) (sameB_spec (xs := q4.1.1.2.ps[m].1) (ys := b.take 50) (.tail _ (.head _)) (.tail _ (.tail _ (.tail _ (.tail _ (.tail _ (.tail _ (.head _))))))) (by rw [hlv, List.length_take]; omega))) (fun _ => ?_)
    refine RL.pickT rfl rfl rfl rfl ?_
    refine RL.move rfl rfl rfl ?_
    refine RL.call rfl rfl Try.call19 rfl (lives_spec) (fun _ => ?_)
    refine RL.pickT rfl rfl rfl rfl ?_
    refine RL.assign rfl rfl rfl ?_
    refine RL.nil ?_
    refine NX.seq ?_
    refine TR.ret ?_
    exact NX.ret1 () rfl rfl rfl (fun w hw => (hw.to 4 [] 17 [] rfl))

end Go.Proofs.Ytdlpaojkkekdlaa

namespace Go.Proofs.Ytdlpaojkkekdlaa
open Go.GL
set_option linter.unusedVariables false
theorem ga_ni9 : noInt Try.prog 9 = true := by kernel_rfl
theorem ga_ta52 : tyAgg Try.prog 52 3 = true := by kernel_rfl
theorem ga_te5 : tyElem Try.prog 5 1 1 = true := by kernel_rfl
theorem ga_tf128_0 : fieldOff Try.prog 128 0 0 = true := by kernel_rfl
theorem ga_tf128_1 : fieldOff Try.prog 128 1 1 = true := by kernel_rfl
theorem ga_tf52_0 : fieldOff Try.prog 52 0 0 = true := by kernel_rfl
theorem ga_tf52_1 : fieldOff Try.prog 52 1 1 = true := by kernel_rfl
theorem ga_tf52_2 : fieldOff Try.prog 52 2 2 = true := by kernel_rfl
theorem ga_tl22 : tySlice Try.prog 22 3 = true := by kernel_rfl
theorem ga_tl23 : tySlice Try.prog 23 5 = true := by kernel_rfl
theorem ga_tl45 : tySlice Try.prog 45 52 = true := by kernel_rfl
theorem ga_tp102 : tyPtr Try.prog 102 5 = true := by kernel_rfl
theorem ga_tp126 : tyPtr Try.prog 126 128 = true := by kernel_rfl
theorem ga_ts126 : tyScalar Try.prog 126 = true := by kernel_rfl
theorem ga_ts23 : tyScalar Try.prog 23 = true := by kernel_rfl
theorem ga_ts3 : tyScalar Try.prog 3 = true := by kernel_rfl
theorem ga_ts9 : tyScalar Try.prog 9 = true := by kernel_rfl
theorem ga_tstr9 : tyStr Try.prog 9 = true := by kernel_rfl
theorem ga_tu141 : tyUns Try.prog 141 = true := by kernel_rfl
theorem ga_tz128 : tySize Try.prog 128 2 = true := by kernel_rfl
theorem ga_tz3 : tySize Try.prog 3 1 = true := by kernel_rfl
theorem ga_tz52 : tySize Try.prog 52 3 = true := by kernel_rfl
theorem ext68 (v : Value) (w : World) : (callFunc 104 #[v]).run Try.prog w = .ok (.value v) w := by kernel_rfl
theorem lies80 : liesAt Try.prog Try.prog.depth 128 (([Value.pointer none, .slice none 0 0] : List Value).length / Try.prog.cellsOf 128) 0 128 1 = true := by kernel_rfl
theorem cells5 : Nat.beq (Try.prog.cellsOf 5) 1 = true := by kernel_rfl

theorem copyCheck0_spec {b : Nat} {oa : Option Addr} {n c : Nat} {M : List HP} {F : List Fact} : Ctr Try.prog 99 [.pointer (some ⟨b, 0, none⟩)] (Box b 128 [.pointer (none), .slice oa n c] :: M) F Unit (fun _ => .tuple #[]) (fun _ => Box b 128 [.pointer (some ⟨b, 0, none⟩), .slice oa n c] :: M) (fun _ => F) := by
  refine Ctr.body Try.func99 rfl rfl ?_
  refine TR.seq ?_
  refine TR.region ?_
  refine RL.move rfl rfl rfl ?_
  refine RL.nilCheck rfl rfl rfl ?_
  refine RL.fieldAddr rfl ga_tf128_0 rfl rfl ?_
  refine RL.load1 0 rfl ga_ts126 rfl rfl rfl rfl ?_
  refine RL.bin rfl rfl rfl (BinV.eqlPtrNil ga_tp126) rfl ?_
  refine RL.nil ?_
  refine NX.seq ?_
  refine TR.condT rfl ?_
  refine TR.region ?_
  refine RL.move rfl rfl rfl ?_
  refine RL.move rfl rfl rfl ?_
  refine RL.toUnsafe 0 rfl ga_tp126 ga_tz128 rfl ga_tu141 rfl rfl rfl rfl ?_
  refine RL.callX rfl rfl (ext68 _) rfl ?_
  refine RL.fromUnsafe 0 rfl ga_tu141 ga_tz128 ga_tp126 rfl rfl lies80 rfl ?_
  refine RL.nilCheck rfl rfl rfl ?_
  refine RL.fieldAddr rfl ga_tf128_0 rfl rfl ?_
  refine RL.store1 0 rfl ga_ts126 rfl rfl rfl rfl rfl ?_
  refine RL.nil ?_
  exact NX.end0 () rfl rfl (fun w hw => hw)

theorem copyCheck1_spec {b : Nat} {oa : Option Addr} {n c : Nat} {M : List HP} {F : List Fact} : Ctr Try.prog 99 [.pointer (some ⟨b, 0, none⟩)] (Box b 128 [.pointer (some ⟨b, 0, none⟩), .slice oa n c] :: M) F Unit (fun _ => .tuple #[]) (fun _ => Box b 128 [.pointer (some ⟨b, 0, none⟩), .slice oa n c] :: M) (fun _ => F) := by
  refine Ctr.body Try.func99 rfl rfl ?_
  refine TR.seq ?_
  refine TR.region ?_
  refine RL.move rfl rfl rfl ?_
  refine RL.nilCheck rfl rfl rfl ?_
  refine RL.fieldAddr rfl ga_tf128_0 rfl rfl ?_
  refine RL.load1 0 rfl ga_ts126 rfl rfl rfl rfl ?_
  refine RL.bin rfl rfl rfl (BinV.eqlPtrNil ga_tp126) rfl ?_
  refine RL.nil ?_
  refine NX.seq ?_
  refine TR.condF rfl ?_
  refine TR.seq ?_
  refine TR.region ?_
  refine RL.move rfl rfl rfl ?_
  refine RL.nilCheck rfl rfl rfl ?_
  refine RL.fieldAddr rfl ga_tf128_0 rfl rfl ?_
  refine RL.load1 0 rfl ga_ts126 rfl rfl rfl rfl ?_
  refine RL.move rfl rfl rfl ?_
  refine RL.bin rfl rfl rfl (BinV.neqPtrSame ga_tp126 ga_tz128) rfl ?_
  refine RL.nil ?_
  refine NX.seq ?_
  refine TR.condF rfl ?_
  refine TR.skip ?_
  exact NX.end0 () rfl rfl (fun w hw => hw)

theorem copyCheck_spec {b : Nat} {oa : Option Addr} {n c : Nat} {M : List HP} {F : List Fact} (i : Bool) : Ctr Try.prog 99 [.pointer (some ⟨b, 0, none⟩)] (Box b 128 [.pointer (if i then some ⟨b, 0, none⟩ else none), .slice oa n c] :: M) F Unit (fun _ => .tuple #[]) (fun _ => Box b 128 [.pointer (some ⟨b, 0, none⟩), .slice oa n c] :: M) (fun _ => F) := by
  cases i
  · exact copyCheck0_spec
  · exact copyCheck1_spec

theorem writeString_spec {b : Nat} {l x : List UInt8} {M : List HP} {F : List Fact} (hl : l.length + x.length ≤ 140737488355328) : Ctr Try.prog 86 [.pointer (some ⟨b, 0, none⟩), S x] (Bld 128 5 b l :: M) F Unit (fun _ => .tuple #[I x.length, .nilIface]) (fun _ => Bld 128 5 b (l ++ x) :: M) (fun _ => F) := by
  refine Ctr.body Try.func86 rfl rfl ?_
  refine TR.seq ?_
  refine TR.region ?_
  refine RL.open (fun w hw => St.exOpen hw) (fun i => ?_)
  refine RL.assign rfl rfl rfl ?_
  refine RL.assign rfl rfl rfl ?_
  refine RL.nil ?_
  refine NX.seq ?_
  refine TR.seq ?_
  refine TR.region ?_
  refine RL.move rfl rfl rfl ?_
  refine RL.call rfl rfl Try.call99 rfl (copyCheck_spec i.1) (fun _ => ?_)
  refine RL.nil ?_
  refine NX.seq ?_
  refine TR.seq ?_
  refine TR.region ?_
  refine RL.move rfl rfl rfl ?_
  refine RL.move rfl rfl rfl ?_
  refine RL.nilCheck rfl rfl rfl ?_
  refine RL.fieldAddr rfl ga_tf128_1 rfl rfl ?_
  refine RL.load1 0 rfl ga_ts23 rfl rfl rfl rfl ?_
  refine RL.move rfl rfl rfl ?_
  refine RL.ofGV rfl rfl (GV.append (j := 1) ga_tl23 ga_ni9 ga_te5 rfl rfl rfl (src_str x) (by omega) (by omega)) (fun z => ?_)
  refine RL.nilCheck rfl rfl rfl ?_
  refine RL.fieldAddr rfl ga_tf128_1 rfl rfl ?_
  refine RL.store1 0 rfl ga_ts23 rfl rfl rfl rfl rfl ?_
  refine RL.nil ?_
  refine NX.seq ?_
  refine TR.seq ?_
  refine TR.region ?_
  refine RL.move rfl rfl rfl ?_
  refine RL.lenStr rfl ga_tstr9 rfl rfl ?_
  refine RL.assign rfl rfl rfl ?_
  refine RL.assign rfl rfl rfl ?_
  refine RL.nil ?_
  refine NX.seq ?_
  refine TR.ret ?_
  exact NX.ret2 () rfl rfl rfl rfl (fun w hw => St.exClose (true, z.1, z.2) (by rw [bytesV_append, List.length_append]; exact hw))

set_option maxRecDepth 100000 in
theorem bString_spec {b : Nat} {l : List UInt8} {M : List HP} {F : List Fact} (hl : l.length ≤ 140737488355328) : Ctr Try.prog 87 [.pointer (some ⟨b, 0, none⟩)] (Bld 128 5 b l :: M) F Unit (fun _ => S l) (fun _ => M) (fun _ => F) := by
  refine Ctr.body Try.func87 rfl rfl ?_
  refine TR.seq ?_
  refine TR.region ?_
  refine RL.open (fun w hw => St.exOpen hw) (fun i => ?_)
  refine RL.assign rfl rfl rfl ?_
  refine RL.nil ?_
  refine NX.seq ?_
  refine TR.seq ?_
  refine TR.sub (E' := [(0, _)]) ⟨rfl, trivial⟩ ?_
  refine TR.draw mixed ?_
  apply AR.more [(0, _), (1, _), (2, _), (3, _), (5, _), (6, _), (7, _), (8, _), (9, _)]
  refine AR.eff [0, 1, 2, 3, 5, 6, 7, 8, 9] 4 [0, 1, 2, 3, 4, 5, 6, 7, 8, 9, 10, 11] ⟨QOne.yes rfl rfl rfl (PV.move rfl), QOne.yes rfl rfl rfl (PV.nilCheck rfl), QOne.yes rfl rfl rfl (PV.fieldAddr ga_tf128_1 rfl), QOne.yes rfl rfl rfl (PV.load1 0 ga_ts23 rfl rfl rfl), QOne.yes rfl rfl rfl (PV.move rfl), QOne.yes rfl rfl rfl (PV.nilCheck rfl), QOne.yes rfl rfl rfl (PV.fieldAddr ga_tf128_1 rfl), QOne.yes rfl rfl rfl (PV.load1 0 ga_ts23 rfl rfl rfl), QOne.yes rfl rfl rfl (PV.lenSlice ga_tl23 rfl), trivial⟩ rfl rfl rfl rfl rfl rfl rfl (EV.ofGV (GV.sliceData (j := 1) ga_tp102 rfl rfl)) (fun q => ?_)
  refine AR.done [3, 2, 1, 0] rfl ?_
  refine AR.eff [5, 6, 7, 8, 9] 10 [0, 1, 2, 3, 4, 5, 6, 7, 8, 9, 10, 11] ⟨QOne.yes rfl rfl rfl (PV.move rfl), QOne.yes rfl rfl rfl (PV.nilCheck rfl), QOne.yes rfl rfl rfl (PV.fieldAddr ga_tf128_1 rfl), QOne.yes rfl rfl rfl (PV.load1 0 ga_ts23 rfl rfl rfl), QOne.yes rfl rfl rfl (PV.lenSlice ga_tl23 rfl), trivial⟩ rfl rfl rfl rfl rfl rfl rfl (EV.ofGV (GV.unsafeString (j := 1) ga_tp102 cells5 rfl rfl q.2 (by omega) rfl)) (fun _ => ?_)
  refine AR.done [9, 8, 7, 6, 5] rfl ?_
  apply AR.more [(11, _)]
  refine AR.last [11] [0, 1, 2, 3, 4, 5, 6, 7, 8, 9, 10, 11] ⟨QOne.yes rfl rfl rfl (PV.assign rfl), trivial⟩ rfl rfl rfl ?_
  refine NX.sub (E' := [(2, _)]) ⟨rfl, trivial⟩ ?_
  refine NX.seq ?_
  refine TR.ret ?_
  exact NX.ret1 () rfl rfl rfl (fun w hw => (hw.drop 0 rfl).drop 0 rfl)

theorem pick_spec {xs : List Int} {oa : Option Addr} {ca : Nat} {i m : Int} {M : List HP} {F : List Fact} (ha : ArrF oa (ints xs) ∈ F) (hxs : IntsOk xs) (hm : 0 < m) : Ctr Try.prog 83 [.slice oa xs.length ca, I i, I m] M F {r : Int // 0 ≤ r ∧ r < m} (fun r => I r.1) (fun _ => M) (fun _ => F) := by
  refine Ctr.body Try.func83 rfl rfl ?_
  refine TR.seq ?_
  refine TR.region ?_
  refine RL.assign rfl rfl rfl ?_
  refine RL.nil ?_
  refine NX.seq ?_
  refine TR.seq ?_
  refine TR.seq ?_
  refine TR.region ?_
  refine RL.move rfl rfl rfl ?_
  refine RL.bin rfl rfl rfl BinV.lss rfl ?_
  refine RL.move rfl rfl rfl ?_
  refine RL.part (fun h1 => ?_) (fun h1 => ?_)
  · skip
    refine RL.skip rfl rfl rfl ?_
    refine RL.skip rfl rfl rfl ?_
    refine RL.skip rfl rfl rfl ?_
    refine RL.skip rfl rfl rfl ?_
    refine RL.pickT rfl rfl rfl rfl ?_
    refine RL.nil ?_
    refine NX.seq ?_
    refine TR.condT rfl ?_
    refine TR.seq ?_
    refine TR.region ?_
    refine RL.assign rfl rfl rfl ?_
    refine RL.nil ?_
    refine NX.seq ?_
    refine TR.ret ?_
    refine NX.retThen ?_
    exact NX.ret1 ⟨0, by omega, hm⟩ rfl rfl rfl (fun w hw => hw)
  · skip
    have hp1 := of_decide_eq_false h1
    refine RL.move rfl rfl rfl ?_
    refine RL.move rfl rfl rfl ?_
    refine RL.lenSlice rfl ga_tl22 rfl rfl ?_
    refine RL.bin rfl rfl rfl BinV.geq rfl ?_
    refine RL.pickF rfl rfl rfl rfl ?_
    refine RL.nil ?_
    refine NX.seq ?_
    refine TR.cond rfl (fun h2 => ?_) (fun h2 => ?_)
    · skip
      refine TR.seq ?_
      refine TR.region ?_
      refine RL.assign rfl rfl rfl ?_
      refine RL.nil ?_
      refine NX.seq ?_
      refine TR.ret ?_
      refine NX.retThen ?_
      exact NX.ret1 ⟨0, by omega, hm⟩ rfl rfl rfl (fun w hw => hw)
    · skip
      have hi0 := of_decide_eq_false h2
      have hi1 : i.toNat < xs.length := by omega
      have hr := hxs.2 _ (List.getElem_mem hi1)
      refine TR.openP (open_arr ha (ints_ne (by omega))) (fun x hx => ?_)
      refine TR.skip ?_
      refine NX.seq ?_
      refine TR.seq ?_
      refine TR.region ?_
      refine RL.move rfl rfl rfl ?_
      refine RL.move rfl rfl rfl ?_
      refine RL.indexAddr rfl ga_tl22 ga_tz3 (congrArg (fun a => some (Value.slice a _ _)) hx) rfl (by omega) (by omega) rfl ?_
      refine RL.loadF rfl rfl (fun w K hF => run_loadCell1 (j := i.toNat * 1) (v := I xs[i.toNat]) (hF _ (.head _)) ga_ts3 (by simp [hi1])) rfl ?_
      refine RL.move rfl rfl rfl ?_
      refine RL.call rfl rfl Try.call20 rfl (around_spec hm hr.1 hr.2) (fun v => ?_)
      refine RL.assign rfl rfl rfl ?_
      refine RL.nil ?_
      refine NX.seq ?_
      refine TR.ret ?_
      exact NX.ret1 v rfl rfl rfl (fun w hw => hw.facts (fun φ h => .tail _ h))

theorem sound_spec {es : List Ed} {oa : Option Addr} {ca : Nat} {size : Int} {M : List HP} {F : List Fact} (ha : ArrF oa (edC es) ∈ F) (hl : es.length ≤ 4611686018427387904) : Ctr Try.prog 85 [.slice oa es.length ca, I size] M F Unit (fun _ => I (soundE size es)) (fun _ => M) (fun _ => F) := by
  refine Ctr.body Try.func85 rfl rfl ?_
  refine TR.seq ?_
  refine TR.region ?_
  refine RL.assign rfl rfl rfl ?_
  refine RL.nil ?_
  refine NX.seq ?_
  refine TR.seq ?_
  refine TR.seq ?_
  refine TR.region ?_
  refine RL.move rfl rfl rfl ?_
  refine RL.lenSlice rfl ga_tl45 rfl rfl ?_
  refine RL.bin rfl rfl rfl BinV.gtr rfl ?_
  refine RL.nil ?_
  refine NX.seq ?_
  refine TR.cond rfl (fun h1 => ?_) (fun h1 => ?_)
  · skip
    have hbig : 64 < es.length := by have := of_decide_eq_true h1; omega
    refine TR.seq ?_
    refine TR.region ?_
    refine RL.assign rfl rfl rfl ?_
    refine RL.nil ?_
    refine NX.seq ?_
    refine TR.ret ?_
    refine NX.retThen ?_
    exact NX.ret1 () rfl rfl (by unfold soundE; rw [if_pos hbig]) (fun w hw => hw)
  · skip
    have hsm : ¬ 64 < es.length := by have := of_decide_eq_false h1; omega
    refine TR.skip ?_
    refine NX.seq ?_
    refine TR.seq ?_
    refine TR.region ?_
    refine RL.assign rfl rfl rfl ?_
    refine RL.nil ?_
    refine NX.seq ?_
    refine TR.seq ?_
    refine TR.seq ?_
    refine TR.region ?_
    refine RL.move rfl rfl rfl ?_
    refine RL.lenSlice rfl ga_tl45 rfl rfl ?_
    refine RL.move rfl rfl rfl ?_
    refine RL.nil ?_
    refine NX.seq ?_
    refine TR.block ?_
    refine TR.loopP (ι := Nat × Int) (fun x => x.1 ≤ es.length ∧ sound1 size x.2 (es.drop x.1) = sound1 size 0 es) (fun x => [(0, .slice oa es.length ca), (1, I size), (5, I x.2), (11, .slice oa es.length ca), (12, I es.length), (13, I x.1)]) (fun _ => M) (fun _ => F) (fun x => es.length - x.1) (0, 0) ⟨Nat.zero_le _, rfl⟩ ⟨rfl, rfl, rfl, rfl, rfl, rfl, trivial⟩ (fun w hw => hw) (fun x hx => ?_)
    refine TR.seq ?_
    refine TR.region ?_
    refine RL.bin rfl rfl rfl BinV.lss rfl ?_
    refine RL.nil ?_
    refine NX.seq ?_
    refine TR.seq ?_
    refine TR.cond rfl (fun h2 => ?_) (fun h2 => ?_)
    · skip
      have hk1 : x.1 < es.length := by have := of_decide_eq_true h2; omega
      have hdk := List.drop_eq_getElem_cons hk1
      refine TR.openP (open_arr (oa := oa) (xs := edC es) ha (fun e => by have h8 := edC_length es; rw [e] at h8; simp at h8; omega)) (fun pq hpa => ?_)
      refine TR.skip ?_
      refine NX.seq ?_
      refine TR.seq ?_
      refine TR.block ?_
      refine TR.seq ?_
      refine TR.region ?_
      refine RL.indexAddr rfl ga_tl45 ga_tz52 (congrArg (fun a => some (Value.slice a _ _)) hpa) rfl (by omega) (by omega) rfl ?_
      refine RL.loadF rfl rfl (fun w K hF => run_ed (hF _ (.head _)) ga_ta52 hk1) rfl ?_
      refine RL.allocA rfl (Try.zeroValue52) rfl (fun b3 => ?_)
      refine RL.storeA 0 rfl rfl rfl rfl ga_tz52 rfl rfl ?_
      refine RL.nil ?_
      refine NX.seq ?_
      refine TR.seq ?_
      refine TR.block ?_
      refine TR.seq ?_
      refine TR.region ?_
      refine RL.fieldAddr rfl ga_tf52_0 rfl rfl ?_
      refine RL.load1 0 rfl ga_ts3 rfl rfl rfl rfl ?_
      refine RL.bin rfl rfl rfl BinV.lss rfl ?_
      refine RL.move rfl rfl rfl ?_
      refine RL.part (fun h4 => ?_) (fun h4 => ?_)
      · skip
        have hA := of_decide_eq_true h4
        have hbad : es[x.1].f < 0 ∨ es[x.1].t < es[x.1].f ∨ size < es[x.1].t := .inl hA
        refine RL.skip rfl rfl rfl ?_
        refine RL.skip rfl rfl rfl ?_
        refine RL.skip rfl rfl rfl ?_
        refine RL.skip rfl rfl rfl ?_
        refine RL.skip rfl rfl rfl ?_
        refine RL.pickT rfl rfl rfl rfl ?_
        refine RL.move rfl rfl rfl ?_
        refine RL.skip rfl rfl rfl ?_
        refine RL.skip rfl rfl rfl ?_
        refine RL.skip rfl rfl rfl ?_
        refine RL.skip rfl rfl rfl ?_
        refine RL.pickT rfl rfl rfl rfl ?_
        refine RL.assign rfl rfl rfl ?_
        refine RL.nil ?_
        refine NX.seq ?_
        refine TR.condT rfl ?_
        refine TR.seq ?_
        refine TR.region ?_
        refine RL.assign rfl rfl rfl ?_
        refine RL.nil ?_
        refine NX.seq ?_
        refine TR.ret ?_
        refine NX.retBlock ?_
        refine NX.retThen ?_
        refine NX.retBlock ?_
        refine NX.retThen ?_
        refine NX.retThen ?_
        refine NX.retBlock ?_
        refine NX.retThen ?_
        have h9 := hx.2
        rw [hdk, sound1_bad hbad] at h9
        exact NX.ret1 () rfl rfl (by unfold soundE; rw [if_neg hsm, ← h9]) (fun w hw => hw.tail.facts (fun φ h => .tail _ (h)))
      · skip
        have hA := of_decide_eq_false h4
        refine RL.fieldAddr rfl ga_tf52_1 rfl rfl ?_
        refine RL.load1 0 rfl ga_ts3 rfl rfl rfl rfl ?_
        refine RL.fieldAddr rfl ga_tf52_0 rfl rfl ?_
        refine RL.load1 0 rfl ga_ts3 rfl rfl rfl rfl ?_
        refine RL.bin rfl rfl rfl BinV.lss rfl ?_
        refine RL.pickF rfl rfl rfl rfl ?_
        refine RL.move rfl rfl rfl ?_
        refine RL.part (fun h5 => ?_) (fun h5 => ?_)
        · skip
          have hB := of_decide_eq_true h5
          have hbad : es[x.1].f < 0 ∨ es[x.1].t < es[x.1].f ∨ size < es[x.1].t := .inr (.inl hB)
          refine RL.skip rfl rfl rfl ?_
          refine RL.skip rfl rfl rfl ?_
          refine RL.skip rfl rfl rfl ?_
          refine RL.skip rfl rfl rfl ?_
          refine RL.pickT rfl rfl rfl rfl ?_
          refine RL.assign rfl rfl rfl ?_
          refine RL.nil ?_
          refine NX.seq ?_
          refine TR.condT rfl ?_
          refine TR.seq ?_
          refine TR.region ?_
          refine RL.assign rfl rfl rfl ?_
          refine RL.nil ?_
          refine NX.seq ?_
          refine TR.ret ?_
          refine NX.retBlock ?_
          refine NX.retThen ?_
          refine NX.retBlock ?_
          refine NX.retThen ?_
          refine NX.retThen ?_
          refine NX.retBlock ?_
          refine NX.retThen ?_
          have h9 := hx.2
          rw [hdk, sound1_bad hbad] at h9
          exact NX.ret1 () rfl rfl (by unfold soundE; rw [if_neg hsm, ← h9]) (fun w hw => hw.tail.facts (fun φ h => .tail _ (h)))
        · skip
          have hB := of_decide_eq_false h5
          refine RL.fieldAddr rfl ga_tf52_1 rfl rfl ?_
          refine RL.load1 0 rfl ga_ts3 rfl rfl rfl rfl ?_
          refine RL.move rfl rfl rfl ?_
          refine RL.bin rfl rfl rfl BinV.gtr rfl ?_
          refine RL.pickF rfl rfl rfl rfl ?_
          refine RL.assign rfl rfl rfl ?_
          refine RL.nil ?_
          refine NX.seq ?_
          refine TR.cond rfl (fun h6 => ?_) (fun h6 => ?_)
          · skip
            have hC := of_decide_eq_true h6
            have hbad : es[x.1].f < 0 ∨ es[x.1].t < es[x.1].f ∨ size < es[x.1].t := .inr (.inr hC)
            refine TR.seq ?_
            refine TR.region ?_
            refine RL.assign rfl rfl rfl ?_
            refine RL.nil ?_
            refine NX.seq ?_
            refine TR.ret ?_
            refine NX.retBlock ?_
            refine NX.retThen ?_
            refine NX.retBlock ?_
            refine NX.retThen ?_
            refine NX.retThen ?_
            refine NX.retBlock ?_
            refine NX.retThen ?_
            have h9 := hx.2
            rw [hdk, sound1_bad hbad] at h9
            exact NX.ret1 () rfl rfl (by unfold soundE; rw [if_neg hsm, ← h9]) (fun w hw => hw.tail.facts (fun φ h => .tail _ (h)))
          · skip
            have hC := of_decide_eq_false h6
            have hok : ¬ (es[x.1].f < 0 ∨ es[x.1].t < es[x.1].f ∨ size < es[x.1].t) := by rintro (h | h | h) <;> contradiction
            refine TR.seq ?_
            refine TR.region ?_
            refine RL.fieldAddr rfl ga_tf52_0 rfl rfl ?_
            refine RL.load1 0 rfl ga_ts3 rfl rfl rfl rfl ?_
            refine RL.move rfl rfl rfl ?_
            refine RL.bin rfl rfl rfl BinV.lss rfl ?_
            refine RL.assign rfl rfl rfl ?_
            refine RL.nil ?_
            refine NX.seq ?_
            refine TR.cond rfl (fun h7 => ?_) (fun h7 => ?_)
            · skip
              have hlow : es[x.1].f < x.2 := of_decide_eq_true h7
              refine TR.seq ?_
              refine TR.region ?_
              refine RL.assign rfl rfl rfl ?_
              refine RL.nil ?_
              refine NX.seq ?_
              refine TR.ret ?_
              refine NX.retBlock ?_
              refine NX.retThen ?_
              refine NX.retBlock ?_
              refine NX.retThen ?_
              refine NX.retThen ?_
              refine NX.retBlock ?_
              refine NX.retThen ?_
              have h9 := hx.2
              rw [hdk, sound1_low hok hlow] at h9
              exact NX.ret1 () rfl rfl (by unfold soundE; rw [if_neg hsm, ← h9]) (fun w hw => hw.tail.facts (fun φ h => .tail _ (h)))
            · skip
              have hge : ¬ es[x.1].f < x.2 := of_decide_eq_false h7
              refine TR.skip ?_
              refine NX.off ?_
              refine NX.seq ?_
              refine TR.region ?_
              refine RL.fieldAddr rfl ga_tf52_1 rfl rfl ?_
              refine RL.load1 0 rfl ga_ts3 rfl rfl rfl rfl ?_
              refine RL.assign rfl rfl rfl ?_
              refine RL.nil ?_
              refine NX.off ?_
              refine NX.seq ?_
              refine TR.region ?_
              refine RL.bin rfl rfl rfl (BinV.add _ rfl (by omega) (by omega)) rfl ?_
              refine RL.move rfl rfl rfl ?_
              refine RL.nil ?_
              have h9 := hx.2
              rw [hdk, sound1_on hok hge] at h9
              refine NX.roundP (x.1 + 1, es[x.1].t) ⟨hk1, h9⟩ (by show _ - (x.1 + 1) < _ - x.1; omega) ⟨rfl, rfl, rfl, rfl, rfl, rfl, trivial⟩ (fun w hw => hw.tail.facts (fun φ h => .tail _ (h)))
    · skip
      have hk2 : x.1 = es.length := by have := of_decide_eq_false h2; have := hx.1; omega
      refine TR.exit ?_
      refine NX.exitThen ?_
      refine NX.exitThen ?_
      refine NX.exitHere ?_
      refine NX.seq ?_
      refine TR.seq ?_
      refine TR.region ?_
      refine RL.assign rfl rfl rfl ?_
      refine RL.nil ?_
      refine NX.seq ?_
      refine TR.ret ?_
      have h9 := hx.2
      rw [hk2, List.drop_length, sound1] at h9
      exact NX.ret1 () rfl rfl (by unfold soundE; rw [if_neg hsm, ← h9]) (fun w hw => hw)

theorem valid_spec {s : List UInt8} {es : List Ed} {oa : Option Addr} {ca : Nat} {M : List HP} {F : List Fact} (ha : ArrF oa (edC es) ∈ F) (hl : es.length ≤ 4611686018427387904) : Ctr Try.prog 57 [S s, .slice oa es.length ca] M F Unit (fun _ => I (soundE s.length es)) (fun _ => M) (fun _ => F) := by
  refine Ctr.body Try.func57 rfl rfl ?_
  refine TR.seq ?_
  refine TR.region ?_
  refine RL.assign rfl rfl rfl ?_
  refine RL.nil ?_
  refine NX.seq ?_
  refine TR.seq ?_
  refine TR.region ?_
  refine RL.move rfl rfl rfl ?_
  refine RL.move rfl rfl rfl ?_
  refine RL.lenStr rfl ga_tstr9 rfl rfl ?_
  refine RL.call rfl rfl Try.call85 rfl (sound_spec ha hl) (fun _ => ?_)
  refine RL.assign rfl rfl rfl ?_
  refine RL.nil ?_
  refine NX.seq ?_
  refine TR.ret ?_
  exact NX.ret1 () rfl rfl rfl (fun w hw => hw)

structure ApX where
  k : Nat
  q : Nat
  B : List UInt8

theorem applyI_spec {s : List UInt8} {es : List Ed} {oa : Option Addr} {ca : Nat} {M : List HP} {F : List Fact} (ha : ArrF oa (edC es) ∈ F) (hl : es.length ≤ 4611686018427387904) (hv : sound1 s.length 0 es = 0) (hb : (applyGo s 0 es).length ≤ 140737488355328) : Ctr Try.prog 58 [S s, .slice oa es.length ca] M F Unit (fun _ => S (applyGo s 0 es)) (fun _ => M) (fun _ => F) := by
  refine Ctr.body Try.func58 rfl rfl ?_
  refine TR.seq ?_
  refine TR.region ?_
  refine RL.assign rfl rfl rfl ?_
  refine RL.nil ?_
  refine NX.seq ?_
  refine TR.seq ?_
  refine TR.region ?_
  refine RL.allocA rfl (Try.zeroValue128) rfl (fun b1 => ?_)
  refine RL.weak (fun w hw => St.bldNew (e := 5) hw) ?_
  refine RL.nil ?_
  refine NX.seq ?_
  refine TR.seq ?_
  refine TR.region ?_
  refine RL.assign rfl rfl rfl ?_
  refine RL.nil ?_
  refine NX.seq ?_
  refine TR.seq ?_
  refine TR.seq ?_
  refine TR.region ?_
  refine RL.move rfl rfl rfl ?_
  refine RL.lenSlice rfl ga_tl45 rfl rfl ?_
  refine RL.move rfl rfl rfl ?_
  refine RL.nil ?_
  refine NX.seq ?_
  refine TR.block ?_
  refine TR.loopP (ι := ApX) (fun x => x.k ≤ es.length ∧ x.q ≤ s.length ∧ sound1 s.length x.q (es.drop x.k) = 0 ∧ x.B ++ applyGo s x.q (es.drop x.k) = applyGo s 0 es) (fun x => [(0, S s), (5, .pointer (some ⟨b1, 0, none⟩)), (6, I x.q), (9, .slice oa es.length ca), (10, I es.length), (11, I x.k)]) (fun x => Bld 128 5 b1 x.B :: M) (fun _ => F) (fun x => es.length - x.k) ⟨0, 0, []⟩ ⟨Nat.zero_le _, Nat.zero_le _, hv, rfl⟩ ⟨rfl, rfl, rfl, rfl, rfl, rfl, trivial⟩ (fun w hw => hw) (fun x hx => ?_)
  refine TR.seq ?_
  refine TR.region ?_
  refine RL.bin rfl rfl rfl BinV.lss rfl ?_
  refine RL.nil ?_
  refine NX.seq ?_
  refine TR.seq ?_
  refine TR.cond rfl (fun h2 => ?_) (fun h2 => ?_)
  · skip
    have hk1 : x.k < es.length := by have := of_decide_eq_true h2; omega
    have hdk := List.drop_eq_getElem_cons hk1
    obtain ⟨hq1, hs1, hg1⟩ := hx.2
    rw [hdk] at hs1 hg1
    obtain ⟨h1, h2, h3, h4, h5⟩ := sound1_cons hs1
    refine TR.openP (open_arr (oa := oa) (xs := edC es) ha (fun e => by have h8 := edC_length es; rw [e] at h8; simp at h8; omega)) (fun pq hpa => ?_)
    have hlen := congrArg List.length hg1
    simp only [applyGo, List.length_append] at hlen
    have hl2 : ((s.take es[x.k].f.toNat).drop x.q).length = es[x.k].f.toNat - x.q := by rw [List.length_drop, List.length_take]; omega
    refine TR.skip ?_
    refine NX.seq ?_
    refine TR.seq ?_
    refine TR.block ?_
    refine TR.seq ?_
    refine TR.region ?_
    refine RL.indexAddr rfl ga_tl45 ga_tz52 (congrArg (fun a => some (Value.slice a _ _)) hpa) rfl (by omega) (by omega) rfl ?_
    refine RL.loadF rfl rfl (fun w K hF => run_ed (hF _ (.head _)) ga_ta52 hk1) rfl ?_
    refine RL.allocA rfl (Try.zeroValue52) rfl (fun b3 => ?_)
    refine RL.storeA 0 rfl rfl rfl rfl ga_tz52 rfl rfl ?_
    refine RL.nil ?_
    refine NX.seq ?_
    refine TR.seq ?_
    refine TR.region ?_
    refine RL.move rfl rfl rfl ?_
    refine RL.move rfl rfl rfl ?_
    refine RL.fieldAddr rfl ga_tf52_0 rfl rfl ?_
    refine RL.load1 0 rfl ga_ts3 rfl rfl rfl rfl ?_
    refine RL.sliceS rfl ga_tstr9 rfl rfl rfl (by omega) (by omega) (by omega) rfl ?_
    refine RL.call rfl rfl Try.call86 rfl (Ctr.frame1 [_] (writeString_spec (by rw [Int.toNat_natCast]; omega))) (fun _ => ?_)
    refine RL.nil ?_
    refine NX.seq ?_
    refine TR.seq ?_
    refine TR.region ?_
    refine RL.fieldAddr rfl ga_tf52_2 rfl rfl ?_
    refine RL.load1 0 rfl ga_ts9 rfl rfl rfl rfl ?_
    refine RL.call rfl rfl Try.call86 rfl (Ctr.frame1 [_] (writeString_spec (by rw [List.length_append, Int.toNat_natCast]; omega))) (fun _ => ?_)
    refine RL.nil ?_
    refine NX.seq ?_
    refine TR.region ?_
    refine RL.fieldAddr rfl ga_tf52_1 rfl rfl ?_
    refine RL.load1 0 rfl ga_ts3 rfl rfl rfl rfl ?_
    refine RL.assign rfl rfl rfl ?_
    refine RL.nil ?_
    refine NX.off ?_
    refine NX.seq ?_
    refine TR.region ?_
    refine RL.bin rfl rfl rfl (BinV.add _ rfl (by omega) (by omega)) rfl ?_
    refine RL.move rfl rfl rfl ?_
    refine RL.nil ?_
    have e9 : ((x.B ++ (s.take es[x.k].f.toNat).drop (x.q : Int).toNat) ++ es[x.k].x) ++ applyGo s es[x.k].t.toNat (es.drop (x.k + 1)) = applyGo s 0 es := by
      rw [← hg1, applyGo, Int.toNat_natCast]; simp only [List.append_assoc]
    refine NX.roundP ⟨x.k + 1, es[x.k].t.toNat, (x.B ++ (s.take es[x.k].f.toNat).drop (x.q : Int).toNat) ++ es[x.k].x⟩ ⟨hk1, (show es[x.k].t.toNat ≤ s.length by omega), ?_, e9⟩ (by show _ - (x.k + 1) < _ - x.k; omega) ⟨rfl, rfl, congrArg (fun z => some (I z)) (show es[x.k].t = ((es[x.k].t.toNat : Nat) : Int) by omega), rfl, rfl, rfl, trivial⟩ (fun w hw => hw.tail.facts (fun φ h => .tail _ (h)))
    show sound1 _ ((es[x.k].t.toNat : Nat) : Int) _ = 0
    rw [Int.toNat_of_nonneg (by omega)]; exact h5
  · skip
    have hk2 : x.k = es.length := by have := of_decide_eq_false h2; have := hx.1; omega
    obtain ⟨hq1, hs1, hg1⟩ := hx.2
    rw [hk2, List.drop_length, applyGo] at hg1
    have hlen := congrArg List.length hg1
    rw [List.length_append, List.length_drop] at hlen
    refine TR.exit ?_
    refine NX.exitThen ?_
    refine NX.exitThen ?_
    refine NX.exitHere ?_
    refine NX.seq ?_
    refine TR.seq ?_
    refine TR.region ?_
    refine RL.move rfl rfl rfl ?_
    refine RL.move rfl rfl rfl ?_
    refine RL.sliceSfrom rfl ga_tstr9 rfl rfl  (by omega) (by omega) rfl ?_
    refine RL.call rfl rfl Try.call86 rfl (writeString_spec (by rw [List.length_drop]; omega)) (fun _ => ?_)
    refine RL.nil ?_
    refine NX.seq ?_
    refine TR.seq ?_
    refine TR.region ?_
    have h9 : x.B ++ s.drop (x.q : Int).toNat = applyGo s 0 es := by rw [Int.toNat_natCast]; exact hg1
    refine RL.call rfl rfl Try.call87 rfl (bString_spec (by rw [h9]; exact hb)) (fun _ => ?_)
    refine RL.assign rfl rfl rfl ?_
    refine RL.nil ?_
    refine NX.seq ?_
    refine TR.ret ?_
    exact NX.ret1 () rfl rfl (by rw [h9]) (fun w hw => hw)

theorem apply_spec {s : List UInt8} {es : List Ed} {oa : Option Addr} {ca : Nat} {M : List HP} {F : List Fact} (ha : ArrF oa (edC es) ∈ F) (hl : es.length ≤ 4611686018427387904) (hb : soundE s.length es = 0 → (applyGo s 0 es).length ≤ 140737488355328) : Ctr Try.prog 26 [S s, .slice oa es.length ca] M F Unit (fun _ => .tuple #[S (applyE s es).1, I (applyE s es).2]) (fun _ => M) (fun _ => F) := by
  refine Ctr.body Try.func26 rfl rfl ?_
  refine TR.seq ?_
  refine TR.region ?_
  refine RL.assign rfl rfl rfl ?_
  refine RL.assign rfl rfl rfl ?_
  refine RL.nil ?_
  refine NX.seq ?_
  refine TR.seq ?_
  refine TR.seq ?_
  refine TR.region ?_
  refine RL.move rfl rfl rfl ?_
  refine RL.move rfl rfl rfl ?_
  refine RL.call rfl rfl Try.call57 rfl (valid_spec ha hl) (fun _ => ?_)
  refine RL.assign rfl rfl rfl ?_
  refine RL.nil ?_
  refine NX.seq ?_
  refine TR.seq ?_
  refine TR.region ?_
  refine RL.move rfl rfl rfl ?_
  refine RL.bin rfl rfl rfl BinV.neq rfl ?_
  refine RL.nil ?_
  refine NX.seq ?_
  refine TR.cond rfl (fun h1 => ?_) (fun h1 => ?_)
  · skip
    have hz : ¬ soundE s.length es = 0 := of_decide_eq_true h1
    refine TR.seq ?_
    refine TR.region ?_
    refine RL.move rfl rfl rfl ?_
    refine RL.assign rfl rfl rfl ?_
    refine RL.assign rfl rfl rfl ?_
    refine RL.nil ?_
    refine NX.seq ?_
    refine TR.ret ?_
    refine NX.retThen ?_
    exact NX.ret2 () rfl rfl rfl (by unfold applyE; rw [if_neg hz]) (fun w hw => hw)
  · skip
    have hz : soundE s.length es = 0 := by have := of_decide_eq_false h1; omega
    refine TR.skip ?_
    refine NX.seq ?_
    refine TR.seq ?_
    refine TR.region ?_
    refine RL.move rfl rfl rfl ?_
    refine RL.move rfl rfl rfl ?_
    refine RL.call rfl rfl Try.call58 rfl (applyI_spec ha hl (soundE_sound1 hz) (hb hz)) (fun _ => ?_)
    refine RL.assign rfl rfl rfl ?_
    refine RL.assign rfl rfl rfl ?_
    refine RL.nil ?_
    refine NX.seq ?_
    refine TR.ret ?_
    exact NX.ret2 () rfl rfl rfl (by unfold applyE; rw [if_pos hz]) (fun w hw => hw)

structure DfX where
  es : List Ed
  oa : Option Addr
  oc : Nat

end Go.Proofs.Ytdlpaojkkekdlaa

namespace Go.Proofs.Ytdlpaojkkekdlaa
open Go.GL
set_option linter.unusedVariables false
theorem gb_bs43_13_0_1_2_3_4_5_6_7_8_9_10_11_12 (x0 : List UInt8) (x1 : List UInt8) (x2 : List UInt8) (x3 : List UInt8) (x4 : List UInt8) (x5 : List UInt8) (x6 : List UInt8) (x7 : List UInt8) (x8 : List UInt8) (x9 : List UInt8) (x10 : List UInt8) (x11 : List UInt8) (x12 : List UInt8) : BuildSV Try.prog 43 9 13 [(0, S x0), (1, S x1), (2, S x2), (3, S x3), (4, S x4), (5, S x5), (6, S x6), (7, S x7), (8, S x8), (9, S x9), (10, S x10), (11, S x11), (12, S x12)] [S x0, S x1, S x2, S x3, S x4, S x5, S x6, S x7, S x8, S x9, S x10, S x11, S x12] := fun w => by kernel_rfl
theorem gb_bs43_24_0_1_2_3_4_5_6_7_8_9_10_11_12_13_14_15_16_17_18_19_20_21_22_23 (x0 : List UInt8) (x1 : List UInt8) (x2 : List UInt8) (x3 : List UInt8) (x4 : List UInt8) (x5 : List UInt8) (x6 : List UInt8) (x7 : List UInt8) (x8 : List UInt8) (x9 : List UInt8) (x10 : List UInt8) (x11 : List UInt8) (x12 : List UInt8) (x13 : List UInt8) (x14 : List UInt8) (x15 : List UInt8) (x16 : List UInt8) (x17 : List UInt8) (x18 : List UInt8) (x19 : List UInt8) (x20 : List UInt8) (x21 : List UInt8) (x22 : List UInt8) (x23 : List UInt8) : BuildSV Try.prog 43 9 24 [(0, S x0), (1, S x1), (2, S x2), (3, S x3), (4, S x4), (5, S x5), (6, S x6), (7, S x7), (8, S x8), (9, S x9), (10, S x10), (11, S x11), (12, S x12), (13, S x13), (14, S x14), (15, S x15), (16, S x16), (17, S x17), (18, S x18), (19, S x19), (20, S x20), (21, S x21), (22, S x22), (23, S x23)] [S x0, S x1, S x2, S x3, S x4, S x5, S x6, S x7, S x8, S x9, S x10, S x11, S x12, S x13, S x14, S x15, S x16, S x17, S x18, S x19, S x20, S x21, S x22, S x23] := fun w => by kernel_rfl
theorem gb_bs43_25_0_1_2_3_4_5_6_7_8_9_10_11_12_13_14_15_16_17_18_19_20_21_22_23_24 (x0 : List UInt8) (x1 : List UInt8) (x2 : List UInt8) (x3 : List UInt8) (x4 : List UInt8) (x5 : List UInt8) (x6 : List UInt8) (x7 : List UInt8) (x8 : List UInt8) (x9 : List UInt8) (x10 : List UInt8) (x11 : List UInt8) (x12 : List UInt8) (x13 : List UInt8) (x14 : List UInt8) (x15 : List UInt8) (x16 : List UInt8) (x17 : List UInt8) (x18 : List UInt8) (x19 : List UInt8) (x20 : List UInt8) (x21 : List UInt8) (x22 : List UInt8) (x23 : List UInt8) (x24 : List UInt8) : BuildSV Try.prog 43 9 25 [(0, S x0), (1, S x1), (2, S x2), (3, S x3), (4, S x4), (5, S x5), (6, S x6), (7, S x7), (8, S x8), (9, S x9), (10, S x10), (11, S x11), (12, S x12), (13, S x13), (14, S x14), (15, S x15), (16, S x16), (17, S x17), (18, S x18), (19, S x19), (20, S x20), (21, S x21), (22, S x22), (23, S x23), (24, S x24)] [S x0, S x1, S x2, S x3, S x4, S x5, S x6, S x7, S x8, S x9, S x10, S x11, S x12, S x13, S x14, S x15, S x16, S x17, S x18, S x19, S x20, S x21, S x22, S x23, S x24] := fun w => by kernel_rfl
theorem gb_bs43_26_0_1_2_3_4_5_6_7_8_9_10_11_12_13_14_15_16_17_18_19_20_21_22_23_24_25 (x0 : List UInt8) (x1 : List UInt8) (x2 : List UInt8) (x3 : List UInt8) (x4 : List UInt8) (x5 : List UInt8) (x6 : List UInt8) (x7 : List UInt8) (x8 : List UInt8) (x9 : List UInt8) (x10 : List UInt8) (x11 : List UInt8) (x12 : List UInt8) (x13 : List UInt8) (x14 : List UInt8) (x15 : List UInt8) (x16 : List UInt8) (x17 : List UInt8) (x18 : List UInt8) (x19 : List UInt8) (x20 : List UInt8) (x21 : List UInt8) (x22 : List UInt8) (x23 : List UInt8) (x24 : List UInt8) (x25 : List UInt8) : BuildSV Try.prog 43 9 26 [(0, S x0), (1, S x1), (2, S x2), (3, S x3), (4, S x4), (5, S x5), (6, S x6), (7, S x7), (8, S x8), (9, S x9), (10, S x10), (11, S x11), (12, S x12), (13, S x13), (14, S x14), (15, S x15), (16, S x16), (17, S x17), (18, S x18), (19, S x19), (20, S x20), (21, S x21), (22, S x22), (23, S x23), (24, S x24), (25, S x25)] [S x0, S x1, S x2, S x3, S x4, S x5, S x6, S x7, S x8, S x9, S x10, S x11, S x12, S x13, S x14, S x15, S x16, S x17, S x18, S x19, S x20, S x21, S x22, S x23, S x24, S x25] := fun w => by kernel_rfl
theorem gb_bs45_1_0 (x00 : Int) (x01 : Int) (x02 : List UInt8) : BuildSV Try.prog 45 52 1 [(0, .agg #[.int .i64 x00, .int .i64 x01, S x02])] [.int .i64 x00, .int .i64 x01, S x02] := fun w => by kernel_rfl
theorem gb_bv52_0_1_2 (x0 : Int) (x1 : Int) (x2 : List UInt8) : BuildV Try.prog 52 [(0, .int .i64 x0), (1, .int .i64 x1), (2, S x2)] (.agg #[.int .i64 x0, .int .i64 x1, S x2]) := fun w => by kernel_rfl
theorem gb_ni45 : noInt Try.prog 45 = true := by kernel_rfl
theorem gb_te52 : tyElem Try.prog 52 3 32 = true := by kernel_rfl
theorem gb_tl22 : tySlice Try.prog 22 3 = true := by kernel_rfl
theorem gb_tl43 : tySlice Try.prog 43 9 = true := by kernel_rfl
theorem gb_tl45 : tySlice Try.prog 45 52 = true := by kernel_rfl
theorem gb_ts3 : tyScalar Try.prog 3 = true := by kernel_rfl
theorem gb_ts9 : tyScalar Try.prog 9 = true := by kernel_rfl
theorem gb_tstr9 : tyStr Try.prog 9 = true := by kernel_rfl
theorem gb_tz3 : tySize Try.prog 3 1 = true := by kernel_rfl
theorem gb_tz9 : tySize Try.prog 9 1 = true := by kernel_rfl
theorem boundary_spec {tx : List UInt8} {a : Nat} {M : List HP} {F : List Fact} (hal : a ≤ 4611686018427387904) : Ctr Try.prog 84 [S tx, I (a : Nat)] M F {b : Nat // b ≤ a ∧ IsB tx b ∧ ∀ q, IsB tx q → q ≤ a → q ≤ b} (fun b => I (b.1 : Nat)) (fun _ => M) (fun _ => F) := by
  refine Ctr.body Try.func84 rfl rfl ?_
  refine TR.seq ?_
  refine TR.region ?_
  refine RL.assign rfl rfl rfl ?_
  refine RL.nil ?_
  refine NX.seq ?_
  refine TR.seq ?_
  refine TR.block ?_
  refine TR.loopP (ι := Nat) (fun b => b ≤ a ∧ ∀ q, IsB tx q → q ≤ a → q ≤ b) (fun b => [(0, S tx), (1, I (b : Nat))]) (fun b => M) (fun b => F) (fun b => b) a ⟨Nat.le_refl _, fun q _ h => h⟩ ⟨rfl, rfl, trivial⟩ (fun w hw => (hw.to 0 [] 0 [] rfl)) (fun b hb => ?_)
  refine TR.seq ?_
  refine TR.seq ?_
  refine TR.region ?_
  refine RL.move rfl rfl rfl ?_
  refine RL.bin rfl rfl rfl BinV.gtr rfl ?_
  refine RL.move rfl rfl rfl ?_
  refine RL.part (fun h1 => ?_) (fun h1 => ?_)
  · skip
    have hb0 : 0 < b := by have := of_decide_eq_true h1; omega
    refine RL.move rfl rfl rfl ?_
    refine RL.move rfl rfl rfl ?_
    refine RL.lenStr rfl gb_tstr9 rfl rfl ?_
    refine RL.bin rfl rfl rfl BinV.lss rfl ?_
    refine RL.pickT rfl rfl rfl rfl ?_
    refine RL.move rfl rfl rfl ?_
    refine RL.part (fun h2 => ?_) (fun h2 => ?_)
    · skip
      have hbl : b < tx.length := by have := of_decide_eq_true h2; omega
      refine RL.move rfl rfl rfl ?_
      refine RL.move rfl rfl rfl ?_
      refine RL.indexS rfl gb_tstr9 rfl rfl (by omega) (List.getElem?_eq_getElem (show ((b : Nat) : Int).toNat < tx.length by omega)) rfl ?_
      refine RL.bin rfl rfl rfl BinV.geq rfl ?_
      refine RL.pickT rfl rfl rfl rfl ?_
      refine RL.move rfl rfl rfl ?_
      refine RL.part (fun h3 => ?_) (fun h3 => ?_)
      · skip
        have hlo := of_decide_eq_true h3
        refine RL.move rfl rfl rfl ?_
        refine RL.move rfl rfl rfl ?_
        refine RL.indexS rfl gb_tstr9 rfl rfl (by omega) (List.getElem?_eq_getElem (show ((b : Nat) : Int).toNat < tx.length by omega)) rfl ?_
        refine RL.bin rfl rfl rfl BinV.lss rfl ?_
        refine RL.pickT rfl rfl rfl rfl ?_
        refine RL.nil ?_
        refine NX.seq ?_
        refine TR.cond rfl (fun h4 => ?_) (fun h4 => ?_)
        · skip
          have hhi := of_decide_eq_true h4
          have hn : ¬ IsB tx b := fun h => by
            rcases h with h | h | h
            · omega
            · omega
            · simp only [Int.toNat_natCast] at hlo hhi
              exact h ⟨tx[b], List.getElem?_eq_getElem hbl, by omega, by omega⟩
          refine TR.skip ?_
          refine NX.seq ?_
          refine TR.block ?_
          refine TR.region ?_
          refine RL.move rfl rfl rfl ?_
          refine RL.bin rfl rfl rfl (BinV.sub _ rfl (by omega) (by omega)) rfl ?_
          refine RL.assign rfl rfl rfl ?_
          refine RL.nil ?_
          refine NX.off ?_
          refine NX.roundP (b - 1) ⟨by omega, fun q h1 h2 => by
            have h3 := hb.2 q h1 h2
            rcases Nat.lt_or_ge q b with h | h
            · omega
            · exact absurd (by rw [show b = q from by omega]; exact h1) hn⟩ (by omega) ⟨rfl, congrArg (fun z => some (I z)) (by omega), trivial⟩ (fun w hw => (hw.to 0 [] 0 [] rfl))
        · skip
          have hB : IsB tx b := .inr (.inr (fun ⟨c, hc, hc1, hc2⟩ => by
            rw [List.getElem?_eq_getElem hbl] at hc
            have hc := Option.some.inj hc
            subst hc
            have := of_decide_eq_false h4
            simp only [Int.toNat_natCast] at this
            omega))
          refine TR.exit ?_
          refine NX.exitThen ?_
          refine NX.exitThen ?_
          refine NX.exitHere ?_
          refine NX.seq ?_
          refine TR.seq ?_
          refine TR.region ?_
          refine RL.move rfl rfl rfl ?_
          refine RL.assign rfl rfl rfl ?_
          refine RL.nil ?_
          refine NX.seq ?_
          refine TR.ret ?_
          exact NX.ret1 (⟨b, hb.1, hB, hb.2⟩ : {b : Nat // b ≤ a ∧ IsB tx b ∧ ∀ q, IsB tx q → q ≤ a → q ≤ b}) rfl rfl rfl (fun w hw => hw)
      · skip
        have hB : IsB tx b := .inr (.inr (fun ⟨c, hc, hc1, hc2⟩ => by
          rw [List.getElem?_eq_getElem hbl] at hc
          have hc := Option.some.inj hc
          subst hc
          have := of_decide_eq_false h3
          simp only [Int.toNat_natCast] at this
          omega))
        refine RL.skip rfl rfl rfl ?_
        refine RL.skip rfl rfl rfl ?_
        refine RL.skip rfl rfl rfl ?_
        refine RL.skip rfl rfl rfl ?_
        refine RL.pickF rfl rfl rfl rfl ?_
        refine RL.nil ?_
        refine NX.seq ?_
        refine TR.condF rfl ?_
        refine TR.exit ?_
        refine NX.exitThen ?_
        refine NX.exitThen ?_
        refine NX.exitHere ?_
        refine NX.seq ?_
        refine TR.seq ?_
        refine TR.region ?_
        refine RL.move rfl rfl rfl ?_
        refine RL.assign rfl rfl rfl ?_
        refine RL.nil ?_
        refine NX.seq ?_
        refine TR.ret ?_
        exact NX.ret1 (⟨b, hb.1, hB, hb.2⟩ : {b : Nat // b ≤ a ∧ IsB tx b ∧ ∀ q, IsB tx q → q ≤ a → q ≤ b}) rfl rfl rfl (fun w hw => hw)
    · skip
      have hB : IsB tx b := .inr (.inl (by have := of_decide_eq_false h2; omega))
      refine RL.skip rfl rfl rfl ?_
      refine RL.skip rfl rfl rfl ?_
      refine RL.skip rfl rfl rfl ?_
      refine RL.skip rfl rfl rfl ?_
      refine RL.pickF rfl rfl rfl rfl ?_
      refine RL.move rfl rfl rfl ?_
      refine RL.skip rfl rfl rfl ?_
      refine RL.skip rfl rfl rfl ?_
      refine RL.skip rfl rfl rfl ?_
      refine RL.skip rfl rfl rfl ?_
      refine RL.pickF rfl rfl rfl rfl ?_
      refine RL.nil ?_
      refine NX.seq ?_
      refine TR.condF rfl ?_
      refine TR.exit ?_
      refine NX.exitThen ?_
      refine NX.exitThen ?_
      refine NX.exitHere ?_
      refine NX.seq ?_
      refine TR.seq ?_
      refine TR.region ?_
      refine RL.move rfl rfl rfl ?_
      refine RL.assign rfl rfl rfl ?_
      refine RL.nil ?_
      refine NX.seq ?_
      refine TR.ret ?_
      exact NX.ret1 (⟨b, hb.1, hB, hb.2⟩ : {b : Nat // b ≤ a ∧ IsB tx b ∧ ∀ q, IsB tx q → q ≤ a → q ≤ b}) rfl rfl rfl (fun w hw => hw)
  · skip
    have hB : IsB tx b := .inl (by have := of_decide_eq_false h1; omega)
    refine RL.skip rfl rfl rfl ?_
    refine RL.skip rfl rfl rfl ?_
    refine RL.skip rfl rfl rfl ?_
    refine RL.skip rfl rfl rfl ?_
    refine RL.pickF rfl rfl rfl rfl ?_
    refine RL.move rfl rfl rfl ?_
    refine RL.skip rfl rfl rfl ?_
    refine RL.skip rfl rfl rfl ?_
    refine RL.skip rfl rfl rfl ?_
    refine RL.skip rfl rfl rfl ?_
    refine RL.pickF rfl rfl rfl rfl ?_
    refine RL.move rfl rfl rfl ?_
    refine RL.skip rfl rfl rfl ?_
    refine RL.skip rfl rfl rfl ?_
    refine RL.skip rfl rfl rfl ?_
    refine RL.skip rfl rfl rfl ?_
    refine RL.pickF rfl rfl rfl rfl ?_
    refine RL.nil ?_
    refine NX.seq ?_
    refine TR.condF rfl ?_
    refine TR.exit ?_
    refine NX.exitThen ?_
    refine NX.exitThen ?_
    refine NX.exitHere ?_
    refine NX.seq ?_
    refine TR.seq ?_
    refine TR.region ?_
    refine RL.move rfl rfl rfl ?_
    refine RL.assign rfl rfl rfl ?_
    refine RL.nil ?_
    refine NX.seq ?_
    refine TR.ret ?_
    exact NX.ret1 (⟨b, hb.1, hB, hb.2⟩ : {b : Nat // b ≤ a ∧ IsB tx b ∧ ∀ q, IsB tx q → q ≤ a → q ≤ b}) rfl rfl rfl (fun w hw => hw)

def wordsE : List (List UInt8) := [[], [120], [97, 98], [32], [10], [108, 101, 116], [48], [43], [195, 169], [240, 157, 132, 158, 121], [40], [34], [97, 95, 49]]
theorem wordsE_len : wordsE.length = 13 := by kernel_rfl
theorem wordsE_short {k : Nat} (h : k < wordsE.length) : wordsE[k].length ≤ 5 := short_all (by kernel_rfl) h

theorem some_w {tx : List UInt8} {xs : List Int} {oa : Option Addr} {ca : Nat} {M : List HP} {F : List Fact} (ha : ArrF oa (ints xs) ∈ F) (hxs : IntsOk xs) (hl : tx.length ≤ 1000000) : Ctr Try.prog 56 [S tx, .slice oa xs.length ca, .bool true] M F {z : EdX // EdsOk tx z.es} (fun z => .slice z.1.oa z.1.es.length z.1.c) (fun _ => M) (fun z => ArrF z.1.oa (edC z.1.es) :: F) := by
  refine Ctr.body Try.func56 rfl rfl ?_
  refine TR.seq ?_
  refine TR.region ?_
  refine RL.assign rfl rfl rfl ?_
  refine RL.nil ?_
  refine NX.seq ?_
  refine TR.seq ?_
  refine TR.region ?_
  refine RL.buildSlice rfl rfl (gb_bs43_13_0_1_2_3_4_5_6_7_8_9_10_11_12 _ _ _ _ _ _ _ _ _ _ _ _ _) rfl (fun wb => ?_)
  refine RL.weak (fun w hw => (show St w (Box _ _ (strsV wordsE) :: _) _ from hw).boxKeep) ?_
  refine RL.assign rfl rfl rfl ?_
  refine RL.nil ?_
  refine NX.seq ?_
  refine TR.seq ?_
  refine TR.region ?_
  refine RL.assign rfl rfl rfl ?_
  refine RL.weak (fun w hw => OwnSl.nil_new 52 3 hw) ?_
  refine RL.nil ?_
  refine NX.seq ?_
  refine TR.seq ?_
  refine TR.region ?_
  refine RL.assign rfl rfl rfl ?_
  refine RL.nil ?_
  refine NX.seq ?_
  refine TR.seq ?_
  refine TR.seq ?_
  refine TR.region ?_
  refine RL.assign rfl rfl rfl ?_
  refine RL.nil ?_
  refine NX.seq ?_
  refine TR.block ?_
  refine TR.loopP (ι := SmX) (fun x => x.es.length = x.i ∧ x.i ≤ 5 ∧ x.q ≤ tx.length ∧ SoundTo tx.length x.es x.q ∧ (∀ e, e ∈ x.es → Grow 5 e) ∧ (true = true → IsB tx x.q)) (fun x => [(0, S tx), (1, .slice oa xs.length ca), (2, .bool true), (7, .slice (some ⟨wb, 0, none⟩) 13 13), (8, .slice x.oa x.es.length x.c), (9, I (x.q : Nat)), (10, I (x.i : Nat))]) (fun x => OwnSl 52 3 x.oa x.es.length x.c (edC x.es) :: M) (fun x => CellsF wb 0 (strsV wordsE) :: F) (fun x => 5 - x.i) ⟨0, 0, [], none, 0⟩ ⟨rfl, Nat.zero_le _, Nat.zero_le _, SoundTo.nil _, fun e he => absurd he (by simp), fun _ => .inl rfl⟩ ⟨rfl, rfl, rfl, rfl, rfl, rfl, rfl, trivial⟩ (fun w hw => (hw.to 1 [0] 1 [0] rfl)) (fun x hx => ?_)
  refine TR.seq ?_
  refine TR.seq ?_
  refine TR.region ?_
  refine RL.move rfl rfl rfl ?_
  refine RL.move rfl rfl rfl ?_
  refine RL.call rfl rfl Try.call83 rfl (pick_spec (.tail _ ha) hxs (by decide)) (fun r => ?_)
  refine RL.bin rfl rfl rfl BinV.lss rfl ?_
  refine RL.nil ?_
  refine NX.seq ?_
  refine TR.cond rfl (fun h1 => ?_) (fun h1 => ?_)
  · skip
    have hi1 := of_decide_eq_true h1
    have hr := r.2
    have hi4 : x.i < 5 := by omega
    have hxe := hx.1
    have hql := hx.2.2.1
    refine TR.skip ?_
    refine NX.seq ?_
    refine TR.seq ?_
    refine TR.block ?_
    refine TR.seq ?_
    refine TR.region ?_
    refine RL.move rfl rfl rfl ?_
    refine RL.move rfl rfl rfl ?_
    refine RL.bin rfl rfl rfl (BinV.mul _ rfl (by omega) (by omega)) rfl ?_
    refine RL.bin rfl rfl rfl (BinV.add _ rfl (by omega) (by omega)) rfl ?_
    refine RL.call rfl rfl Try.call83 rfl (pick_spec (.tail _ ha) hxs (by decide)) (fun rn => ?_)
    obtain ⟨rnv, rnh⟩ := rn
    obtain ⟨n, rfl⟩ : ∃ n : Nat, rnv = n := ⟨rnv.toNat, by omega⟩
    dsimp only
    refine RL.assign rfl rfl rfl ?_
    refine RL.nil ?_
    refine NX.seq ?_
    refine TR.seq ?_
    refine TR.region ?_
    refine RL.move rfl rfl rfl ?_
    refine RL.move rfl rfl rfl ?_
    refine RL.move rfl rfl rfl ?_
    refine RL.lenStr rfl gb_tstr9 rfl rfl ?_
    refine RL.move rfl rfl rfl ?_
    refine RL.bin rfl rfl rfl (BinV.sub (((tx.length - x.q) : Nat) : Int) (by omega) (by omega) (by omega)) rfl ?_
    refine RL.bin rfl rfl rfl (BinV.add (((tx.length - x.q) + 1 : Nat) : Int) (by omega) (by omega) (by omega)) rfl ?_
    refine RL.bin rfl rfl rfl (BinV.remK (a := n) (b := (tx.length - x.q) + 1) (by omega)) rfl ?_
    refine RL.bin rfl rfl rfl (BinV.add ((x.q + n % ((tx.length - x.q) + 1) : Nat) : Int) (by omega) (by have := Nat.mod_lt n (show 0 < (tx.length - x.q) + 1 by omega); omega) (by have := Nat.mod_lt n (show 0 < (tx.length - x.q) + 1 by omega); omega)) rfl ?_
    have hm := Nat.mod_lt n (show 0 < (tx.length - x.q) + 1 by omega)
    generalize hf0 : n % ((tx.length - x.q) + 1) = f0 at hm ⊢
    refine RL.assign rfl rfl rfl ?_
    refine RL.nil ?_
    refine NX.seq ?_
    refine TR.seq ?_
    refine TR.seq ?_
    obtain ⟨f, hf, hfq, hfl⟩ : ∃ f : Nat, f = x.q + f0 ∧ x.q ≤ f ∧ f ≤ tx.length := ⟨_, rfl, by omega, by omega⟩
    rw [← hf]
    refine TR.region ?_
    refine RL.move rfl rfl rfl ?_
    refine RL.bin rfl rfl rfl (BinV.quo (by decide) ((n / 8 : Nat) : Int) (by rw [Int.tdiv_eq_ediv_of_nonneg (by omega)]; omega) (by omega) (by omega)) rfl ?_
    refine RL.bin rfl rfl rfl (BinV.remK (a := n / 8) (b := 2) (by decide)) rfl ?_
    refine RL.bin rfl rfl rfl BinV.eql rfl ?_
    refine RL.nil ?_
    refine NX.seq ?_
    refine TR.cond rfl (fun h2 => ?_) (fun h2 => ?_)
    · skip
      skip
      refine TR.region ?_
      refine RL.move rfl rfl rfl ?_
      refine RL.move rfl rfl rfl ?_
      refine RL.move rfl rfl rfl ?_
      refine RL.lenStr rfl gb_tstr9 rfl rfl ?_
      refine RL.move rfl rfl rfl ?_
      refine RL.bin rfl rfl rfl (BinV.sub (((tx.length - x.q) : Nat) : Int) (by omega) (by omega) (by omega)) rfl ?_
      refine RL.min rfl rfl rfl rfl ?_
      refine RL.bin rfl rfl rfl (BinV.add ((min (tx.length - x.q) 6 + 1 : Nat) : Int) (by omega) (by omega) (by omega)) rfl ?_
      refine RL.bin rfl rfl rfl (BinV.remK (a := n) (b := min (tx.length - x.q) 6 + 1) (by omega)) rfl ?_
      have hm1 := Nat.mod_lt n (show 0 < min (tx.length - x.q) 6 + 1 by omega)
      generalize hf1 : n % (min (tx.length - x.q) 6 + 1) = f1 at hm1 ⊢
      refine RL.bin rfl rfl rfl (BinV.add ((x.q + f1 : Nat) : Int) (by omega) (by omega) (by omega)) rfl ?_
      refine RL.assign rfl rfl rfl ?_
      refine RL.nil ?_
      refine NX.seq ?_
      refine TR.seq ?_
      obtain ⟨f, hf, hfq, hfl⟩ : ∃ f : Nat, f = x.q + f1 ∧ x.q ≤ f ∧ f ≤ tx.length := ⟨_, rfl, by omega, by omega⟩
      rw [← hf]
      refine TR.region ?_
      refine RL.move rfl rfl rfl ?_
      refine RL.move rfl rfl rfl ?_
      refine RL.move rfl rfl rfl ?_
      refine RL.bin rfl rfl rfl (BinV.mul _ rfl (by omega) (by omega)) rfl ?_
      refine RL.bin rfl rfl rfl (BinV.add _ rfl (by omega) (by omega)) rfl ?_
      refine RL.move rfl rfl rfl ?_
      refine RL.lenStr rfl gb_tstr9 rfl rfl ?_
      refine RL.move rfl rfl rfl ?_
      refine RL.bin rfl rfl rfl (BinV.sub ((tx.length - f : Nat) : Int) (by omega) (by omega) (by omega)) rfl ?_
      refine RL.min rfl rfl rfl rfl ?_
      refine RL.bin rfl rfl rfl (BinV.add ((min (tx.length - f) 7 + 1 : Nat) : Int) (by omega) (by omega) (by omega)) rfl ?_
      refine RL.call rfl rfl Try.call83 rfl (pick_spec (m := ((min (tx.length - f) 7 + 1 : Nat) : Int)) (.tail _ ha) hxs (by omega)) (fun rt => ?_)
      obtain ⟨rtv, rth⟩ := rt
      obtain ⟨t, rfl⟩ : ∃ t : Nat, rtv = t := ⟨rtv.toNat, by omega⟩
      dsimp only
      have hft0 : f + t ≤ tx.length := by omega
      refine RL.bin rfl rfl rfl (BinV.add ((f + t : Nat) : Int) (by omega) (by omega) (by omega)) rfl ?_
      refine RL.assign rfl rfl rfl ?_
      refine RL.nil ?_
      refine NX.seq ?_
      refine TR.seq ?_
      refine TR.seq ?_
      refine TR.region ?_
      refine RL.move rfl rfl rfl ?_
      refine RL.nil ?_
      refine NX.seq ?_
      refine TR.condT rfl ?_
      refine TR.seq ?_
      refine TR.region ?_
      refine RL.move rfl rfl rfl ?_
      refine RL.move rfl rfl rfl ?_
      refine RL.call rfl rfl Try.call84 rfl (boundary_spec (a := f) (by omega)) (fun b1 => ?_)
      refine RL.assign rfl rfl rfl ?_
      refine RL.nil ?_
      refine NX.seq ?_
      refine TR.region ?_
      refine RL.move rfl rfl rfl ?_
      refine RL.move rfl rfl rfl ?_
      refine RL.call rfl rfl Try.call84 rfl (boundary_spec (a := f + t) (by omega)) (fun b2 => ?_)
      refine RL.assign rfl rfl rfl ?_
      refine RL.nil ?_
      refine NX.seq ?_
      refine TR.seq ?_
      have hqf : x.q ≤ b1.1 := b1.2.2.2 _ (hx.2.2.2.2.2 rfl) hfq
      have hft : b1.1 ≤ b2.1 := b2.2.2.2 _ b1.2.2.1 (by have := b1.2.1; omega)
      have htl : b2.1 ≤ tx.length := by have := b2.2.1; omega
      refine TR.region ?_
      refine RL.move rfl rfl rfl ?_
      refine RL.move rfl rfl rfl ?_
      refine RL.move rfl rfl rfl ?_
      refine RL.bin rfl rfl rfl (BinV.mul _ rfl (by omega) (by omega)) rfl ?_
      refine RL.bin rfl rfl rfl (BinV.add _ rfl (by omega) (by omega)) rfl ?_
      refine RL.move rfl rfl rfl ?_
      refine RL.lenSlice rfl gb_tl43 rfl rfl ?_
      refine RL.call rfl rfl Try.call83 rfl (pick_spec (.tail _ ha) hxs (by decide)) (fun rk => ?_)
      obtain ⟨rkv, rkh⟩ := rk
      obtain ⟨k, rfl⟩ : ∃ k : Nat, rkv = k := ⟨rkv.toNat, by omega⟩
      dsimp only
      have hk : k < wordsE.length := by rw [wordsE_len]; omega
      refine RL.indexAddr rfl gb_tl43 gb_tz9 rfl rfl (by omega) (by omega) rfl ?_
      refine RL.loadF rfl rfl (fun w K hF => run_loadCell1 (j := ((k : Nat) : Int).toNat * 1) (v := S wordsE[k]) (hF (CellsF wb 0 (strsV wordsE)) (.head _)) gb_ts9 (strs_get hk)) rfl ?_
      refine RL.assign rfl rfl rfl ?_
      refine RL.nil ?_
      refine NX.seq ?_
      refine TR.seq ?_
      refine TR.seq ?_
      refine TR.region ?_
      refine RL.move rfl rfl rfl ?_
      refine RL.bin rfl rfl rfl (BinV.quo (by decide) ((n / 16 : Nat) : Int) (by rw [Int.tdiv_eq_ediv_of_nonneg (by omega)]; omega) (by omega) (by omega)) rfl ?_
      refine RL.bin rfl rfl rfl (BinV.remK (a := n / 16) (b := 5) (by decide)) rfl ?_
      refine RL.bin rfl rfl rfl BinV.eql rfl ?_
      refine RL.nil ?_
      refine NX.seq ?_
      refine TR.cond rfl (fun h3 => ?_) (fun h3 => ?_)
      · skip
        refine TR.region ?_
        refine RL.move rfl rfl rfl ?_
        refine RL.move rfl rfl rfl ?_
        refine RL.move rfl rfl rfl ?_
        refine RL.sliceS rfl gb_tstr9 rfl rfl rfl (by omega) (by omega) (by omega) rfl ?_
        refine RL.assign rfl rfl rfl ?_
        refine RL.nil ?_
        refine NX.seq ?_
        refine TR.seq ?_
        refine TR.region ?_
        refine RL.move rfl rfl rfl ?_
        refine RL.move rfl rfl rfl ?_
        refine RL.move rfl rfl rfl ?_
        refine RL.move rfl rfl rfl ?_
        refine RL.build rfl rfl (gb_bv52_0_1_2 _ _ _) rfl ?_
        refine RL.buildSlice rfl rfl (gb_bs45_1_0 _ _ _) rfl (fun b4 => ?_)
        refine RL.ofGV rfl rfl (GV.append (j := 1) gb_tl45 gb_ni45 gb_te52 rfl rfl rfl (src_box (i := 0) rfl rfl rfl) (by omega) (by omega)) (fun y => ?_)
        refine RL.assign rfl rfl rfl ?_
        refine RL.nil ?_
        refine NX.seq ?_
        refine TR.region ?_
        refine RL.move rfl rfl rfl ?_
        refine RL.assign rfl rfl rfl ?_
        refine RL.nil ?_
        refine NX.off ?_
        refine NX.seq ?_
        refine TR.region ?_
        refine RL.move rfl rfl rfl ?_
        refine RL.bin rfl rfl rfl (BinV.add _ rfl (by omega) (by omega)) rfl ?_
        refine RL.assign rfl rfl rfl ?_
        refine RL.nil ?_
        refine NX.roundP ⟨x.i + 1, b2.1, x.es ++ [⟨((b1.1 : Nat) : Int), ((b2.1 : Nat) : Int), ((tx.take ((b2.1 : Nat) : Int).toNat).drop ((b1.1 : Nat) : Int).toNat)⟩], y.1, y.2⟩ ⟨by rw [List.length_append]; show x.es.length + 1 = x.i + 1; omega, by show x.i + 1 ≤ 5; omega, htl, sm_step hx.2.2.2.1 hqf hft htl, mem_snoc_all hx.2.2.2.2.1 (by show (((tx.take ((b2.1 : Nat) : Int).toNat).drop ((b1.1 : Nat) : Int).toNat).length : Int) ≤ ((b2.1 : Nat) : Int) - ((b1.1 : Nat) : Int) + (5 : Nat); have := cut_len (l := tx) hft htl; omega), fun _ => b2.2.2.1⟩ (by show 5 - (x.i + 1) < 5 - x.i; omega) ⟨rfl, rfl, rfl, rfl, ?_, ?_, rfl, trivial⟩ (fun w hw => ?_)
        · show some (Value.slice y.1 (x.es.length + 1) y.2) = some (Value.slice y.1 (x.es ++ [_]).length y.2)
          rw [List.length_append]; rfl
        · rfl
        · have h9 := (hw.to 2 [1] 1 [0] rfl)
          show St w (OwnSl 52 3 y.1 (x.es ++ [_]).length y.2 (edC (x.es ++ [_])) :: M) _
          rw [List.length_append, edC_append]
          exact h9
      · skip
        refine TR.skip ?_
        refine NX.seq ?_
        refine TR.seq ?_
        refine TR.region ?_
        refine RL.move rfl rfl rfl ?_
        refine RL.move rfl rfl rfl ?_
        refine RL.move rfl rfl rfl ?_
        refine RL.move rfl rfl rfl ?_
        refine RL.build rfl rfl (gb_bv52_0_1_2 _ _ _) rfl ?_
        refine RL.buildSlice rfl rfl (gb_bs45_1_0 _ _ _) rfl (fun b6 => ?_)
        refine RL.ofGV rfl rfl (GV.append (j := 1) gb_tl45 gb_ni45 gb_te52 rfl rfl rfl (src_box (i := 0) rfl rfl rfl) (by omega) (by omega)) (fun y => ?_)
        refine RL.assign rfl rfl rfl ?_
        refine RL.nil ?_
        refine NX.seq ?_
        refine TR.region ?_
        refine RL.move rfl rfl rfl ?_
        refine RL.assign rfl rfl rfl ?_
        refine RL.nil ?_
        refine NX.off ?_
        refine NX.seq ?_
        refine TR.region ?_
        refine RL.move rfl rfl rfl ?_
        refine RL.bin rfl rfl rfl (BinV.add _ rfl (by omega) (by omega)) rfl ?_
        refine RL.assign rfl rfl rfl ?_
        refine RL.nil ?_
        refine NX.roundP ⟨x.i + 1, b2.1, x.es ++ [⟨((b1.1 : Nat) : Int), ((b2.1 : Nat) : Int), wordsE[k]⟩], y.1, y.2⟩ ⟨by rw [List.length_append]; show x.es.length + 1 = x.i + 1; omega, by show x.i + 1 ≤ 5; omega, htl, sm_step hx.2.2.2.1 hqf hft htl, mem_snoc_all hx.2.2.2.2.1 (by show (wordsE[k].length : Int) ≤ ((b2.1 : Nat) : Int) - ((b1.1 : Nat) : Int) + (5 : Nat); have := wordsE_short hk; omega), fun _ => b2.2.2.1⟩ (by show 5 - (x.i + 1) < 5 - x.i; omega) ⟨rfl, rfl, rfl, rfl, ?_, ?_, rfl, trivial⟩ (fun w hw => ?_)
        · show some (Value.slice y.1 (x.es.length + 1) y.2) = some (Value.slice y.1 (x.es ++ [_]).length y.2)
          rw [List.length_append]; rfl
        · rfl
        · have h9 := (hw.to 2 [1] 1 [0] rfl)
          show St w (OwnSl 52 3 y.1 (x.es ++ [_]).length y.2 (edC (x.es ++ [_])) :: M) _
          rw [List.length_append, edC_append]
          exact h9
    · skip
      refine TR.skip ?_
      refine NX.seq ?_
      refine TR.seq ?_
      skip
      refine TR.region ?_
      refine RL.move rfl rfl rfl ?_
      refine RL.move rfl rfl rfl ?_
      refine RL.move rfl rfl rfl ?_
      refine RL.bin rfl rfl rfl (BinV.mul _ rfl (by omega) (by omega)) rfl ?_
      refine RL.bin rfl rfl rfl (BinV.add _ rfl (by omega) (by omega)) rfl ?_
      refine RL.move rfl rfl rfl ?_
      refine RL.lenStr rfl gb_tstr9 rfl rfl ?_
      refine RL.move rfl rfl rfl ?_
      refine RL.bin rfl rfl rfl (BinV.sub ((tx.length - f : Nat) : Int) (by omega) (by omega) (by omega)) rfl ?_
      refine RL.min rfl rfl rfl rfl ?_
      refine RL.bin rfl rfl rfl (BinV.add ((min (tx.length - f) 7 + 1 : Nat) : Int) (by omega) (by omega) (by omega)) rfl ?_
      refine RL.call rfl rfl Try.call83 rfl (pick_spec (m := ((min (tx.length - f) 7 + 1 : Nat) : Int)) (.tail _ ha) hxs (by omega)) (fun rt => ?_)
      obtain ⟨rtv, rth⟩ := rt
      obtain ⟨t, rfl⟩ : ∃ t : Nat, rtv = t := ⟨rtv.toNat, by omega⟩
      dsimp only
      have hft0 : f + t ≤ tx.length := by omega
      refine RL.bin rfl rfl rfl (BinV.add ((f + t : Nat) : Int) (by omega) (by omega) (by omega)) rfl ?_
      refine RL.assign rfl rfl rfl ?_
      refine RL.nil ?_
      refine NX.seq ?_
      refine TR.seq ?_
      refine TR.seq ?_
      refine TR.region ?_
      refine RL.move rfl rfl rfl ?_
      refine RL.nil ?_
      refine NX.seq ?_
      refine TR.condT rfl ?_
      refine TR.seq ?_
      refine TR.region ?_
      refine RL.move rfl rfl rfl ?_
      refine RL.move rfl rfl rfl ?_
      refine RL.call rfl rfl Try.call84 rfl (boundary_spec (a := f) (by omega)) (fun b1 => ?_)
      refine RL.assign rfl rfl rfl ?_
      refine RL.nil ?_
      refine NX.seq ?_
      refine TR.region ?_
      refine RL.move rfl rfl rfl ?_
      refine RL.move rfl rfl rfl ?_
      refine RL.call rfl rfl Try.call84 rfl (boundary_spec (a := f + t) (by omega)) (fun b2 => ?_)
      refine RL.assign rfl rfl rfl ?_
      refine RL.nil ?_
      refine NX.seq ?_
      refine TR.seq ?_
      have hqf : x.q ≤ b1.1 := b1.2.2.2 _ (hx.2.2.2.2.2 rfl) hfq
      have hft : b1.1 ≤ b2.1 := b2.2.2.2 _ b1.2.2.1 (by have := b1.2.1; omega)
      have htl : b2.1 ≤ tx.length := by have := b2.2.1; omega
      refine TR.region ?_
      refine RL.move rfl rfl rfl ?_
      refine RL.move rfl rfl rfl ?_
      refine RL.move rfl rfl rfl ?_
      refine RL.bin rfl rfl rfl (BinV.mul _ rfl (by omega) (by omega)) rfl ?_
      refine RL.bin rfl rfl rfl (BinV.add _ rfl (by omega) (by omega)) rfl ?_
      refine RL.move rfl rfl rfl ?_
      refine RL.lenSlice rfl gb_tl43 rfl rfl ?_
      refine RL.call rfl rfl Try.call83 rfl (pick_spec (.tail _ ha) hxs (by decide)) (fun rk => ?_)
      obtain ⟨rkv, rkh⟩ := rk
      obtain ⟨k, rfl⟩ : ∃ k : Nat, rkv = k := ⟨rkv.toNat, by omega⟩
      dsimp only
      have hk : k < wordsE.length := by rw [wordsE_len]; omega
      refine RL.indexAddr rfl gb_tl43 gb_tz9 rfl rfl (by omega) (by omega) rfl ?_
      refine RL.loadF rfl rfl (fun w K hF => run_loadCell1 (j := ((k : Nat) : Int).toNat * 1) (v := S wordsE[k]) (hF (CellsF wb 0 (strsV wordsE)) (.head _)) gb_ts9 (strs_get hk)) rfl ?_
      refine RL.assign rfl rfl rfl ?_
      refine RL.nil ?_
      refine NX.seq ?_
      refine TR.seq ?_
      refine TR.seq ?_
      refine TR.region ?_
      refine RL.move rfl rfl rfl ?_
      refine RL.bin rfl rfl rfl (BinV.quo (by decide) ((n / 16 : Nat) : Int) (by rw [Int.tdiv_eq_ediv_of_nonneg (by omega)]; omega) (by omega) (by omega)) rfl ?_
      refine RL.bin rfl rfl rfl (BinV.remK (a := n / 16) (b := 5) (by decide)) rfl ?_
      refine RL.bin rfl rfl rfl BinV.eql rfl ?_
      refine RL.nil ?_
      refine NX.seq ?_
      refine TR.cond rfl (fun h8 => ?_) (fun h8 => ?_)
      · skip
        refine TR.region ?_
        refine RL.move rfl rfl rfl ?_
        refine RL.move rfl rfl rfl ?_
        refine RL.move rfl rfl rfl ?_
        refine RL.sliceS rfl gb_tstr9 rfl rfl rfl (by omega) (by omega) (by omega) rfl ?_
        refine RL.assign rfl rfl rfl ?_
        refine RL.nil ?_
        refine NX.seq ?_
        refine TR.seq ?_
        refine TR.region ?_
        refine RL.move rfl rfl rfl ?_
        refine RL.move rfl rfl rfl ?_
        refine RL.move rfl rfl rfl ?_
        refine RL.move rfl rfl rfl ?_
        refine RL.build rfl rfl (gb_bv52_0_1_2 _ _ _) rfl ?_
        refine RL.buildSlice rfl rfl (gb_bs45_1_0 _ _ _) rfl (fun b9 => ?_)
        refine RL.ofGV rfl rfl (GV.append (j := 1) gb_tl45 gb_ni45 gb_te52 rfl rfl rfl (src_box (i := 0) rfl rfl rfl) (by omega) (by omega)) (fun y => ?_)
        refine RL.assign rfl rfl rfl ?_
        refine RL.nil ?_
        refine NX.seq ?_
        refine TR.region ?_
        refine RL.move rfl rfl rfl ?_
        refine RL.assign rfl rfl rfl ?_
        refine RL.nil ?_
        refine NX.off ?_
        refine NX.seq ?_
        refine TR.region ?_
        refine RL.move rfl rfl rfl ?_
        refine RL.bin rfl rfl rfl (BinV.add _ rfl (by omega) (by omega)) rfl ?_
        refine RL.assign rfl rfl rfl ?_
        refine RL.nil ?_
        refine NX.roundP ⟨x.i + 1, b2.1, x.es ++ [⟨((b1.1 : Nat) : Int), ((b2.1 : Nat) : Int), ((tx.take ((b2.1 : Nat) : Int).toNat).drop ((b1.1 : Nat) : Int).toNat)⟩], y.1, y.2⟩ ⟨by rw [List.length_append]; show x.es.length + 1 = x.i + 1; omega, by show x.i + 1 ≤ 5; omega, htl, sm_step hx.2.2.2.1 hqf hft htl, mem_snoc_all hx.2.2.2.2.1 (by show (((tx.take ((b2.1 : Nat) : Int).toNat).drop ((b1.1 : Nat) : Int).toNat).length : Int) ≤ ((b2.1 : Nat) : Int) - ((b1.1 : Nat) : Int) + (5 : Nat); have := cut_len (l := tx) hft htl; omega), fun _ => b2.2.2.1⟩ (by show 5 - (x.i + 1) < 5 - x.i; omega) ⟨rfl, rfl, rfl, rfl, ?_, ?_, rfl, trivial⟩ (fun w hw => ?_)
        · show some (Value.slice y.1 (x.es.length + 1) y.2) = some (Value.slice y.1 (x.es ++ [_]).length y.2)
          rw [List.length_append]; rfl
        · rfl
        · have h9 := (hw.to 2 [1] 1 [0] rfl)
          show St w (OwnSl 52 3 y.1 (x.es ++ [_]).length y.2 (edC (x.es ++ [_])) :: M) _
          rw [List.length_append, edC_append]
          exact h9
      · skip
        refine TR.skip ?_
        refine NX.seq ?_
        refine TR.seq ?_
        refine TR.region ?_
        refine RL.move rfl rfl rfl ?_
        refine RL.move rfl rfl rfl ?_
        refine RL.move rfl rfl rfl ?_
        refine RL.move rfl rfl rfl ?_
        refine RL.build rfl rfl (gb_bv52_0_1_2 _ _ _) rfl ?_
        refine RL.buildSlice rfl rfl (gb_bs45_1_0 _ _ _) rfl (fun b11 => ?_)
        refine RL.ofGV rfl rfl (GV.append (j := 1) gb_tl45 gb_ni45 gb_te52 rfl rfl rfl (src_box (i := 0) rfl rfl rfl) (by omega) (by omega)) (fun y => ?_)
        refine RL.assign rfl rfl rfl ?_
        refine RL.nil ?_
        refine NX.seq ?_
        refine TR.region ?_
        refine RL.move rfl rfl rfl ?_
        refine RL.assign rfl rfl rfl ?_
        refine RL.nil ?_
        refine NX.off ?_
        refine NX.seq ?_
        refine TR.region ?_
        refine RL.move rfl rfl rfl ?_
        refine RL.bin rfl rfl rfl (BinV.add _ rfl (by omega) (by omega)) rfl ?_
        refine RL.assign rfl rfl rfl ?_
        refine RL.nil ?_
        refine NX.roundP ⟨x.i + 1, b2.1, x.es ++ [⟨((b1.1 : Nat) : Int), ((b2.1 : Nat) : Int), wordsE[k]⟩], y.1, y.2⟩ ⟨by rw [List.length_append]; show x.es.length + 1 = x.i + 1; omega, by show x.i + 1 ≤ 5; omega, htl, sm_step hx.2.2.2.1 hqf hft htl, mem_snoc_all hx.2.2.2.2.1 (by show (wordsE[k].length : Int) ≤ ((b2.1 : Nat) : Int) - ((b1.1 : Nat) : Int) + (5 : Nat); have := wordsE_short hk; omega), fun _ => b2.2.2.1⟩ (by show 5 - (x.i + 1) < 5 - x.i; omega) ⟨rfl, rfl, rfl, rfl, ?_, ?_, rfl, trivial⟩ (fun w hw => ?_)
        · show some (Value.slice y.1 (x.es.length + 1) y.2) = some (Value.slice y.1 (x.es ++ [_]).length y.2)
          rw [List.length_append]; rfl
        · rfl
        · have h9 := (hw.to 2 [1] 1 [0] rfl)
          show St w (OwnSl 52 3 y.1 (x.es ++ [_]).length y.2 (edC (x.es ++ [_])) :: M) _
          rw [List.length_append, edC_append]
          exact h9
  · skip
    refine TR.exit ?_
    refine NX.exitThen ?_
    refine NX.exitThen ?_
    refine NX.exitHere ?_
    refine NX.seq ?_
    refine TR.seq ?_
    refine TR.region ?_
    refine RL.move rfl rfl rfl ?_
    refine RL.assign rfl rfl rfl ?_
    refine RL.nil ?_
    refine NX.seq ?_
    refine TR.ret ?_
    exact NX.ret1 (⟨⟨x.es, x.oa, x.c⟩, by show x.es.length ≤ 5; have := hx.1; have := hx.2.1; omega, hx.2.2.2.1.sound, hx.2.2.2.2.1⟩ : {z : EdX // EdsOk tx z.es}) rfl rfl rfl (fun w hw => ((hw.to 1 [0] 1 [] rfl) : St w _ _).keepSl)

theorem gEdits_spec {tx : List UInt8} {xs : List Int} {oa : Option Addr} {ca : Nat} {M : List HP} {F : List Fact} (ha : ArrF oa (ints xs) ∈ F) (hxs : IntsOk xs) (hl : tx.length ≤ 1000000) : Ctr Try.prog 25 [S tx, .slice oa xs.length ca] M F {z : EdX // EdsOk tx z.es} (fun z => .slice z.1.oa z.1.es.length z.1.c) (fun _ => M) (fun z => ArrF z.1.oa (edC z.1.es) :: F) := by
  refine Ctr.body Try.func25 rfl rfl ?_
  refine TR.seq ?_
  refine TR.region ?_
  refine RL.assign rfl rfl rfl ?_
  refine RL.nil ?_
  refine NX.seq ?_
  refine TR.seq ?_
  refine TR.region ?_
  refine RL.move rfl rfl rfl ?_
  refine RL.move rfl rfl rfl ?_
  refine RL.call rfl rfl Try.call56 rfl (some_w ha hxs hl) (fun z => ?_)
  refine RL.assign rfl rfl rfl ?_
  refine RL.nil ?_
  refine NX.seq ?_
  refine TR.ret ?_
  exact NX.ret1 z rfl rfl rfl (fun w hw => hw)

def kwsT : List (List UInt8) := [[116, 121, 112, 101], [116, 97, 98, 108, 101], [107, 101, 121], [114, 101, 102], [116, 111], [99, 104, 101, 99, 107], [102, 117, 110], [112, 114, 111, 99], [108, 101, 116], [105, 110], [105, 102], [116, 104, 101, 110], [101, 108, 115, 101], [109, 97, 116, 99, 104], [105, 110, 115, 101, 114, 116], [100, 101, 108, 101, 116, 101], [97, 115], [119, 104, 101, 114, 101], [117, 112, 100, 97, 116, 101], [115, 101, 116], [119, 105, 116, 104], [97, 110, 100], [111, 114], [110, 111, 116], [116, 114, 117, 101], [102, 97, 108, 115, 101]]
theorem kwsT_len : kwsT.length = 26 := by kernel_rfl
theorem kwsT_short {k : Nat} (h : k < kwsT.length) : kwsT[k].length ≤ 6 := short_all (by kernel_rfl) h

theorem kwsT_spec {M : List HP} {F : List Fact} : Ctr Try.prog 81 [] M F Nat (fun b => .slice (some ⟨b, 0, none⟩) 26 26) (fun _ => M) (fun b => CellsF b 0 (strsV kwsT) :: F) := by
  refine Ctr.body Try.func81 rfl rfl ?_
  refine TR.seq ?_
  refine TR.region ?_
  refine RL.assign rfl rfl rfl ?_
  refine RL.nil ?_
  refine NX.seq ?_
  refine TR.seq ?_
  refine TR.region ?_
  refine RL.buildSlice rfl rfl (gb_bs43_26_0_1_2_3_4_5_6_7_8_9_10_11_12_13_14_15_16_17_18_19_20_21_22_23_24_25 _ _ _ _ _ _ _ _ _ _ _ _ _ _ _ _ _ _ _ _ _ _ _ _ _ _) rfl (fun tb => ?_)
  refine RL.assign rfl rfl rfl ?_
  refine RL.nil ?_
  refine NX.seq ?_
  refine TR.ret ?_
  exact NX.ret1 tb rfl rfl rfl (fun w hw => (show St w (Box _ _ (strsV kwsT) :: _) _ from hw).boxKeep)

def symsT : List (List UInt8) := [[61, 61], [33, 61], [60, 61], [60, 45], [45, 62], [43, 43], [60], [62], [61], [43], [45], [42], [40], [41], [123], [125], [91], [93], [44], [46], [58], [124], [59], [63]]
theorem symsT_len : symsT.length = 24 := by kernel_rfl
theorem symsT_short {k : Nat} (h : k < symsT.length) : symsT[k].length ≤ 2 := short_all (by kernel_rfl) h

theorem symsT_spec {M : List HP} {F : List Fact} : Ctr Try.prog 82 [] M F Nat (fun b => .slice (some ⟨b, 0, none⟩) 24 24) (fun _ => M) (fun b => CellsF b 0 (strsV symsT) :: F) := by
  refine Ctr.body Try.func82 rfl rfl ?_
  refine TR.seq ?_
  refine TR.region ?_
  refine RL.assign rfl rfl rfl ?_
  refine RL.nil ?_
  refine NX.seq ?_
  refine TR.seq ?_
  refine TR.region ?_
  refine RL.buildSlice rfl rfl (gb_bs43_24_0_1_2_3_4_5_6_7_8_9_10_11_12_13_14_15_16_17_18_19_20_21_22_23 _ _ _ _ _ _ _ _ _ _ _ _ _ _ _ _ _ _ _ _ _ _ _ _) rfl (fun tb => ?_)
  refine RL.assign rfl rfl rfl ?_
  refine RL.nil ?_
  refine NX.seq ?_
  refine TR.ret ?_
  exact NX.ret1 tb rfl rfl rfl (fun w hw => (show St w (Box _ _ (strsV symsT) :: _) _ from hw).boxKeep)

def partsT : List (List UInt8) := [[120], [121, 49], [97, 95, 98], [83, 111, 109, 101], [78, 48, 110, 101], [48], [52, 50], [49, 48, 57, 57, 53, 49, 49, 54, 50, 55, 55, 55, 54], [49, 48, 57, 57, 53, 49, 49, 54, 50, 55, 55, 55, 55], [34, 116, 34], [34, 195, 169, 32, 98, 34], [34, 111, 112, 101, 110], [35, 110, 111, 116, 101], [35], [33], [36], [195, 169], [38, 38], [95], [34], [10], [32], [9, 32], [97, 50, 51, 52, 53, 54, 55, 56, 57, 48, 49, 50, 51, 52, 53, 54, 55], [66, 50, 51, 52, 53, 54, 55, 56, 57, 48, 49, 50, 51, 52, 53, 54]]
theorem partsT_len : partsT.length = 25 := by kernel_rfl
theorem partsT_short {k : Nat} (h : k < partsT.length) : partsT[k].length ≤ 17 := short_all (by kernel_rfl) h

theorem part_spec {n : Int} {M : List HP} {F : List Fact} (hn : I64 n) : Ctr Try.prog 55 [I n] M F {l : List UInt8 // l.length ≤ 17} (fun l => S l.1) (fun _ => M) (fun _ => F) := by
  refine Ctr.body Try.func55 rfl rfl ?_
  refine TR.seq ?_
  refine TR.region ?_
  refine RL.assign rfl rfl rfl ?_
  refine RL.nil ?_
  refine NX.seq ?_
  refine TR.seq ?_
  refine TR.region ?_
  refine RL.buildSlice rfl rfl (gb_bs43_25_0_1_2_3_4_5_6_7_8_9_10_11_12_13_14_15_16_17_18_19_20_21_22_23_24 _ _ _ _ _ _ _ _ _ _ _ _ _ _ _ _ _ _ _ _ _ _ _ _ _) rfl (fun tb => ?_)
  refine RL.weak (fun w hw => (show St w (Box _ _ (strsV partsT) :: _) _ from hw).boxKeep) ?_
  refine RL.assign rfl rfl rfl ?_
  refine RL.nil ?_
  refine NX.seq ?_
  refine TR.seq ?_
  refine TR.region ?_
  refine RL.move rfl rfl rfl ?_
  refine RL.move rfl rfl rfl ?_
  refine RL.lenSlice rfl gb_tl43 rfl rfl ?_
  refine RL.call rfl rfl Try.call81 rfl (kwsT_spec) (fun k2_3 => ?_)
  refine RL.lenSlice rfl gb_tl43 rfl rfl ?_
  refine RL.bin rfl rfl rfl (BinV.add _ rfl (by omega) (by omega)) rfl ?_
  refine RL.call rfl rfl Try.call82 rfl (symsT_spec) (fun s2_6 => ?_)
  refine RL.lenSlice rfl gb_tl43 rfl rfl ?_
  refine RL.bin rfl rfl rfl (BinV.mul _ rfl (by omega) (by omega)) rfl ?_
  refine RL.bin rfl rfl rfl (BinV.add _ rfl (by omega) (by omega)) rfl ?_
  refine RL.call rfl rfl Try.call20 rfl (around_spec (by decide) hn.1 hn.2) (fun r => ?_)
  obtain ⟨rv, rh⟩ := r
  obtain ⟨k, rfl⟩ : ∃ k : Nat, rv = k := ⟨rv.toNat, by omega⟩
  dsimp only
  refine RL.assign rfl rfl rfl ?_
  refine RL.nil ?_
  refine NX.seq ?_
  refine TR.seq ?_
  refine TR.seq ?_
  refine TR.region ?_
  refine RL.move rfl rfl rfl ?_
  refine RL.move rfl rfl rfl ?_
  refine RL.lenSlice rfl gb_tl43 rfl rfl ?_
  refine RL.bin rfl rfl rfl BinV.lss rfl ?_
  refine RL.nil ?_
  refine NX.seq ?_
  refine TR.cond rfl (fun h1 => ?_) (fun h1 => ?_)
  · skip
    have hpl := partsT_len
    have hk : k < partsT.length := by have := of_decide_eq_true h1; omega
    refine TR.seq ?_
    refine TR.region ?_
    refine RL.move rfl rfl rfl ?_
    refine RL.move rfl rfl rfl ?_
    refine RL.indexAddr rfl gb_tl43 gb_tz9 rfl rfl (by omega) (by omega) rfl ?_
    refine RL.loadF rfl rfl (fun w K hF => run_loadCell1 (j := ((k : Nat) : Int).toNat * 1) (v := S partsT[k]) (hF (CellsF tb 0 (strsV partsT)) (.tail _ (.tail _ (.head _)))) gb_ts9 (strs_get hk)) rfl ?_
    refine RL.assign rfl rfl rfl ?_
    refine RL.nil ?_
    refine NX.seq ?_
    refine TR.ret ?_
    refine NX.retThen ?_
    exact NX.ret1 (⟨_, partsT_short hk⟩ : {l : List UInt8 // l.length ≤ 17}) rfl rfl rfl (fun w hw => (hw.to 0 [] 3 [] rfl))
  · skip
    have hk25 : 25 ≤ k := by have := of_decide_eq_false h1; have := partsT_len; omega
    refine TR.skip ?_
    refine NX.seq ?_
    refine TR.seq ?_
    refine TR.region ?_
    refine RL.move rfl rfl rfl ?_
    refine RL.move rfl rfl rfl ?_
    refine RL.lenSlice rfl gb_tl43 rfl rfl ?_
    refine RL.bin rfl rfl rfl (BinV.sub ((k - 25 : Nat) : Int) (by omega) (by omega) (by omega)) rfl ?_
    refine RL.assign rfl rfl rfl ?_
    refine RL.nil ?_
    refine NX.seq ?_
    refine TR.seq ?_
    refine TR.seq ?_
    refine TR.region ?_
    refine RL.move rfl rfl rfl ?_
    refine RL.call rfl rfl Try.call81 rfl (kwsT_spec) (fun k6_1 => ?_)
    refine RL.lenSlice rfl gb_tl43 rfl rfl ?_
    refine RL.bin rfl rfl rfl BinV.lss rfl ?_
    refine RL.nil ?_
    refine NX.seq ?_
    refine TR.cond rfl (fun h2 => ?_) (fun h2 => ?_)
    · skip
      have hpl := kwsT_len
      have hk : k - 25 < kwsT.length := by have := of_decide_eq_true h2; omega
      refine TR.seq ?_
      refine TR.region ?_
      refine RL.call rfl rfl Try.call81 rfl (kwsT_spec) (fun k7_0 => ?_)
      refine RL.move rfl rfl rfl ?_
      refine RL.indexAddr rfl gb_tl43 gb_tz9 rfl rfl (by omega) (by omega) rfl ?_
      refine RL.loadF rfl rfl (fun w K hF => run_loadCell1 (j := ((k - 25 : Nat) : Int).toNat * 1) (v := S kwsT[k - 25]) (hF (CellsF k7_0 0 (strsV kwsT)) (.head _)) gb_ts9 (strs_get hk)) rfl ?_
      refine RL.assign rfl rfl rfl ?_
      refine RL.nil ?_
      refine NX.seq ?_
      refine TR.ret ?_
      refine NX.retThen ?_
      exact NX.ret1 (⟨_, Nat.le_trans (kwsT_short hk) (by decide)⟩ : {l : List UInt8 // l.length ≤ 17}) rfl rfl rfl (fun w hw => (hw.to 0 [] 5 [] rfl))
    · skip
      have hpl := symsT_len
      have hk51 : 51 ≤ k := by have := of_decide_eq_false h2; have := kwsT_len; omega
      have hk : (k - 25 - 26) % 24 < symsT.length := by rw [symsT_len]; omega
      refine TR.skip ?_
      refine NX.seq ?_
      refine TR.seq ?_
      refine TR.region ?_
      refine RL.call rfl rfl Try.call82 rfl (symsT_spec) (fun s8_0 => ?_)
      refine RL.move rfl rfl rfl ?_
      refine RL.call rfl rfl Try.call81 rfl (kwsT_spec) (fun k8_2 => ?_)
      refine RL.lenSlice rfl gb_tl43 rfl rfl ?_
      refine RL.bin rfl rfl rfl (BinV.sub ((k - 25 - 26 : Nat) : Int) (by omega) (by omega) (by omega)) rfl ?_
      refine RL.call rfl rfl Try.call82 rfl (symsT_spec) (fun s8_5 => ?_)
      refine RL.lenSlice rfl gb_tl43 rfl rfl ?_
      refine RL.bin rfl rfl rfl (BinV.remK (a := k - 25 - 26) (b := 24) (by decide)) rfl ?_
      refine RL.indexAddr rfl gb_tl43 gb_tz9 rfl rfl (by omega) (by omega) rfl ?_
      refine RL.loadF rfl rfl (fun w K hF => run_loadCell1 (j := (((k - 25 - 26) % 24 : Nat) : Int).toNat * 1) (v := S symsT[(k - 25 - 26) % 24]) (hF (CellsF s8_0 0 (strsV symsT)) (.tail _ (.tail _ (.head _)))) gb_ts9 (strs_get hk)) rfl ?_
      refine RL.assign rfl rfl rfl ?_
      refine RL.nil ?_
      refine NX.seq ?_
      refine TR.ret ?_
      exact NX.ret1 (⟨_, Nat.le_trans (symsT_short hk) (by decide)⟩ : {l : List UInt8 // l.length ≤ 17}) rfl rfl rfl (fun w hw => (hw.to 0 [] 7 [] rfl))

theorem source_spec {xs : List Int} {oa : Option Addr} {ca : Nat} {M : List HP} {F : List Fact} (ha : ArrF oa (ints xs) ∈ F) (hxs : IntsOk xs) : Ctr Try.prog 23 [.slice oa xs.length ca] M F {l : List UInt8 // l.length ≤ 340} (fun l => S l.1) (fun _ => M) (fun _ => F) := by
  refine Ctr.body Try.func23 rfl rfl ?_
  refine TR.seq ?_
  refine TR.region ?_
  refine RL.assign rfl rfl rfl ?_
  refine RL.nil ?_
  refine NX.seq ?_
  refine TR.seq ?_
  refine TR.region ?_
  refine RL.assign rfl rfl rfl ?_
  refine RL.nil ?_
  refine NX.seq ?_
  refine TR.seq ?_
  refine TR.seq ?_
  refine TR.region ?_
  refine RL.assign rfl rfl rfl ?_
  refine RL.nil ?_
  refine NX.seq ?_
  refine TR.block ?_
  refine TR.loopP (ι := Nat × List UInt8) (fun x => x.1 ≤ 20 ∧ x.2.length ≤ 17 * x.1) (fun x => [(0, .slice oa xs.length ca), (3, S x.2), (4, I (x.1 : Nat))]) (fun x => M) (fun x => F) (fun x => 20 - x.1) (0, []) ⟨Nat.zero_le _, Nat.zero_le _⟩ ⟨rfl, rfl, rfl, trivial⟩ (fun w hw => (hw.to 0 [] 0 [] rfl)) (fun x hx => ?_)
  refine TR.seq ?_
  refine TR.seq ?_
  refine TR.region ?_
  refine RL.move rfl rfl rfl ?_
  refine RL.move rfl rfl rfl ?_
  refine RL.lenSlice rfl gb_tl22 rfl rfl ?_
  refine RL.bin rfl rfl rfl BinV.lss rfl ?_
  refine RL.move rfl rfl rfl ?_
  refine RL.part (fun h1 => ?_) (fun h1 => ?_)
  · skip
    have hk : x.1 < xs.length := by have := of_decide_eq_true h1; omega
    refine RL.move rfl rfl rfl ?_
    refine RL.bin rfl rfl rfl BinV.lss rfl ?_
    refine RL.pickT rfl rfl rfl rfl ?_
    refine RL.nil ?_
    refine NX.seq ?_
    refine TR.cond rfl (fun h2 => ?_) (fun h2 => ?_)
    · skip
      have hi := of_decide_eq_true h2
      refine TR.openP (open_arr (oa := oa) (xs := ints xs) ha (ints_ne (by omega))) (fun pq hpa => ?_)
      refine TR.skip ?_
      refine NX.seq ?_
      refine TR.seq ?_
      refine TR.block ?_
      refine TR.region ?_
      refine RL.move rfl rfl rfl ?_
      refine RL.move rfl rfl rfl ?_
      refine RL.move rfl rfl rfl ?_
      refine RL.indexAddr rfl gb_tl22 gb_tz3 (congrArg (fun a => some (Value.slice a _ _)) hpa) rfl (by omega) (by omega) rfl ?_
      refine RL.loadF rfl rfl (fun w K hF => run_loadCell1 (j := ((x.1 : Nat) : Int).toNat * 1) (v := I xs[x.1]) (hF (CellsF pq.1 pq.2 (ints xs)) (.head _)) gb_ts3 (by rw [Nat.mul_one, Int.toNat_natCast]; exact ints_get hk)) rfl ?_
      refine RL.call rfl rfl Try.call55 rfl (part_spec (hxs.2 _ (List.getElem_mem hk))) (fun l => ?_)
      refine RL.bin rfl rfl rfl (BinV.addS (by have := l.2; have := hx.2; omega)) rfl ?_
      refine RL.assign rfl rfl rfl ?_
      refine RL.nil ?_
      refine NX.off ?_
      refine NX.seq ?_
      refine TR.region ?_
      refine RL.move rfl rfl rfl ?_
      refine RL.bin rfl rfl rfl (BinV.add _ rfl (by omega) (by omega)) rfl ?_
      refine RL.assign rfl rfl rfl ?_
      refine RL.nil ?_
      refine NX.roundP (x.1 + 1, x.2 ++ l.1) ⟨by show x.1 + 1 ≤ 20; omega, by show (x.2 ++ l.1).length ≤ 17 * (x.1 + 1); have := l.2; have := hx.2; rw [List.length_append]; omega⟩ (by show 20 - (x.1 + 1) < 20 - x.1; omega) ⟨rfl, rfl, rfl, trivial⟩ (fun w hw => (hw.to 0 [] 1 [] rfl))
    · skip
      refine TR.exit ?_
      refine NX.exitThen ?_
      refine NX.exitThen ?_
      refine NX.exitHere ?_
      refine NX.seq ?_
      refine TR.seq ?_
      refine TR.region ?_
      refine RL.move rfl rfl rfl ?_
      refine RL.assign rfl rfl rfl ?_
      refine RL.nil ?_
      refine NX.seq ?_
      refine TR.ret ?_
      exact NX.ret1 (⟨x.2, by have := hx.1; have := hx.2; omega⟩ : {l : List UInt8 // l.length ≤ 340}) rfl rfl rfl (fun w hw => (hw.to 0 [] 0 [] rfl))
  · skip
    refine RL.skip rfl rfl rfl ?_
    refine RL.skip rfl rfl rfl ?_
    refine RL.pickF rfl rfl rfl rfl ?_
    refine RL.nil ?_
    refine NX.seq ?_
    refine TR.condF rfl ?_
    refine TR.exit ?_
    refine NX.exitThen ?_
    refine NX.exitThen ?_
    refine NX.exitHere ?_
    refine NX.seq ?_
    refine TR.seq ?_
    refine TR.region ?_
    refine RL.move rfl rfl rfl ?_
    refine RL.assign rfl rfl rfl ?_
    refine RL.nil ?_
    refine NX.seq ?_
    refine TR.ret ?_
    exact NX.ret1 (⟨x.2, by have := hx.1; have := hx.2; omega⟩ : {l : List UInt8 // l.length ≤ 340}) rfl rfl rfl (fun w hw => (hw.to 0 [] 0 [] rfl))

end Go.Proofs.Ytdlpaojkkekdlaa

namespace Go.GL
set_option linter.unusedVariables false
/-! ### Texts, one behind the other -/
structure TxP (start : List UInt8) (ess : List (List Ed)) (ts : List (List UInt8)) : Prop where
  len : ts.length = ess.length + 1
  first : ts[0]? = some start
  ok : ∀ k (h : k < ess.length), ∃ t, ts[k]? = some t ∧ EdsOk t ess[k] ∧ ts[k + 1]? = some (applyGo t 0 ess[k])
  short : ∀ (k : Nat) t, ts[k]? = some t → t.length ≤ 340 + 25 * k
theorem TxP.nil {start : List UInt8} (h : start.length ≤ 340) : TxP start [] [start] := ⟨rfl, rfl, fun k h => absurd h (by simp), fun k t ht => by
  cases k with
  | zero => simp at ht; subst ht; omega
  | succ k => simp at ht⟩
theorem TxP.snoc {start : List UInt8} {ess : List (List Ed)} {ts : List (List UInt8)} {t : List UInt8} {es : List Ed} (h : TxP start ess ts) (ht : ts[ess.length]? = some t) (he : EdsOk t es) : TxP start (ess ++ [es]) (ts ++ [applyGo t 0 es]) := by
  have hl := h.len
  have hnew : (ts ++ [applyGo t 0 es])[ess.length + 1]? = some (applyGo t 0 es) := by rw [List.getElem?_append_right (by omega), hl, Nat.sub_self]; rfl
  have hold : ∀ (k : Nat) u, ts[k]? = some u → (ts ++ [applyGo t 0 es])[k]? = some u := fun k u hu => by
    rw [List.getElem?_append_left (List.getElem?_eq_some_iff.1 hu).1]; exact hu
  refine ⟨by simp [hl], hold 0 _ h.first, fun k hk => ?_, fun k u hu => ?_⟩
  · rw [List.length_append, List.length_singleton] at hk
    by_cases e : k = ess.length
    · subst e
      refine ⟨t, hold _ _ ht, ?_, ?_⟩
      · rw [List.getElem_append_right (Nat.le_refl _)]; simpa using he
      · rw [List.getElem_append_right (Nat.le_refl _)]; simpa using hnew
    · have hk2 : k < ess.length := by omega
      obtain ⟨u, h1, h2, h3⟩ := h.ok k hk2
      refine ⟨u, hold _ _ h1, ?_, ?_⟩
      · rw [List.getElem_append_left hk2]; exact h2
      · rw [List.getElem_append_left hk2]; exact hold _ _ h3
  · by_cases hk : k < ts.length
    · rw [List.getElem?_append_left hk] at hu; exact h.short k u hu
    · rw [List.getElem?_append_right (by omega)] at hu
      by_cases e : k = ts.length
      · subst e
        simp at hu
        subst hu
        have h1 := h.short _ _ ht
        have h2 := he.len
        omega
      · rw [List.getElem?_eq_none (by simp; omega)] at hu; cases hu
/-! ### The log -/
structure RpX where
  s : Ds
  g : Lg
  dn : Nat
  ess : List (List Ed)
  ts : List (List UInt8)
  oa : Option Addr
  c : Nat
def RpP (xs : List (List UInt8)) (s : Ds) (g : Lg) (dn : Nat) : Prop :=
  s.room = 20000 ∧ used s.fs ≤ 800 * xs.length ∧ ((LogSt s g 1 xs ∧ dn = xs.length) ∨ ∃ j, ∃ hj : j < xs.length, LogDn s g 1 (xs.take j) xs[j] ∧ dn = j)
theorem RpP.some {xs : List (List UInt8)} {s : Ds} {g : Lg} {dn : Nat} (h : RpP xs s g dn) : OkF s.fs ∧ Lft s ∧ Rm s ∧ dn ≤ xs.length := by
  rcases h.2.2 with ⟨h, h2⟩ | ⟨j, hj, h, h2⟩
  · exact ⟨h.ok, h.lft, h.rm, by omega⟩
  · exact ⟨h.ok, h.lft, h.rm, by omega⟩
/-- one more record, handed to a log that is up -/
theorem RpP.up {xs : List (List UInt8)} {s : Ds} {x : List UInt8} {q : Int × Ds × Lg} (hr : s.room = 20000) (hu : used s.fs ≤ 800 * xs.length) (hx : x.length ≤ 700) (h : AppR s 1 xs x q) :
    (q.1 = 0 ∧ RpP (xs ++ [x]) q.2.1 q.2.2 (xs.length + 1)) ∨ (q.1 = 22 ∧ RpP (xs ++ [x]) q.2.1 q.2.2 xs.length) := by
  rcases h with ⟨e, h1, _, h3, h4, _⟩ | ⟨e, _, h1, h3, h4⟩
  · exact .inl ⟨e, h4.trans hr, by rw [List.length_append, List.length_singleton]; omega, .inl ⟨h1, by simp⟩⟩
  · refine .inr ⟨e, h4.trans hr, by rw [List.length_append, List.length_singleton]; omega, .inr ⟨xs.length, by simp, ?_, rfl⟩⟩
    rw [List.take_left', List.getElem_append_right (Nat.le_refl _)]
    · simpa using h1
    · rfl
/-- one more record, handed to a log that is down -/
theorem RpP.down {xs : List (List UInt8)} {s : Ds} {g : Lg} {dn j : Nat} {x : List UInt8} (hr : s.room = 20000) (hu : used s.fs ≤ 800 * xs.length) (hj : j < xs.length) (h : LogDn s g 1 (xs.take j) xs[j]) (hd : dn = j) : RpP (xs ++ [x]) s g dn := by
  refine ⟨hr, by rw [List.length_append, List.length_singleton]; omega, .inr ⟨j, by simp; omega, ?_, hd⟩⟩
  rw [List.take_append_of_le_length (by omega), List.getElem_append_left hj]; exact h
/-- what is there after the crash -/
theorem RpP.crash {xs : List (List UInt8)} {s : Ds} {g : Lg} {dn : Nat} (h : RpP xs s g dn) (hl : ∀ y, y ∈ xs → y.length ≤ 65536) (hn : xs.length ≤ 4611686018427387904) {t : Ds} {keep : List Int} (hc : CrashR s keep (-1) t) :
    ∃ m, dn ≤ m ∧ m ≤ dn + 1 ∧ m ≤ xs.length ∧ scanJ 0 (vB t.fs 1) = xs.take m := by
  rcases h.2.2 with ⟨h1, h2⟩ | ⟨j, hj, h1, h2⟩
  · refine ⟨xs.length, by omega, by omega, Nat.le_refl _, ?_⟩
    rw [crash_hard hc h1.ok h1.hard, h1.b, List.take_length]
    exact scan_all hn hl
  · obtain ⟨m, hm, e⟩ := crash_dn h1 hc (by decide)
    have h4 := scan_prefix (m := m) hm (by rw [List.length_take]; omega) (fun y hy => hl y (List.mem_of_mem_take hy)) (hl _ (List.getElem_mem hj))
    rw [← e] at h4
    rcases h4 with h4 | h4
    · exact ⟨j, by omega, by omega, by omega, h4⟩
    · exact ⟨j + 1, by omega, by omega, by omega, by rw [h4, List.take_succ_eq_append_getElem hj]⟩
theorem RpP.of {xs ys : List (List UInt8)} {s : Ds} {g : Lg} {dn : Nat} (h : RpP xs s g dn) (e : xs = ys) : RpP ys s g dn := e ▸ h
end Go.GL

namespace Go.Proofs.Ytdlpaojkkekdlaa
open Go.GL
set_option linter.unusedVariables false
theorem ha_tby23 : tyByte Try.prog 23 = true := by kernel_rfl
theorem ha_tstr9 : tyStr Try.prog 9 = true := by kernel_rfl
theorem IntsOk.drop {xs : List Int} (h : IntsOk xs) (k : Nat) : IntsOk (xs.drop k) := ⟨by rw [List.length_drop]; have := h.1; omega, fun x hx => h.2 x (List.mem_of_mem_drop hx)⟩
theorem rInt_enc {b : Nat} {n : Int} {rest : List UInt8} {oa : Option Addr} {c : Nat} {M : List HP} {F : List Fact} (h0 : -9223372036854775808 ≤ n) (h1 : n ≤ 9223372036854775807) (ha : ArrF oa (bytesV (encU (zz n) ++ rest)) ∈ F) (hc : (encU (zz n) ++ rest).length ≤ c) :
    Ctr Try.prog 33 [.pointer (some ⟨b, 0, none⟩)] (Box b 105 [.slice oa (encU (zz n) ++ rest).length c, I 0] :: M) F {z : RdX // rest.length ≤ z.c} (fun _ => I n) (fun z => Box b 105 [.slice z.1.oa rest.length z.1.c, I 0] :: M) (fun z => ArrF z.1.oa (bytesV rest) :: F) := by
  have h := rInt_spec (b := b) (e := 0) (M := M) ha hc
  rw [rdU_enc (zz_lt h0 h1), uz_zz] at h
  exact h

theorem rText_spec {b : Nat} {l : List UInt8} {oa : Option Addr} {c : Nat} {e : Int} {M : List HP} {F : List Fact} (ha : ArrF oa (bytesV l) ∈ F) (hc : l.length ≤ c) (hl : l.length ≤ 70368744177664) : Ctr Try.prog 34 [.pointer (some ⟨b, 0, none⟩)] (Box b 105 [.slice oa l.length c, I e] :: M) F {y : RdX // (rdRaw l e).2.1.length ≤ y.c} (fun _ => S (rdRaw l e).1) (fun y => Box b 105 [.slice y.1.oa (rdRaw l e).2.1.length y.1.c, I (rdRaw l e).2.2] :: M) (fun y => ArrF y.1.oa (bytesV (rdRaw l e).2.1) :: F) := by
  refine Ctr.body Try.func34 rfl rfl ?_
  refine TR.seq ?_
  refine TR.region ?_
  refine RL.assign rfl rfl rfl ?_
  refine RL.nil ?_
  refine NX.seq ?_
  refine TR.seq ?_
  refine TR.region ?_
  refine RL.move rfl rfl rfl ?_
  refine RL.call rfl rfl Try.call38 rfl (rRaw_spec ha hc hl) (fun z => ?_)
  refine RL.convBS rfl ha_tby23 ha_tstr9 rfl rfl (rd_own (i := 0) rfl) rfl ?_
  refine RL.assign rfl rfl rfl ?_
  refine RL.nil ?_
  refine NX.seq ?_
  refine TR.ret ?_
  exact NX.ret1 (⟨⟨z.1.oa, z.1.c⟩, z.2⟩ : {y : RdX // (rdRaw l e).2.1.length ≤ y.c}) rfl rfl rfl (fun w hw => (hw.to 2 [1] 1 [0] rfl))

theorem rText_enc {b : Nat} {x rest : List UInt8} {oa : Option Addr} {c : Nat} {M : List HP} {F : List Fact} (ha : ArrF oa (bytesV (encR x ++ rest)) ∈ F) (hc : (encR x ++ rest).length ≤ c) (hl : (encR x ++ rest).length ≤ 70368744177664) (hx : x.length < 18446744073709551616) :
    Ctr Try.prog 34 [.pointer (some ⟨b, 0, none⟩)] (Box b 105 [.slice oa (encR x ++ rest).length c, I 0] :: M) F {z : RdX // rest.length ≤ z.c} (fun _ => S x) (fun z => Box b 105 [.slice z.1.oa rest.length z.1.c, I 0] :: M) (fun z => ArrF z.1.oa (bytesV rest) :: F) := by
  have h := rText_spec (b := b) (e := 0) (M := M) ha hc hl
  rw [rdRaw_enc hx] at h
  exact h

theorem apply_ok {s x : List UInt8} {es : List Ed} {oa : Option Addr} {ca : Nat} {M : List HP} {F : List Fact} (ha : ArrF oa (edC es) ∈ F) (hl : es.length ≤ 4611686018427387904) (hE : soundE s.length es = 0) (hG : applyGo s 0 es = x) (hb : x.length ≤ 140737488355328) :
    Ctr Try.prog 26 [S s, .slice oa es.length ca] M F Unit (fun _ => .tuple #[S x, I 0]) (fun _ => M) (fun _ => F) := by
  have h := apply_spec (s := s) (ca := ca) (M := M) ha hl (fun _ => by rw [hG]; exact hb)
  unfold applyE at h
  rw [if_pos hE, hG] at h
  exact h

end Go.Proofs.Ytdlpaojkkekdlaa
