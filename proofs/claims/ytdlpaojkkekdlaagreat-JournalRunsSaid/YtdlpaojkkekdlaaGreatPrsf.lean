/- Lemmas and walks for the proof of RunsJ: texts one behind the other. No condition. -/
import Derived.Sort.EveryDepth
import Derived.Sort.OwnSortedInts
import Derived.Shelf.Sort.AssemblyIn
import Derived.Test.YtdlpaojkkekdlaaGreatChecked
import Derived.Test.YtdlpaojkkekdlaaGreatPrse
namespace Go.GL
open Go.Shelf Go.Sort Go.Proofs
theorem ci_of_calls {P : Program} {f : FuncId} {args : Array Value} {w : World} {R : Ending → World → Prop} (h : Calls P f args w R) : CI P f args w R := (callsIn_wide (n := 0)).2 h
/-- the numbers in their order -/
def srt (l : List Int) : List Int := l.mergeSort fun x y => decide (x ≤ y)
theorem srt_perm (l : List Int) : (srt l).Perm l := List.mergeSort_perm _ _
theorem srt_len (l : List Int) : (srt l).length = l.length := (srt_perm l).length_eq
theorem srt_nil : srt [] = [] := by unfold srt; simp
theorem srt_sorted (l : List Int) : (srt l).Pairwise (· ≤ ·) := by
  have h := List.pairwise_mergeSort (le := fun x y : Int => decide (x ≤ y)) (fun a b c h1 h2 => by simp only [decide_eq_true_eq] at *; omega) (fun a b => by simp only [Bool.or_eq_true, decide_eq_true_eq]; omega) l
  exact h.imp fun {a b} h => by simpa using h
theorem srt_of_perm {l l' : List Int} (h : l.Perm l') : srt l = srt l' := by
  refine List.Perm.eq_of_pairwise (le := fun a b : Int => a ≤ b) (fun a b _ _ h1 h2 => by omega) (srt_sorted l) (srt_sorted l') (((srt_perm l).trans h).trans (srt_perm l').symm)
theorem sortG {P : Program} {ρ : Ren} (Ly : Lays.n189 P ρ) {e g c : Nat} {l : List Int} {M : List HP} {F : List Fact} (hl : l.length < 4611686018427387904) :
    Ctr P (ρ.f 189) [.slice (some ⟨g, 0, none⟩) l.length c] (OwnSl e 1 (some ⟨g, 0, none⟩) l.length c (ints l) :: M) F Unit (fun _ => .tuple #[]) (fun _ => OwnSl e 1 (some ⟨g, 0, none⟩) l.length c (ints (srt l)) :: M) (fun _ => F) := fun w hw => by
  obtain ⟨K, ⟨K1, K2, eK, h1, h2⟩, hn, hf⟩ := hw
  rcases h1.1.2 with ⟨h0, _⟩ | ⟨g', cap', cur, hv, hbase, hb, r1, r2, r3, r4⟩
  · cases h0
  simp only [Value.slice.injEq, Option.some.injEq, Addr.mk.injEq] at hv
  obtain ⟨⟨rfl, _⟩, _, rfl⟩ := hv
  have hg : g < w.heap.size := (Array.getElem?_eq_some_iff.1 hb).1
  rw [Nat.mul_one] at r4
  have hc := calls_of_every_depth fun D => AnyS.slices_Sort_int_in Ly D g 0 c l w (holds_of_blockI hb r4) hg hl
  refine CallsIn.mono (ci_of_calls hc) ?_
  rintro e' w' ⟨rfl, n, os, rfl⟩
  refine ⟨(), rfl, ?_⟩
  obtain ⟨g1, g2, g3, g4, g5⟩ := grownBy_sortedI (w := w) (g := g) (n := n) (os := os) (srt l).toArray
  have hst : St w (OwnSl e 1 (some ⟨g, 0, none⟩) l.length c (ints l) :: M) F := ⟨K, ⟨K1, K2, eK, h1, h2⟩, hn, hf⟩
  refine hst.turn g1 g2 g3 g4 fun K' hp => ?_
  have hK' : K' = [g] := hp.2
  refine ⟨[g], ⟨?_, rfl⟩, by simp, fun b hbm => .inl (by rw [hK']; exact hbm), fun b hbl hbn => ?_⟩
  · have h9 := ownsRow_sortedI (w := w) (base := 0) (g := g) (cap := c) (n := n) (e := e) (os := os) (cur := cur) (ss := l) (ts := srt l) (srt_len l) (Nat.zero_le _) hb r1 r2 r3
    exact h9
  · refine g5 b hbl fun e2 => hbn ?_
    rw [hK']; simp at e2; simp [e2]
theorem lenG {P : Program} {ρ : Ren} (Ly : Lays.n125 P ρ) {n : Nat} {M : List HP} {F : List Fact} (hn : n < 4611686018427387904) :
    Ctr P (ρ.f 125) [U n] M F Int (fun z => I z) (fun _ => M) (fun _ => F) := fun w hw => by
  refine CallsIn.mono (ci_of_calls (calls_of_every_depth fun D => Any.lenWalkInAll Ly D n w hn)) ?_
  rintro e w' ⟨rfl, rfl⟩
  exact ⟨_, rfl, hw⟩
end Go.GL

namespace Go.Proofs.YtdlpaojkkekdlaaGreat
open Go.GL
set_option linter.unusedVariables false
theorem yd_bs22_1_0 (x0 : Int) : BuildSV Tryz.prog 22 3 1 [(0, .int .i64 x0)] [.int .i64 x0] := fun w => by kernel_rfl
theorem yd_ni22 : noInt Tryz.prog 22 = true := by kernel_rfl
theorem yd_te3 : tyElem Tryz.prog 3 1 8 = true := by kernel_rfl
theorem yd_tl22 : tySlice Tryz.prog 22 3 = true := by kernel_rfl
theorem yd_tm60 : tyMap Tryz.prog 60 3 66 = true := by kernel_rfl
theorem yd_ts22 : tyScalar Tryz.prog 22 = true := by kernel_rfl
theorem yd_ts60 : tyScalar Tryz.prog 60 = true := by kernel_rfl
def keyEnc : Int → List Value → Prop := fun n args => args = [I n]
theorem keyEnc_len (x : Int) (args : List Value) (h : keyEnc x args) : args.length = 1 := by rw [show args = [I x] from h]; rfl

theorem keys_step {keys pre left : List Int} {nk : Int} (hn : keys.Nodup) (h : (pre ++ left).Perm keys) (hm : nk ∈ left) : (pre ++ nk :: left.filter fun y => !decide (y = nk)).Perm keys ∧ ((pre ++ [nk]) ++ left.filter fun y => !decide (y = nk)).Perm keys := by
  have n2 := (List.nodup_append.1 (h.nodup_iff.2 hn)).2.1
  have h1 : (pre ++ nk :: left.filter fun y => !decide (y = nk)).Perm keys := by
    refine List.Perm.trans (List.Perm.append_left pre ?_) h
    refine (List.perm_ext_iff_of_nodup ?_ n2).2 fun a => ?_
    · rw [List.nodup_cons]
      exact ⟨fun h => by simp at h, n2.sublist List.filter_sublist⟩
    · by_cases e : a = nk
      · subst e; simp [hm]
      · simp [e]
  exact ⟨h1, by rw [List.append_assoc]; exact h1⟩

theorem keys_iter {bm m : Nat} {kvs : KV} {F : List Fact} (hk : (kvs.map Prod.fst).Nodup) : IterG Tryz.prog 68 [.pointer (some ⟨bm, 0, none⟩)] keyEnc (fun pre x => ∃ suf, (pre ++ x :: suf).Perm (kvs.map Prod.fst)) (fun xs => xs.Perm (kvs.map Prod.fst)) [Box bm 60 [.map (some m)], MpB m kvs] F := by
  intro l J hY Mi G hG
  refine Ctr.weak (M := [Box bm 60 [.map (some m)], MpB m kvs] ++ (J [] ++ Mi)) (M' := fun xs : {xs : List Int // xs.Perm (kvs.map Prod.fst)} => [Box bm 60 [.map (some m)], MpB m kvs] ++ (J xs.1 ++ Mi)) (F := G) (F' := fun _ => G) ?_ (fun w hw => hw.perm (perm_mid _ _ _)) id (fun _ => rfl) (fun i w hw => hw.perm (perm_mid _ _ _))
  refine Ctr.body Tryz.func68 rfl rfl ?_
  refine TR.seq ?_
  refine TR.region ?_
  refine RL.load1 0 rfl yd_ts60 rfl rfl rfl rfl ?_
  refine RL.ofGV rfl rfl (GV.range 1 yd_tm60 rfl rfl) (fun q => ?_)
  refine RL.nil ?_
  refine NX.seq ?_
  refine TR.block ?_
  refine TR.loopP (ι := (List Int × List Int × Option Int)) (fun x => (x.1 ++ x.2.1).Perm (kvs.map Prod.fst)) (fun x => [(0, .func (.yield l) #[] #[]), (5, .pointer (some ⟨q, 0, none⟩))]) (fun x => Box bm 60 [.map (some m)] :: RgB m q kvs x.2.1 x.2.2 :: (J x.1 ++ Mi)) (fun _ => G) (fun x => x.2.1.length) ([], kvs.map Prod.fst, none) (List.Perm.refl _) ⟨rfl, rfl, trivial⟩ (fun w hw => hw) (fun x hx => ?_)
  refine TR.seq ?_
  refine TR.region ?_
  refine RL.ofGV rfl rfl (GV.next 1 rfl rfl) (fun nx => ?_)
  obtain ⟨_ | nx, hnx⟩ := nx
  · skip
    refine RL.extract rfl rfl rfl rfl ?_
    refine RL.nil ?_
    refine NX.seq ?_
    refine TR.seq ?_
    refine TR.condF rfl ?_
    refine TR.exit ?_
    refine NX.exitThen ?_
    refine NX.exitThen ?_
    refine NX.exitHere ?_
    have hl : x.2.1 = [] := hnx
    exact NX.end0 (⟨x.1, by have h9 := hx; rw [hl, List.append_nil] at h9; exact h9⟩ : {xs : List Int // xs.Perm (kvs.map Prod.fst)}) rfl rfl (fun w hw => hw)
  · skip
    refine RL.extract rfl rfl rfl rfl ?_
    refine RL.nil ?_
    refine NX.seq ?_
    refine TR.seq ?_
    refine TR.condT rfl ?_
    refine TR.skip ?_
    refine NX.seq ?_
    refine TR.block ?_
    refine TR.seq ?_
    refine TR.region ?_
    obtain ⟨nk, nv⟩ := nx
    have hst := keys_step hk hx hnx.1
    refine RL.entry 1 rfl rfl rfl hnx.2 rfl ?_
    refine RL.extract rfl rfl rfl rfl ?_
    refine RL.assign rfl rfl rfl ?_
    refine RL.nil ?_
    refine NX.seq ?_
    refine TR.seq ?_
    refine TR.region ?_
    refine RL.move rfl rfl rfl ?_
    refine RL.move rfl rfl rfl ?_
    refine RL.callYield rfl rfl rfl rfl (YSpec.frame [_, _] (hY x.1 nk _ ⟨_, hst.1⟩ rfl ([_, _] ++ Mi) G hG)) ?_
    refine RL.not rfl rfl rfl ?_
    refine RL.nil ?_
    refine NX.seq ?_
    refine TR.condF rfl ?_
    refine TR.skip ?_
    refine NX.off ?_
    exact NX.roundP (x.1 ++ [nk], x.2.1.filter fun y => !decide (y = nk), some nk) hst.2 (left_lt hnx.1) ⟨rfl, rfl, trivial⟩ (fun w hw => hw)

theorem mkeys_spec {m : Nat} {M : List HP} {F : List Fact} : Ctr Tryz.prog 49 [.map (some m)] M F Nat (fun bm => .func (.func 68) #[] #[.pointer (some ⟨bm, 0, none⟩)]) (fun bm => Box bm 60 [.map (some m)] :: M) (fun _ => F) := by
  refine Ctr.body Tryz.func49 rfl rfl ?_
  refine TR.seq ?_
  refine TR.region ?_
  refine RL.box1 rfl rfl rfl rfl (fun b1 => ?_)
  refine RL.assign rfl rfl rfl ?_
  refine RL.nil ?_
  refine NX.seq ?_
  refine TR.seq ?_
  refine TR.region ?_
  refine RL.makeFunc rfl rfl rfl rfl ?_
  refine RL.assign rfl rfl rfl ?_
  refine RL.nil ?_
  refine NX.seq ?_
  refine TR.ret ?_
  exact NX.ret1 b1 rfl rfl rfl (fun w hw => hw)

/-- a box with a slice of numbers in it -/
def IntB (b1 : Nat) (xs : List Int) : HP := Ex (ι := Option Addr × Nat) fun i => [Box b1 22 [.slice i.1 xs.length i.2], OwnSl 3 1 i.1 xs.length i.2 (ints xs)]

theorem apseq_spec {gf : FuncId} {cap : List Value} {step : List Int → Int → Prop} {fin : List Int → Prop} {L0 M : List HP} {F : List Fact} (hcall : ∀ args w, (callFunc gf args).run Tryz.prog w = .ok (.enter gf args) w) (hit : IterG Tryz.prog gf cap keyEnc step fin L0 F) (hst : ∀ pre x, step pre x → pre.length < 1000) : Ctr Tryz.prog 84 [.slice none 0 0, .func (.func gf) #[] cap.toArray] (L0 ++ M) F {z : List Int × Option Addr × Nat // fin z.1} (fun z => .slice z.1.2.1 z.1.1.length z.1.2.2) (fun z => OwnSl 3 1 z.1.2.1 z.1.1.length z.1.2.2 (ints z.1.1) :: (L0 ++ M)) (fun _ => F) := by
  refine Ctr.bodyM Tryz.func84 rfl rfl ?_
  refine TR.seq ?_
  refine TR.region ?_
  refine RL.box1 rfl rfl rfl rfl (fun b1 => ?_)
  refine RL.assign rfl rfl rfl ?_
  refine RL.nil ?_
  refine NX.seq ?_
  refine TR.seq ?_
  refine TR.seq ?_
  refine TR.region ?_
  refine RL.move rfl rfl rfl ?_
  refine RL.nil ?_
  refine NX.seq ?_
  refine TR.block ?_
  refine TR.rangeFuncG (κ := Unit) rfl hcall (by simp) keyEnc_len hit (fun pre => [IntB b1 pre]) M (fun w hw => (by have h9 := hw.tail; exact St.exClose (M0 := fun i : Option Addr × Nat => [Box b1 22 [.slice i.1 ([] : List Int).length i.2], OwnSl 3 1 i.1 ([] : List Int).length i.2 (ints [])]) (none, 0) (show St w ([_, _] ++ (L0 ++ M)) F from (OwnSl.nil_new 3 1 hw).swap))) (fun pre x args _ => [(2, .pointer (some ⟨b1, 0, none⟩)), (5, I x)]) (fun pre x args _ => [IntB b1 pre]) ?as0 ?bd0 ?ki0
  case as0 =>
    intro l pre x args hx he Mi G hG
    obtain rfl : args = [I x] := he
    have hpl := hst pre x hx
    refine TR.region ?_
    refine RL.assign rfl rfl rfl ?_
    refine RL.nil ?_
    exact NX.meet () ⟨rfl, rfl, trivial⟩ (fun w hw => hw)
  case bd0 =>
    intro l pre x args i hx he Mi G hG
    obtain rfl : args = [I x] := he
    have hpl := hst pre x hx
    refine TR.open (fun w hw => (St.exOpen (show St w (Ex _ :: _) G from hw))) (fun oc => ?_)
    refine TR.block ?_
    refine TR.region ?_
    refine RL.load1 0 rfl yd_ts22 rfl rfl rfl rfl ?_
    refine RL.move rfl rfl rfl ?_
    refine RL.buildSlice rfl rfl (yd_bs22_1_0 _) rfl (fun b2 => ?_)
    refine RL.ofGV rfl rfl (GV.append (j := 2) yd_tl22 yd_ni22 yd_te3 rfl rfl rfl (src_box (i := 0) rfl rfl rfl) (by omega) (by omega)) (fun z => ?_)
    refine RL.store1 1 rfl yd_ts22 rfl rfl rfl rfl rfl ?_
    refine RL.nil ?_
    refine NX.off ?_
    exact fun aa w _ hw => by
      have h9 : St w (Box b1 22 [.slice z.1 (pre.length + 1) z.2] :: OwnSl 3 1 z.1 (pre.length + 1) z.2 (ints pre ++ [I x]) :: Mi) G := hw.drop 0 rfl
      refine St.exClose (M0 := fun i : Option Addr × Nat => [Box b1 22 [.slice i.1 (pre ++ [x]).length i.2], OwnSl 3 1 i.1 (pre ++ [x]).length i.2 (ints (pre ++ [x]))]) z ?_
      rw [List.length_append, show ints (pre ++ [x]) = ints pre ++ [I x] from List.map_append]
      exact h9
  case ki0 =>
    intro xs hfin D
    refine NX.off ?_
    refine NX.seq ?_
    refine TR.seq ?_
    refine TR.pick 2 [1, 0] rfl ?_
    refine TR.open (fun w hw => (St.exOpen (show St w (Ex _ :: _) F from hw))) (fun oc => ?_)
    refine TR.region ?_
    refine RL.load1 0 rfl yd_ts22 rfl rfl rfl rfl ?_
    refine RL.assign rfl rfl rfl ?_
    refine RL.nil ?_
    refine NX.seq ?_
    refine TR.ret ?_
    refine NX.retM 2 (⟨(xs, oc), hfin⟩ : {z : List Int × Option Addr × Nat // fin z.1}) rfl rfl rfl rfl (fun w hw => ?_)
    exact hw.drop 0 rfl

end Go.Proofs.YtdlpaojkkekdlaaGreat

namespace Go.Proofs
open Go.Shelf
def Tryz.lays189_ren : Go.Shelf.Ren := ⟨fun | 189 => 67 | 125 => 86 | 257 => 85 | 128 => 103 | 129 => 104 | 294 => 94 | 295 => 95 | 296 => 96 | 297 => 97 | 298 => 98 | 299 => 99 | 216 => 100 | 300 => 101 | 301 => 102 | 328 => 105 | 329 => 106 | 330 => 107 | 331 => 108 | 332 => 109 | 215 => 110 | 343 => 111 | n => n, fun | 28 => 22 | 3 => 3 | 46 => 70 | 0 => 0 | 51 => 132 | 53 => 78 | 4 => 4 | 183 => 124 | 182 => 123 | 131 => 129 | 5 => 5 | 9 => 9 | 218 => 133 | 222 => 136 | 228 => 138 | 229 => 139 | n => n, fun | n => n⟩
theorem Tryz.lays189 : Go.Proofs.Lays.n189 Tryz.prog Tryz.lays189_ren := {
  mixed := by kernel_rfl
  f125 := Tryz.func86.trans (congrArg some (by kernel_rfl))
  f128 := Tryz.func103.trans (congrArg some (by kernel_rfl))
  f129 := Tryz.func104.trans (congrArg some (by kernel_rfl))
  f189 := Tryz.func67.trans (congrArg some (by kernel_rfl))
  f215 := Tryz.func110.trans (congrArg some (by kernel_rfl))
  f216 := Tryz.func100.trans (congrArg some (by kernel_rfl))
  f257 := Tryz.func85.trans (congrArg some (by kernel_rfl))
  f294 := Tryz.func94.trans (congrArg some (by kernel_rfl))
  f295 := Tryz.func95.trans (congrArg some (by kernel_rfl))
  f296 := Tryz.func96.trans (congrArg some (by kernel_rfl))
  f297 := Tryz.func97.trans (congrArg some (by kernel_rfl))
  f298 := Tryz.func98.trans (congrArg some (by kernel_rfl))
  f299 := Tryz.func99.trans (congrArg some (by kernel_rfl))
  f300 := Tryz.func101.trans (congrArg some (by kernel_rfl))
  f301 := Tryz.func102.trans (congrArg some (by kernel_rfl))
  f328 := Tryz.func105.trans (congrArg some (by kernel_rfl))
  f329 := Tryz.func106.trans (congrArg some (by kernel_rfl))
  f330 := Tryz.func107.trans (congrArg some (by kernel_rfl))
  f331 := Tryz.func108.trans (congrArg some (by kernel_rfl))
  f332 := Tryz.func109.trans (congrArg some (by kernel_rfl))
  f343 := Tryz.func111.trans (congrArg some (by kernel_rfl))
  t0 := Tryz.underlying0
  a0 := Tryz.isAgg0
  z0 := Tryz.sizeOf0
  v0 := Tryz.zeroValue0
  t3 := Tryz.underlying3
  a3 := Tryz.isAgg3
  z3 := Tryz.sizeOf3
  v3 := Tryz.zeroValue3
  t4 := Tryz.underlying4
  a4 := Tryz.isAgg4
  z4 := Tryz.sizeOf4
  v4 := Tryz.zeroValue4
  t5 := Tryz.underlying5
  a5 := Tryz.isAgg5
  z5 := Tryz.sizeOf5
  v5 := Tryz.zeroValue5
  t9 := Tryz.underlying9
  a9 := Tryz.isAgg9
  z9 := Tryz.sizeOf9
  v9 := Tryz.zeroValue9
  t28 := Tryz.underlying22
  a28 := Tryz.isAgg22
  z28 := Tryz.sizeOf22
  v28 := Tryz.zeroValue22
  t46 := Tryz.underlying70
  a46 := Tryz.isAgg70
  z46 := Tryz.sizeOf70
  v46 := Tryz.zeroValue70
  t51 := Tryz.underlying132
  a51 := Tryz.isAgg132
  z51 := Tryz.sizeOf132
  v51 := Tryz.zeroValue132
  t53 := Tryz.underlying78
  a53 := Tryz.isAgg78
  z53 := Tryz.sizeOf78
  v53 := Tryz.zeroValue78
  t131 := Tryz.underlying129
  a131 := Tryz.isAgg129
  z131 := Tryz.sizeOf129
  v131 := Tryz.zeroValue129
  t182 := Tryz.underlying123
  a182 := Tryz.isAgg123
  z182 := Tryz.sizeOf123
  v182 := Tryz.zeroValue123
  t183 := Tryz.underlying124
  a183 := Tryz.isAgg124
  z183 := Tryz.sizeOf124
  v183 := Tryz.zeroValue124
  t218 := Tryz.underlying133
  a218 := Tryz.isAgg133
  z218 := Tryz.sizeOf133
  v218 := Tryz.zeroValue133
  t222 := Tryz.underlying136
  a222 := Tryz.isAgg136
  z222 := Tryz.sizeOf136
  v222 := Tryz.zeroValue136
  t228 := Tryz.underlying138
  a228 := Tryz.isAgg138
  z228 := Tryz.sizeOf138
  v228 := Tryz.zeroValue138
  t229 := Tryz.underlying139
  a229 := Tryz.isAgg139
  z229 := Tryz.sizeOf139
  v229 := Tryz.zeroValue139 }
end Go.Proofs

namespace Go.Proofs.YtdlpaojkkekdlaaGreat
open Go.GL
set_option linter.unusedVariables false
theorem ye_tf62_0 : fieldOff Tryz.prog 62 0 0 = true := by kernel_rfl
theorem ye_ti3 : tyInt Tryz.prog 3 .i64 = true := by kernel_rfl
theorem ye_ti70 : tyInt Tryz.prog 70 .u64 = true := by kernel_rfl
theorem ye_tl22 : tySlice Tryz.prog 22 3 = true := by kernel_rfl
theorem ye_ts60 : tyScalar Tryz.prog 60 = true := by kernel_rfl
theorem collect_spec {gf : FuncId} {cap : List Value} {step : List Int → Int → Prop} {fin : List Int → Prop} {L0 M : List HP} {F : List Fact} (hcall : ∀ args w, (callFunc gf args).run Tryz.prog w = .ok (.enter gf args) w) (hit : IterG Tryz.prog gf cap keyEnc step fin L0 F) (hst : ∀ pre x, step pre x → pre.length < 1000) : Ctr Tryz.prog 66 [.func (.func gf) #[] cap.toArray] (L0 ++ M) F {z : List Int × Option Addr × Nat // fin z.1} (fun z => .slice z.1.2.1 z.1.1.length z.1.2.2) (fun z => OwnSl 3 1 z.1.2.1 z.1.1.length z.1.2.2 (ints z.1.1) :: (L0 ++ M)) (fun _ => F) := by
  refine Ctr.body Tryz.func66 rfl rfl ?_
  refine TR.seq ?_
  refine TR.region ?_
  refine RL.assign rfl rfl rfl ?_
  refine RL.nil ?_
  refine NX.seq ?_
  refine TR.seq ?_
  refine TR.region ?_
  refine RL.move rfl rfl rfl ?_
  refine RL.call rfl rfl Tryz.call84 rfl (apseq_spec hcall hit hst) (fun z => ?_)
  refine RL.assign rfl rfl rfl ?_
  refine RL.nil ?_
  refine NX.seq ?_
  refine TR.ret ?_
  exact NX.ret1 z rfl rfl rfl (fun w hw => hw)

theorem sort_nil {M : List HP} {F : List Fact} : Ctr Tryz.prog 67 [.slice none 0 0] (OwnSl 3 1 none 0 0 (ints []) :: M) F Unit (fun _ => .tuple #[]) (fun _ => OwnSl 3 1 none 0 0 (ints []) :: M) (fun _ => F) := by
  refine Ctr.body Tryz.func67 rfl rfl ?_
  refine TR.seq ?_
  refine TR.region ?_
  refine RL.move rfl rfl rfl ?_
  refine RL.lenSlice rfl ye_tl22 rfl rfl ?_
  refine RL.assign rfl rfl rfl ?_
  refine RL.nil ?_
  refine NX.seq ?_
  refine TR.region ?_
  refine RL.move rfl rfl rfl ?_
  refine RL.move rfl rfl rfl ?_
  refine RL.move rfl rfl rfl ?_
  refine RL.conv rfl rfl (ConvV.iu (n := 0) ye_ti3 ye_ti70 (by decide)) rfl ?_
  refine RL.call rfl rfl Tryz.call86 rfl (lenG (ρ := Tryz.lays189_ren) { Tryz.lays189 with } (n := 0) (by decide)) (fun zl => ?_)
  refine RL.call rfl rfl Tryz.call85 rfl (pdq_spec (l0 := []) (by decide) (by decide)) (fun z => ?_)
  refine RL.nil ?_
  exact NX.end0 () rfl rfl (fun w hw => by have h9 := List.perm_nil.1 z.2.1; rw [h9] at hw; exact hw)

theorem sort_spec {l : List Int} {oa : Option Addr} {c : Nat} {M : List HP} {F : List Fact} (hl : l.length < 4611686018427387904) :
    Ctr Tryz.prog 67 [.slice oa l.length c] (OwnSl 3 1 oa l.length c (ints l) :: M) F Unit (fun _ => .tuple #[]) (fun _ => OwnSl 3 1 oa l.length c (ints (srt l)) :: M) (fun _ => F) := by
  have key : ∀ w, St w (OwnSl 3 1 oa l.length c (ints l) :: M) F → (oa = none ∧ l = [] ∧ c = 0) ∨ ∃ g, oa = some ⟨g, 0, none⟩ := by
    intro w hw
    obtain ⟨K, ⟨K1, K2, eK, h1, h2⟩, hn, hf⟩ := hw
    rcases h1.1.2 with ⟨h0, h0'⟩ | ⟨g', cap', cur, hv, _⟩
    · simp only [Value.slice.injEq] at h0
      exact .inl ⟨h0.1, List.length_eq_zero_iff.1 h0.2.1, h0.2.2⟩
    · simp only [Value.slice.injEq] at hv
      exact .inr ⟨g', hv.1⟩
  intro w hw
  rcases key w hw with ⟨rfl, rfl, rfl⟩ | ⟨g, rfl⟩
  · rw [srt_nil]; exact sort_nil w hw
  · exact sortG Tryz.lays189 hl w hw

theorem sorted_spec {gf : FuncId} {cap : List Value} {step : List Int → Int → Prop} {fin : List Int → Prop} {L0 M : List HP} {F : List Fact} (hcall : ∀ args w, (callFunc gf args).run Tryz.prog w = .ok (.enter gf args) w) (hit : IterG Tryz.prog gf cap keyEnc step fin L0 F) (hst : ∀ pre x, step pre x → pre.length < 1000) (hfl : ∀ xs, fin xs → xs.length ≤ 1000) : Ctr Tryz.prog 48 [.func (.func gf) #[] cap.toArray] (L0 ++ M) F {z : List Int × Option Addr × Nat // fin z.1} (fun z => .slice z.1.2.1 z.1.1.length z.1.2.2) (fun z => OwnSl 3 1 z.1.2.1 z.1.1.length z.1.2.2 (ints (srt z.1.1)) :: (L0 ++ M)) (fun _ => F) := by
  refine Ctr.body Tryz.func48 rfl rfl ?_
  refine TR.seq ?_
  refine TR.region ?_
  refine RL.assign rfl rfl rfl ?_
  refine RL.nil ?_
  refine NX.seq ?_
  refine TR.seq ?_
  refine TR.region ?_
  refine RL.move rfl rfl rfl ?_
  refine RL.call rfl rfl Tryz.call66 rfl (collect_spec hcall hit hst) (fun z => ?_)
  refine RL.assign rfl rfl rfl ?_
  refine RL.nil ?_
  refine NX.seq ?_
  refine TR.seq ?_
  refine TR.region ?_
  refine RL.move rfl rfl rfl ?_
  refine RL.call rfl rfl Tryz.call67 rfl (sort_spec (by have := hfl z.1.1 z.2; omega)) (fun _ => ?_)
  refine RL.nil ?_
  refine NX.seq ?_
  refine TR.seq ?_
  refine TR.region ?_
  refine RL.move rfl rfl rfl ?_
  refine RL.assign rfl rfl rfl ?_
  refine RL.nil ?_
  refine NX.seq ?_
  refine TR.ret ?_
  exact NX.ret1 z rfl rfl rfl (fun w hw => hw)

theorem fs_few {fs : Fs} (h : OkF fs) : fs.length ≤ 64 := by
  have h1 : (fs.map fun p => p.1.toNat).Nodup := by
    have h2 := h.keys
    unfold List.Nodup at h2 ⊢
    rw [List.pairwise_map] at h2 ⊢
    refine h2.imp_of_mem fun {a b} ha hb hne e => hne ?_
    have := h.fits a ha; have := h.fits b hb; omega
  obtain ⟨js, hp⟩ := nodup_subperm (k := 64) h1 fun a ha => by
    obtain ⟨p, hp, rfl⟩ := List.mem_map.1 ha
    have := h.fits p hp
    omega
  have h4 := hp.length_eq
  rw [List.length_append, List.length_map, List.length_range] at h4
  omega

theorem files_spec {b : Nat} {s : Ds} {M : List HP} {F : List Fact} (hok : OkF s.fs) : Ctr Tryz.prog 29 [.pointer (some ⟨b, 0, none⟩)] (Box b 62 (dkC s) :: MpB s.m (fsV s.fs) :: M) F (Option Addr × Nat) (fun z => .slice z.1 (srt (s.fs.map Prod.fst)).length z.2) (fun z => OwnSl 3 1 z.1 (srt (s.fs.map Prod.fst)).length z.2 (ints (srt (s.fs.map Prod.fst))) :: Box b 62 (dkC s) :: MpB s.m (fsV s.fs) :: M) (fun _ => F) := by
  refine Ctr.body Tryz.func29 rfl rfl ?_
  refine TR.seq ?_
  refine TR.region ?_
  refine RL.assign rfl rfl rfl ?_
  refine RL.nil ?_
  refine NX.seq ?_
  refine TR.seq ?_
  refine TR.region ?_
  refine RL.move rfl rfl rfl ?_
  refine RL.nilCheck rfl rfl rfl ?_
  refine RL.fieldAddr rfl ye_tf62_0 rfl rfl ?_
  refine RL.load1 0 rfl ye_ts60 rfl rfl rfl rfl ?_
  refine RL.call rfl rfl Tryz.call49 rfl (mkeys_spec) (fun bm => ?_)
  refine RL.call rfl rfl Tryz.call48 rfl (Ctr.pick 3 [0, 2, 1] rfl (sorted_spec (L0 := [Box bm 60 [.map (some s.m)], MpB s.m (fsV s.fs)]) Tryz.call68 (keys_iter (by rw [fsV_keys]; exact hok.keys)) (fun pre x ⟨suf, hp⟩ => by have h9 := hp.length_eq; rw [fsV_keys, List.length_append, List.length_cons, List.length_map] at h9; have := fs_few hok; omega) (fun xs hp => by have h9 := hp.length_eq; rw [fsV_keys, List.length_map] at h9; have := fs_few hok; omega))) (fun z => ?_)
  refine RL.assign rfl rfl rfl ?_
  refine RL.nil ?_
  refine NX.seq ?_
  refine TR.ret ?_
  have hz : srt z.1.1 = srt (s.fs.map Prod.fst) := srt_of_perm (z.2.trans (List.Perm.of_eq (fsV_keys _)))
  have hzl : z.1.1.length = (srt (s.fs.map Prod.fst)).length := by rw [← hz, srt_len]
  refine NX.ret1 (z.1.2.1, z.1.2.2) rfl rfl (by rw [hzl]) (fun w hw => ?_)
  have h9 := (hw.to 4 [0, 3, 2] 0 [] rfl)
  rw [hz, hzl] at h9
  exact h9

end Go.Proofs.YtdlpaojkkekdlaaGreat

namespace Go.GL
set_option linter.unusedVariables false
theorem nodup_inj {α : Type} {l : List α} (h : l.Nodup) {i j : Nat} (hi : i < l.length) (hj : j < l.length) (e : l[i] = l[j]) : i = j := by
  have h1 := List.pairwise_iff_getElem.1 h
  rcases Nat.lt_trichotomy i j with h2 | h2 | h2
  · exact absurd e (h1 i j hi hj h2)
  · exact h2
  · exact absurd e.symm (h1 j i hj hi h2)
theorem filesB_mem {B : Nat → List UInt8} {n : Nat} : n ∈ filesB B ↔ n < 64 ∧ B n ≠ [] := by
  unfold filesB
  rw [List.mem_filter, List.mem_range]
  simp
theorem filesB_nodup (B : Nat → List UInt8) : (filesB B).Nodup := List.nodup_range.sublist List.filter_sublist
theorem filesB_len (B : Nat → List UInt8) : (filesB B).length ≤ 64 := by
  have := List.length_filter_le (fun n => !(B n).isEmpty) (List.range 64)
  simpa [filesB] using this
theorem vB_empty {fs : Fs} {n : Nat} (h : ∀ p, p ∈ fs → p.1 ≠ n) : fget fs n = fl0 := by
  rcases fget_in (fs := fs) (k := (n : Int)) with e | e
  · exact e
  · exact absurd rfl (h _ e)
theorem key_file {fs : Fs} (h : OkF fs) {n : Nat} : (n : Int) ∈ fs.map Prod.fst ↔ n ∈ filesB (vB fs) := by
  rw [filesB_mem]
  constructor
  · intro hm
    obtain ⟨p, hp, e⟩ := List.mem_map.1 hm
    have h1 := h.fits p hp
    have h2 : fget fs n = p.2 := fget_mem h.keys (by rw [← e]; exact hp)
    exact ⟨by omega, by unfold vB; rw [h2]; exact h.some p hp⟩
  · rintro ⟨h1, h2⟩
    rcases fget_in (fs := fs) (k := (n : Int)) with e | e
    · exact absurd (by unfold vB; rw [e]; rfl) h2
    · exact List.mem_map_of_mem (f := Prod.fst) e
theorem files_srt {fs : Fs} (h : OkF fs) : srt (fs.map Prod.fst) = (filesB (vB fs)).map fun n : Nat => (n : Int) := by
  have h1 : ((filesB (vB fs)).map fun n : Nat => (n : Int)).Pairwise (· ≤ ·) := by
    rw [List.pairwise_map]
    have h3 : (filesB (vB fs)).Pairwise (· < ·) := List.pairwise_lt_range.sublist List.filter_sublist
    exact h3.imp fun {a b} h => by omega
  have hnd : ((filesB (vB fs)).map fun n : Nat => (n : Int)).Nodup := by
    unfold List.Nodup
    rw [List.pairwise_map]
    exact (filesB_nodup (vB fs)).imp fun {a b} h => by omega
  have h2 : (fs.map Prod.fst).Perm ((filesB (vB fs)).map fun n : Nat => (n : Int)) := by
    refine (List.perm_ext_iff_of_nodup h.keys hnd).2 fun a => ?_
    constructor
    · intro ha
      obtain ⟨p, hp, e⟩ := List.mem_map.1 ha
      have h3 := h.fits p hp
      obtain ⟨n, hn⟩ : ∃ n : Nat, a = n := ⟨a.toNat, by omega⟩
      subst hn
      exact List.mem_map_of_mem ((key_file h).1 ha)
    · intro ha
      obtain ⟨n, hn, rfl⟩ := List.mem_map.1 ha
      exact (key_file h).2 hn
  exact List.Perm.eq_of_pairwise (le := fun a b : Int => a ≤ b) (fun a b _ _ h1 h2 => by omega) (srt_sorted _) h1 ((srt_perm _).trans h2)
theorem CrSt.init {s : Ds} {keep : List Int} (h : OkF s.fs) : CrSt s keep 0 s.fs [] := ⟨h, rfl, rfl, fun r hr => absurd hr (by simp), fun r hr => absurd hr (by simp), fun _ _ => rfl⟩
theorem CrSt.fresh {s : Ds} {keep : List Int} {i : Nat} {fs : Fs} {rs : List CrR} (h : CrSt s keep i fs rs) (hi : i < (filesB (vB s.fs)).length) : (filesB (vB s.fs))[i] ∉ rs.map CrR.n := by
  rw [h.n]
  intro hm
  obtain ⟨j, hj, e⟩ := List.getElem_of_mem hm
  rw [List.length_take] at hj
  rw [List.getElem_take] at e
  have h1 := nodup_inj (filesB_nodup (vB s.fs)) _ _ e
  omega
theorem fget_setF {fs : Fs} {n k : Int} {f : Fl} (hk : (fs.map Prod.fst).Nodup) : fget (setF fs n f) k = if k = n then (if f.b = [] then fl0 else f) else fget fs k := by
  have hdel : ∀ (l : Fs), (l.map Prod.fst).Nodup → ∀ k, fget (fdel l n) k = if k = n then fl0 else fget l k := by
    intro l
    induction l with
    | nil => intro _ k; simp [fdel, fget]
    | cons p l ih =>
      intro hn k
      rw [List.map_cons, List.nodup_cons] at hn
      rw [fdel]
      by_cases e : p.1 = n
      · rw [if_pos e]
        by_cases e2 : k = n
        · rw [if_pos e2]
          rcases fget_in (fs := l) (k := k) with e3 | e3
          · exact e3
          · exact absurd (by rw [e, ← e2]; exact List.mem_map_of_mem (f := Prod.fst) e3) hn.1
        · rw [if_neg e2, fget, if_neg (fun e3 => e2 (by rw [← e3, e]))]
      · rw [if_neg e, fget, fget]
        by_cases e2 : p.1 = k
        · rw [if_pos e2, if_pos e2, if_neg (fun e3 => e (by rw [e2, e3]))]
        · rw [if_neg e2, if_neg e2, ih hn.2]
  have hset : fget (fset fs n f) k = if k = n then f else fget fs k := by
    by_cases e : k = n
    · rw [if_pos e, e, fget_set]
    · rw [if_neg e, fget_other _ _ _ _ e]
  unfold Go.GL.setF
  by_cases h0 : f.b.length = 0
  · rw [if_pos h0, hdel _ (fset_keys hk), if_pos (List.eq_nil_of_length_eq_zero h0)]
    by_cases e : k = n
    · rw [if_pos e, if_pos e]
    · rw [if_neg e, if_neg e, hset, if_neg e]
  · rw [if_neg h0, hset]
    by_cases e : k = n
    · rw [if_pos e, if_pos e, if_neg (fun e => h0 (by rw [e]; rfl))]
    · rw [if_neg e, if_neg e]
theorem CrSt.step {s : Ds} {keep : List Int} {i : Nat} {fs : Fs} {rs : List CrR} (h : CrSt s keep i fs rs) (hok : OkF s.fs) (hi : i < (filesB (vB s.fs)).length) {r : CrR} (hn : r.n = (filesB (vB s.fs))[i]) (hb : r.b = cutB (vB s.fs) (vD s.fs) keep r.n)
    (hd : r.d = vD s.fs r.n) (hl : r.d ≤ r.b.length) (hc : r.b.length ≤ r.c) : CrSt s keep (i + 1) (setF fs r.n r.f) (rs ++ [r]) := by
  have hf := h.fresh hi
  have hm := (filesB_mem.1 (List.getElem_mem hi)).1
  have hrn : r.n < 64 := by rw [hn]; exact hm
  have hth : there (r.n : Int) := ⟨by omega, by omega⟩
  refine ⟨h.ok.setF hth ⟨hc, hl⟩, by rw [List.length_append, h.len]; rfl, ?_, ?_, ?_, ?_⟩
  · rw [List.map_append, h.n, List.map_singleton, hn, List.take_succ_eq_append_getElem hi]
  · intro q hq
    rcases List.mem_append.1 hq with hq | hq
    · exact h.b q hq
    · rw [List.mem_singleton.1 hq]; exact ⟨hb, hd, hl, hc⟩
  · intro q hq
    rw [fget_setF h.ok.keys]
    rcases List.mem_append.1 hq with hq | hq
    · have hne : q.n ≠ r.n := fun e => hf (by rw [← hn, ← e]; exact List.mem_map_of_mem hq)
      rw [if_neg (fun e => hne (by omega))]
      exact h.done q hq
    · rw [List.mem_singleton.1 hq, if_pos rfl]; rfl
  · intro k hk
    rw [List.map_append, List.map_singleton, List.mem_append, not_or] at hk
    rw [fget_setF h.ok.keys, if_neg (fun e => hk.2 (by rw [List.mem_singleton]; omega))]
    exact h.rest k hk.1
theorem idx_files {B : Nat → List UInt8} {i : Nat} (hi : i < (filesB B).length) : (filesB B).idxOf (filesB B)[i] = i := List.Nodup.idxOf_getElem (filesB_nodup B) i hi
theorem cut_at {s : Ds} {keep : List Int} {i : Nat} (hi : i < (filesB (vB s.fs)).length) : cutB (vB s.fs) (vD s.fs) keep (filesB (vB s.fs))[i] = (vB s.fs (filesB (vB s.fs))[i]).take (vD s.fs (filesB (vB s.fs))[i] + keepK keep i ((vB s.fs (filesB (vB s.fs))[i]).length - vD s.fs (filesB (vB s.fs))[i])) := by
  unfold cutB; rw [idx_files hi]
/-- what is left when all files have been cut -/
structure CrFin (s : Ds) (keep : List Int) (fs : Fs) (rs : List CrR) : Prop where
  ok : OkF fs
  n : rs.map CrR.n = filesB (vB s.fs)
  b : ∀ r, r ∈ rs → r.b = cutB (vB s.fs) (vD s.fs) keep r.n ∧ r.d = vD s.fs r.n ∧ r.d ≤ r.b.length ∧ r.b.length ≤ r.c
  mem : ∀ p, p ∈ fs → ∃ r, r ∈ rs ∧ (r.n : Int) = p.1 ∧ p.2 = r.f
  at_ : ∀ n, n < 64 → vB fs n = cutB (vB s.fs) (vD s.fs) keep n
theorem CrSt.fin {s : Ds} {keep : List Int} {fs : Fs} {rs : List CrR} (h : CrSt s keep (filesB (vB s.fs)).length fs rs) (hok : OkF s.fs) : CrFin s keep fs rs := by
  have hn : rs.map CrR.n = filesB (vB s.fs) := by rw [h.n, List.take_length]
  refine ⟨h.ok, hn, h.b, fun p hp => ?_, fun n hn64 => ?_⟩
  · have h1 := h.ok.fits p hp
    obtain ⟨k, hk⟩ : ∃ k : Nat, p.1 = k := ⟨p.1.toNat, by omega⟩
    have h2 : fget fs k = p.2 := fget_mem h.ok.keys (by rw [← hk]; exact hp)
    by_cases hm : k ∈ rs.map CrR.n
    · obtain ⟨r, hr, e⟩ := List.mem_map.1 hm
      have h3 := h.done r hr
      rw [e, h2] at h3
      refine ⟨r, hr, by omega, ?_⟩
      by_cases e2 : r.b = []
      · rw [if_pos e2] at h3
        exact absurd (by rw [h3]; rfl) (h.ok.some p hp)
      · rw [if_neg e2] at h3; exact h3
    · have h3 := h.rest k hm
      rw [hn] at hm
      exfalso
      refine hm (filesB_mem.2 ⟨by omega, ?_⟩)
      unfold vB
      rw [← h3, h2]
      exact h.ok.some p hp
  · by_cases hm : n ∈ rs.map CrR.n
    · obtain ⟨r, hr, e⟩ := List.mem_map.1 hm
      have h3 := h.done r hr
      rw [e] at h3
      show (fget fs n).b = _
      rw [h3]
      have h4 := (h.b r hr).1
      rw [e] at h4
      by_cases e2 : r.b = []
      · rw [if_pos e2]; show [] = _; rw [← h4, e2]
      · rw [if_neg e2]; exact h4
    · have h3 := h.rest n hm
      rw [hn] at hm
      have h4 : vB s.fs n = [] := by
        by_cases e : vB s.fs n = []
        · exact e
        · exact absurd (filesB_mem.2 ⟨hn64, e⟩) hm
      show (fget fs n).b = _
      rw [h3]
      show vB s.fs n = _
      unfold cutB; rw [h4, List.take_nil]
theorem crLoose_eq {s : Ds} {keep : List Int} {fs : Fs} {rs : List CrR} (h : CrFin s keep fs rs) : (crLoose rs).map (fun x => (x.1.n, x.2)) = looseB (vB s.fs) (vD s.fs) keep := by
  unfold crLoose looseB
  rw [← h.n, List.map_flatMap, List.flatMap_map]
  have h1 : ∀ (l : List CrR), (∀ r, r ∈ l → r ∈ rs) → l.flatMap (fun a => List.map (fun x : CrR × Nat => (x.1.n, x.2)) (List.map (fun j => (a, j)) (List.range' a.d (a.b.length - a.d)))) = l.flatMap fun a => List.map (fun j => (a.n, j)) (List.range' (vD s.fs a.n) ((cutB (vB s.fs) (vD s.fs) keep a.n).length - vD s.fs a.n)) := by
    intro l
    induction l with
    | nil => intro _; rfl
    | cons r l ih =>
      intro hl
      rw [List.flatMap_cons, List.flatMap_cons, ih (fun q hq => hl q (.tail _ hq))]
      have h2 := h.b r (hl r (.head _))
      rw [List.map_map, ← h2.1, ← h2.2.1]
      rfl
  exact h1 rs fun r hr => hr
/-- one bit of one file inverted -/
def flipF (fs : Fs) (n j r : Nat) : Fs := fs.map fun p => if p.1 = (n : Int) then (p.1, { p.2 with b := turnB p.2.b j r }) else p
theorem flipF_fsV (fs : Fs) (n j r : Nat) : fsV (flipF fs n j r) = fsV fs := by
  unfold fsV flipF
  rw [List.map_map]
  refine List.map_congr_left fun p _ => ?_
  show ((if p.1 = (n : Int) then (p.1, { p.2 with b := turnB p.2.b j r }) else p).1, flV (if p.1 = (n : Int) then (p.1, { p.2 with b := turnB p.2.b j r }) else p).2) = _
  split
  · show (p.1, flV { p.2 with b := turnB p.2.b j r }) = _
    unfold flV flC; simp only [turnB_len]
  · rfl
theorem fget_flipF (n j r : Nat) : ∀ (fs : Fs) (k : Nat), vB (flipF fs n j r) k = if k = n then turnB (vB fs k) j r else vB fs k
  | [], k => by
    show [] = if k = n then turnB [] j r else []
    unfold turnB; simp
  | p :: l, k => by
    have e0 : flipF (p :: l) n j r = (if p.1 = (n : Int) then (p.1, { p.2 with b := turnB p.2.b j r }) else p) :: flipF l n j r := rfl
    have e1 : (if p.1 = (n : Int) then (p.1, { p.2 with b := turnB p.2.b j r }) else p).1 = p.1 := by split <;> rfl
    unfold vB
    rw [e0, fget, e1, fget]
    by_cases e : p.1 = (k : Int)
    · rw [if_pos e, if_pos e]
      by_cases e2 : k = n
      · rw [if_pos e2, if_pos (by rw [e, e2])]
      · rw [if_neg e2, if_neg (by rw [e]; omega)]
    · rw [if_neg e, if_neg e]; exact fget_flipF n j r l k
theorem OkF.flip {fs : Fs} {n j r : Nat} (h : OkF fs) : OkF (flipF fs n j r) := by
  have e1 : ∀ p : Int × Fl, (if p.1 = (n : Int) then (p.1, { p.2 with b := turnB p.2.b j r }) else p).1 = p.1 := fun p => by split <;> rfl
  have hk : (flipF fs n j r).map Prod.fst = fs.map Prod.fst := by
    unfold flipF; rw [List.map_map]; exact List.map_congr_left fun p _ => e1 p
  refine ⟨by rw [hk]; exact h.keys, fun p hp => ?_, fun p hp => ?_, fun p hp => ?_⟩ <;> obtain ⟨q, hq, rfl⟩ := List.mem_map.1 hp
  · rw [e1]; exact h.fits q hq
  · split
    · show (turnB q.2.b j r).length ≤ q.2.c ∧ q.2.dur ≤ (turnB q.2.b j r).length
      rw [turnB_len]; exact h.each q hq
    · exact h.each q hq
  · split
    · intro e
      have := congrArg List.length e
      rw [turnB_len] at this
      exact h.some q hq (List.eq_nil_of_length_eq_zero this)
    · exact h.some q hq
/-- the files that a crash leaves, ahead of the hardening -/
structure CrEnd (s : Ds) (keep : List Int) (flip : Int) (fs : Fs) : Prop where
  ok : OkF fs
  b : ∀ n, n < 64 → vB fs n = crashB (vB s.fs) (vD s.fs) keep flip n
theorem CrFin.noFlip {s : Ds} {keep : List Int} {fs : Fs} {rs : List CrR} {flip : Int} (h : CrFin s keep fs rs) (hf : flip < 0 ∨ (crLoose rs).length = 0) : CrEnd s keep flip fs := by
  refine ⟨h.ok, fun n hn => ?_⟩
  rw [h.at_ n hn]
  unfold crashB
  split
  · rfl
  · rename_i h0
    have h1 := hf.resolve_left h0
    have h2 := congrArg List.length (crLoose_eq h)
    rw [List.length_map, h1] at h2
    rw [List.eq_nil_of_length_eq_zero h2.symm]
    rfl
theorem CrFin.flip {s : Ds} {keep : List Int} {fs : Fs} {rs : List CrR} {flip : Int} (h : CrFin s keep fs rs) (hf : ¬ flip < 0) (q : Nat) (hq : q = flip.toNat % (8 * (crLoose rs).length)) (h1 : q / 8 < (crLoose rs).length) :
    CrEnd s keep flip (flipF fs (crLoose rs)[q / 8].1.n (crLoose rs)[q / 8].2 (q % 8)) := by
  have h2 := crLoose_eq h
  have hl : (looseB (vB s.fs) (vD s.fs) keep).length = (crLoose rs).length := by rw [← h2, List.length_map]
  refine ⟨h.ok.flip, fun n hn => ?_⟩
  rw [fget_flipF, h.at_ n hn]
  unfold crashB
  rw [if_neg hf, hl, ← hq]
  have h3 : (looseB (vB s.fs) (vD s.fs) keep)[q / 8]? = some ((crLoose rs)[q / 8].1.n, (crLoose rs)[q / 8].2) := by
    rw [← h2, List.getElem?_map, List.getElem?_eq_getElem h1]; rfl
  rw [h3]
theorem CrEnd.crash {s : Ds} {keep : List Int} {flip : Int} {fs : Fs} (h : CrEnd s keep flip fs) : CrashR s keep flip ⟨s.m, hard fs, s.room, false, false, s.left⟩ :=
  ⟨rfl, rfl, rfl, rfl, rfl, h.ok.hard, fun n hn => by
    show vB (hard fs) n = _
    unfold vB; rw [fget_hard]; exact h.b n hn, fun n _ => by
    show vD (hard fs) n = (vB (hard fs) n).length
    unfold vD vB; rw [fget_hard]; rfl⟩
/-! ### In memory -/
theorem St.crKeep {w : World} {e : Nat} : ∀ {rs : List CrR} {M : List HP} {F : List Fact}, St w (rs.map (crOwn e) ++ M) F → ∃ G : List Fact, (∀ φ, φ ∈ F → φ ∈ G) ∧ (∀ r, r ∈ rs → ArrF r.oa (bytesV r.b) ∈ G) ∧ St w M G
  | [], M, F, h => ⟨F, fun _ h => h, fun r hr => absurd hr (by simp), h⟩
  | r :: rs, M, F, h => by
    have h1 : St w (rs.map (crOwn e) ++ M) (ArrF r.oa (bytesV r.b) :: F) := St.keepSl (M := rs.map (crOwn e) ++ M) h
    obtain ⟨G, g1, g2, g3⟩ := St.crKeep h1
    refine ⟨G, fun φ hφ => g1 φ (.tail _ hφ), fun q hq => ?_, g3⟩
    rcases List.mem_cons.1 hq with e1 | hq
    · rw [e1]; exact g1 _ (.head _)
    · exact g2 q hq
theorem St.crAll {w : World} {e : Nat} {rs : List CrR} {M : List HP} {F : List Fact} {fs : Fs} (h : St w (Al (rs.map (crOwn e)) :: M) F) (hm : ∀ p, p ∈ fs → ∃ r, r ∈ rs ∧ p.2.oa = r.oa ∧ p.2.b = r.b) : St w M (AllF fs :: F) := by
  obtain ⟨G, g1, g2, g3⟩ := St.crKeep h.alOpen
  have h1 := g3.derive (ψ := AllF fs) fun K hf p hp => by
    obtain ⟨r, hr, e1, e2⟩ := hm p hp
    rw [e1, e2]
    exact hf _ (g2 r hr)
  refine h1.facts fun φ hφ => ?_
  rcases List.mem_cons.1 hφ with e | hφ
  · exact e ▸ .head _
  · exact .tail _ (g1 φ hφ)
/-- a row with one bit inverted -/
def CrR.turn (r : CrR) (j q : Nat) : CrR := { r with b := turnB r.b j q }
theorem turn_mem {s : Ds} {keep : List Int} {fs : Fs} {rs : List CrR} (h : CrFin s keep fs rs) {i j q : Nat} (hi : i < rs.length) : ∀ p, p ∈ flipF fs rs[i].n j q → ∃ r, r ∈ rs.take i ++ rs[i].turn j q :: rs.drop (i + 1) ∧ p.2.oa = r.oa ∧ p.2.b = r.b := by
  intro p hp
  obtain ⟨p0, hp0, rfl⟩ := List.mem_map.1 hp
  obtain ⟨r, hr, e1, e2⟩ := h.mem p0 hp0
  have hnd : (rs.map CrR.n).Nodup := by rw [h.n]; exact filesB_nodup _
  by_cases e : p0.1 = (rs[i].n : Int)
  · rw [if_pos e]
    have hrr : r = rs[i] := by
      obtain ⟨k, hk, ek⟩ := List.getElem_of_mem hr
      have h3 : (rs.map CrR.n)[k]'(by simpa using hk) = (rs.map CrR.n)[i]'(by simpa using hi) := by
        rw [List.getElem_map, List.getElem_map, ek]; omega
      have := nodup_inj hnd _ _ h3
      subst this
      exact ek.symm
    refine ⟨rs[i].turn j q, by simp, ?_, ?_⟩
    · show p0.2.oa = _; rw [e2, hrr]; rfl
    · show turnB p0.2.b j q = _; rw [e2, hrr]; rfl
  · rw [if_neg e]
    refine ⟨r, ?_, by rw [e2]; rfl, by rw [e2]; rfl⟩
    obtain ⟨k, hk, ek⟩ := List.getElem_of_mem hr
    have hki : k ≠ i := fun e3 => e (by subst e3; rw [ek]; omega)
    rw [List.mem_append, List.mem_cons]
    rcases Nat.lt_or_gt_of_ne hki with h4 | h4
    · refine .inl ?_
      rw [← ek]
      exact List.mem_take_iff_getElem.2 ⟨k, by omega, rfl⟩
    · refine .inr (.inr ?_)
      rw [← ek]
      exact List.mem_drop_iff_getElem.2 ⟨k - (i + 1), by omega, by congr 1; omega⟩
theorem crPtrs_len (rs : List CrR) : (crPtrs rs).length = (crLoose rs).length := by unfold crPtrs; rw [List.length_map]
theorem crPtrs_one (rs : List CrR) : (crPtrs rs).all Value.oneCell' = true := by
  unfold crPtrs
  rw [List.all_map, List.all_eq_true]
  intro x _; rfl
theorem keepK_some {keep : List Int} {i room : Nat} {v : Int} (h : keep[i]? = some v) : ((keepK keep i room : Nat) : Int) = max 0 (min v (room : Int)) := by
  unfold keepK; rw [h]; show (((max 0 (min v (room : Int))).toNat : Nat) : Int) = _; omega
theorem keepK_none {keep : List Int} {i room : Nat} (h : keep.length ≤ i) : keepK keep i room = 0 := by
  unfold keepK; rw [List.getElem?_eq_none h]
theorem crLoose_bound {m : Nat} : ∀ {rs : List CrR}, (∀ r, r ∈ rs → r.b.length ≤ m) → (crLoose rs).length ≤ rs.length * m
  | [], _ => by simp [crLoose]
  | r :: rs, h => by
    have e : crLoose (r :: rs) = (List.range' r.d (r.b.length - r.d)).map (fun j => (r, j)) ++ crLoose rs := rfl
    rw [e, List.length_append, List.length_map, List.length_range', List.length_cons, Nat.succ_mul]
    have h1 := h r (.head _)
    have h2 := crLoose_bound (rs := rs) fun q hq => h q (.tail _ hq)
    omega
/-- the pointers of the rows, and of those bytes of one more that have been met -/
def crPL (rs : List CrR) (r : CrR) (j : Nat) : List Value := crPtrs rs ++ (List.range' r.d (j - r.d)).map (crPtr r)
theorem crPL_start (rs : List CrR) (r : CrR) : crPL rs r r.d = crPtrs rs := by unfold crPL; rw [Nat.sub_self]; simp
theorem crPL_step {rs : List CrR} {r : CrR} {j : Nat} (h : r.d ≤ j) : crPL rs r (j + 1) = crPL rs r j ++ [crPtr r j] := by
  unfold crPL
  rw [show j + 1 - r.d = (j - r.d) + 1 from by omega, List.range'_concat, List.map_append, List.append_assoc]
  congr 2
  simp only [List.map_singleton, Nat.one_mul]
  rw [show r.d + (j - r.d) = j from by omega]
theorem crPL_end (rs : List CrR) (r : CrR) : crPL rs r r.b.length = crPtrs (rs ++ [r]) := by
  unfold crPL crPtrs
  rw [crLoose_snoc, List.map_append, List.map_map]; rfl
theorem crPL_len {rs : List CrR} {r : CrR} {j : Nat} (h : r.d ≤ j) : (crPL rs r j).length = (crLoose rs).length + (j - r.d) := by
  unfold crPL; rw [List.length_append, crPtrs_len, List.length_map, List.length_range']
theorem crPL_one (rs : List CrR) (r : CrR) (j : Nat) : (crPL rs r j).all Value.oneCell' = true := by
  unfold crPL
  rw [List.all_append, crPtrs_one, List.all_map, Bool.true_and, List.all_eq_true]
  intro x _; rfl
theorem crPtr_at {r : CrR} {g : Nat} (h : r.oa = some ⟨g, 0, none⟩) (j : Nat) : crPtr r j = .pointer (some ⟨g, 0 + j * 1, none⟩) := by
  unfold crPtr; rw [h]; show Value.pointer (some (Addr.add ⟨g, 0, none⟩ (j * 1))) = _; rw [addr_add]
theorem CrSt.few {s : Ds} {keep : List Int} {i : Nat} {fs : Fs} {rs : List CrR} (h : CrSt s keep i fs rs) (hi : i ≤ (filesB (vB s.fs)).length) {m : Nat} (hu : used s.fs ≤ m) : (crLoose rs).length ≤ 64 * m := by
  refine Nat.le_trans (crLoose_bound (m := m) fun r hr => ?_) (Nat.mul_le_mul_right m ?_)
  · rw [(h.b r hr).1]
    exact Nat.le_trans (cutB_len _ _ _ _) (Nat.le_trans (fget_used s.fs r.n) hu)
  · rw [h.len]; exact Nat.le_trans hi (filesB_len _)
theorem St.crPick {w : World} {M : List HP} {F : List Fact} {e : Nat} {rs : List CrR} {i : Nat} (hi : i < rs.length) (hne : rs[i].b ≠ []) (h : St w (Al (rs.map (crOwn e)) :: M) F) :
    ∃ g, rs[i].oa = some ⟨g, 0, none⟩ ∧ St w (crOwn e rs[i] :: Al ((rs.take i).map (crOwn e)) :: Al ((rs.drop (i + 1)).map (crOwn e)) :: M) F := by
  have h1 := St.alCut i (by simpa using hi) h
  rw [List.getElem_map, ← List.map_take, ← List.map_drop] at h1
  refine own_at (i := 0) (M := crOwn e rs[i] :: _) rfl ?_ h1
  intro e0
  exact hne (List.eq_nil_of_length_eq_zero (by have := congrArg List.length e0; rwa [bytesV_length] at this))
theorem St.crBack {w : World} {M : List HP} {F : List Fact} {e : Nat} {rs : List CrR} {i : Nat} (hi : i < rs.length) {r : CrR} (h : St w (crOwn e r :: Al ((rs.take i).map (crOwn e)) :: Al ((rs.drop (i + 1)).map (crOwn e)) :: M) F) :
    St w (Al ((rs.take i ++ r :: rs.drop (i + 1)).map (crOwn e)) :: M) F := by
  have h1 := St.alJoin h
  rw [List.map_append, List.map_cons]
  exact h1
theorem flip_byte (x : UInt8) {q : Nat} (hq : q < 8) : B8 (x.toNat ^^^ (1 * 2 ^ (7 - q) % 256)) = .int .u8 ((flipB x q).toNat : Int) := by
  have h1 : 2 ^ (7 - q) < 256 := Nat.lt_of_le_of_lt (Nat.pow_le_pow_right (by omega) (show 7 - q ≤ 7 by omega)) (by decide)
  have h2 : 1 * 2 ^ (7 - q) % 256 = 2 ^ (7 - q) := by rw [Nat.one_mul, Nat.mod_eq_of_lt h1]
  have h3 : x.toNat ^^^ 2 ^ (7 - q) < 256 := Nat.xor_lt_two_pow (n := 8) x.toNat_lt h1
  rw [h2]
  unfold flipB
  rw [u8_ofNat h3]
theorem turn_bytes {b : List UInt8} {j q : Nat} (hj : j < b.length) (hq : q < 8) : (bytesV b).take (0 + j * 1) ++ [B8 (b[j].toNat ^^^ (1 * 2 ^ (7 - q) % 256))] ++ (bytesV b).drop (0 + j * 1 + 1) = bytesV (turnB b j q) := by
  rw [flip_byte _ hq, Nat.zero_add, Nat.mul_one]
  unfold turnB bytesV
  rw [List.getD_eq_getElem?_getD, List.getElem?_eq_getElem hj, List.map_set, List.set_eq_take_append_cons_drop, if_pos (by rw [List.length_map]; exact hj)]
  simp
end Go.GL

namespace Go.Proofs.YtdlpaojkkekdlaaGreat
open Go.GL
set_option linter.unusedVariables false
theorem yf_bs63_1_0 (x0 : Option Addr) : BuildSV Tryz.prog 63 68 1 [(0, .pointer x0)] [.pointer x0] := fun w => by kernel_rfl
theorem yf_ni63 : noInt Tryz.prog 63 = true := by kernel_rfl
theorem yf_ta66 : tyAgg Tryz.prog 66 2 = true := by kernel_rfl
theorem yf_te68 : tyElem Tryz.prog 68 1 8 = true := by kernel_rfl
theorem yf_tf62_0 : fieldOff Tryz.prog 62 0 0 = true := by kernel_rfl
theorem yf_tf62_2 : fieldOff Tryz.prog 62 2 2 = true := by kernel_rfl
theorem yf_tf62_3 : fieldOff Tryz.prog 62 3 3 = true := by kernel_rfl
theorem yf_tf66_0 : fieldOff Tryz.prog 66 0 0 = true := by kernel_rfl
theorem yf_tf66_1 : fieldOff Tryz.prog 66 1 1 = true := by kernel_rfl
theorem yf_tl22 : tySlice Tryz.prog 22 3 = true := by kernel_rfl
theorem yf_tl39 : tySlice Tryz.prog 39 5 = true := by kernel_rfl
theorem yf_tl63 : tySlice Tryz.prog 63 68 = true := by kernel_rfl
theorem yf_tm60 : tyMap Tryz.prog 60 3 66 = true := by kernel_rfl
theorem yf_ts3 : tyScalar Tryz.prog 3 = true := by kernel_rfl
theorem yf_ts39 : tyScalar Tryz.prog 39 = true := by kernel_rfl
theorem yf_ts4 : tyScalar Tryz.prog 4 = true := by kernel_rfl
theorem yf_ts5 : tyScalar Tryz.prog 5 = true := by kernel_rfl
theorem yf_ts60 : tyScalar Tryz.prog 60 = true := by kernel_rfl
theorem yf_ts68 : tyScalar Tryz.prog 68 = true := by kernel_rfl
theorem yf_tz3 : tySize Tryz.prog 3 1 = true := by kernel_rfl
theorem yf_tz5 : tySize Tryz.prog 5 1 = true := by kernel_rfl
theorem yf_tz66 : tySize Tryz.prog 66 2 = true := by kernel_rfl
theorem yf_tz68 : tySize Tryz.prog 68 1 = true := by kernel_rfl
structure CrX where
  i : Nat
  rs : List CrR
  fs : Fs
  oa : Option Addr
  c : Nat

structure CrY where
  j : Nat
  oa : Option Addr
  c : Nat

set_option maxHeartbeats 2000000 in
theorem crash_spec {keep : List Int} {flip : Int} {ok : Option Addr} {ck : Nat} {b : Nat} {s : Ds} {M : List HP} {F : List Fact} (hok : OkF s.fs) (hA : AllF s.fs ∈ F) (hK : ArrF ok (ints keep) ∈ F) (hks : IntsOk keep) (hu : used s.fs ≤ 16777216) (hflip : I64 flip) : Ctr Tryz.prog 11 [.pointer (some ⟨b, 0, none⟩), .slice ok keep.length ck, I flip] (Box b 62 (dkC s) :: MpB s.m (fsV s.fs) :: M) F {t : Ds // CrashR s keep flip t} (fun _ => .tuple #[]) (fun t => Box b 62 (dkC t.1) :: MpB t.1.m (fsV t.1.fs) :: M) (fun t => AllF t.1.fs :: F) := by
  refine Ctr.body Tryz.func11 rfl rfl ?_
  refine TR.seq ?_
  refine TR.region ?_
  refine RL.assign rfl rfl rfl ?_
  refine RL.nil ?_
  refine NX.seq ?_
  refine TR.seq ?_
  refine TR.seq ?_
  refine TR.region ?_
  refine RL.move rfl rfl rfl ?_
  refine RL.call rfl rfl Tryz.call29 rfl (files_spec hok) (fun ks => ?_)
  have hfs := files_srt hok
  have hfl := filesB_len (vB s.fs)
  rw [hfs]
  refine RL.weak (fun w hw => hw.keepSl) ?_
  refine RL.lenSlice rfl yf_tl22 rfl rfl ?_
  refine RL.move rfl rfl rfl ?_
  refine RL.nil ?_
  refine NX.seq ?_
  refine TR.block ?_
  refine TR.loopP (ι := CrX) (fun x => CrSt s keep x.i x.fs x.rs ∧ x.i ≤ (filesB (vB s.fs)).length) (fun x => [(0, .pointer (some ⟨b, 0, none⟩)), (1, .slice ok keep.length ck), (2, I flip), (6, .slice x.oa (crPtrs x.rs).length x.c), (15, .slice ks.1 ((filesB (vB s.fs)).map fun n : Nat => (n : Int)).length ks.2), (16, I (((filesB (vB s.fs)).map fun n : Nat => (n : Int)).length : Nat)), (17, I x.i)]) (fun x => OwnSl 68 1 x.oa (crPtrs x.rs).length x.c (crPtrs x.rs) :: Al (x.rs.map (crOwn 5)) :: Box b 62 (dkC (⟨s.m, x.fs, s.room, s.off, s.armed, s.left⟩ : Ds)) :: MpB s.m (fsV x.fs) :: M) (fun x => ArrF ks.1 (ints ((filesB (vB s.fs)).map fun n : Nat => (n : Int))) :: F) (fun x => (filesB (vB s.fs)).length - x.i) ⟨0, [], s.fs, none, 0⟩ ⟨CrSt.init hok, Nat.zero_le _⟩ ⟨rfl, rfl, rfl, rfl, rfl, rfl, rfl, trivial⟩ (fun w hw => OwnSl.nil_new 68 1 hw.alNil) (fun x hx => ?_)
  refine TR.seq ?_
  refine TR.region ?_
  refine RL.bin rfl rfl rfl BinV.lss rfl ?_
  refine RL.nil ?_
  refine NX.seq ?_
  refine TR.seq ?_
  refine TR.cond rfl (fun h1 => ?_) (fun h1 => ?_)
  · skip
    have hi : x.i < (filesB (vB s.fs)).length := by have h9 := of_decide_eq_true h1; simp only [List.length_map] at h9; omega
    obtain ⟨kf, hkf⟩ : ∃ kf, kf = (filesB (vB s.fs))[x.i] := ⟨_, rfl⟩
    have hkm := filesB_mem.1 (hkf ▸ List.getElem_mem hi : kf ∈ (filesB (vB s.fs)))
    have hkf64 : I64 (kf : Int) := ⟨by omega, by omega⟩
    have hfk : fget x.fs (kf : Int) = fget s.fs (kf : Int) := hx.1.rest kf (by rw [hkf]; exact hx.1.fresh hi)
    have hfe := fget_each hok (kf : Int)
    have hfu := fget_used s.fs (kf : Int)
    have hfe1 : (vB s.fs kf).length ≤ (fget s.fs (kf : Int)).c := hfe.1
    have hfe2 : vD s.fs kf ≤ (vB s.fs kf).length := hfe.2
    have hfu1 : (vB s.fs kf).length ≤ used s.fs := hfu
    have hvd : vD s.fs kf = (fget s.fs (kf : Int)).dur := rfl
    have hvb : (vB s.fs kf).length = (fget s.fs (kf : Int)).b.length := rfl
    have hFl : ((filesB (vB s.fs)).map fun n : Nat => (n : Int)).length = (filesB (vB s.fs)).length := List.length_map _
    have hkk := keepK_le keep x.i ((vB s.fs kf).length - vD s.fs kf)
    have hkv : (ints ((filesB (vB s.fs)).map fun n : Nat => (n : Int)))[((x.i : Nat) : Int).toNat * 1]? = some (I ((kf : Nat) : Int)) := by
      rw [Int.toNat_natCast, Nat.mul_one, List.getElem?_map, List.getElem?_map, List.getElem?_eq_getElem hi, hkf]; rfl
    have hlb := hx.1.few (Nat.le_of_lt hi) hu
    refine TR.openP (open_arr (oa := ks.1) (xs := ints ((filesB (vB s.fs)).map fun n : Nat => (n : Int))) (.head _) (by intro e; have := congrArg List.length e; simp only [List.length_map] at this; rw [List.length_nil] at this; omega)) (fun pq hpa => ?_)
    refine TR.skip ?_
    refine NX.seq ?_
    refine TR.seq ?_
    refine TR.block ?_
    refine TR.seq ?_
    refine TR.region ?_
    refine RL.move rfl rfl rfl ?_
    refine RL.indexAddr rfl yf_tl22 yf_tz3 (congrArg (fun a => some (Value.slice a _ _)) hpa) rfl (by omega) (by omega) rfl ?_
    refine RL.loadF rfl rfl (fun w K hF => run_loadCell1 (j := ((x.i : Nat) : Int).toNat * 1) (v := I ((kf : Nat) : Int)) (hF (CellsF pq.1 pq.2 (ints ((filesB (vB s.fs)).map fun n : Nat => (n : Int)))) (.head _)) yf_ts3 hkv) rfl ?_
    refine RL.assign rfl rfl rfl ?_
    refine RL.assign rfl rfl rfl ?_
    refine RL.nil ?_
    refine NX.seq ?_
    refine TR.seq ?_
    refine TR.region ?_
    refine RL.move rfl rfl rfl ?_
    refine RL.nilCheck rfl rfl rfl ?_
    refine RL.fieldAddr rfl yf_tf62_0 rfl rfl ?_
    refine RL.load1 2 rfl yf_ts60 rfl rfl rfl rfl ?_
    refine RL.move rfl rfl rfl ?_
    refine RL.lookupF 3 rfl yf_tm60 rfl rfl hkf64 rfl Tryz.zeroValue66 rfl ?_
    rw [hfk]
    refine RL.allocA rfl Tryz.zeroValue66 rfl (fun fb => ?_)
    refine RL.storeA 0 rfl rfl rfl rfl yf_tz66 rfl rfl ?_
    refine RL.nil ?_
    refine NX.seq ?_
    refine TR.seq ?_
    refine TR.region ?_
    refine RL.assign rfl rfl rfl ?_
    refine RL.nil ?_
    refine NX.seq ?_
    refine TR.cut (ι := Unit) (fun _ => [(0, .pointer (some ⟨b, 0, none⟩)), (1, .slice ok keep.length ck), (2, I flip), (6, .slice x.oa (crPtrs x.rs).length x.c), (7, I x.i), (8, I (kf : Int)), (9, .pointer (some ⟨fb, 0, none⟩)), (10, I ((keepK keep x.i ((vB s.fs kf).length - vD s.fs kf)) : Nat)), (15, .slice ks.1 ((filesB (vB s.fs)).map fun n : Nat => (n : Int)).length ks.2), (16, I (((filesB (vB s.fs)).map fun n : Nat => (n : Int)).length : Nat)), (17, I x.i)]) (fun _ => Box fb 66 (flC (fget s.fs (kf : Int))) :: Box b 62 (dkC (⟨s.m, x.fs, s.room, s.off, s.armed, s.left⟩ : Ds)) :: MpB s.m (fsV x.fs) :: OwnSl 68 1 x.oa (crPtrs x.rs).length x.c (crPtrs x.rs) :: Al (x.rs.map (crOwn 5)) :: M) (fun _ => CellsF pq.1 pq.2 (ints ((filesB (vB s.fs)).map fun n : Nat => (n : Int))) :: ArrF ks.1 (ints ((filesB (vB s.fs)).map fun n : Nat => (n : Int))) :: F) ?_ (fun _ => ?_)
    · skip
      refine TR.seq ?_
      refine TR.region ?_
      refine RL.move rfl rfl rfl ?_
      refine RL.move rfl rfl rfl ?_
      refine RL.lenSlice rfl yf_tl22 rfl rfl ?_
      refine RL.bin rfl rfl rfl BinV.lss rfl ?_
      refine RL.nil ?_
      refine NX.seq ?_
      refine TR.cond rfl (fun h2 => ?_) (fun h2 => ?_)
      · skip
        have hkl : x.i < keep.length := by have h9 := of_decide_eq_true h2; omega
        obtain ⟨kv, hkv2⟩ : ∃ kv, kv = keep[x.i] := ⟨_, rfl⟩
        have hkr := hks.2 kv (hkv2 ▸ List.getElem_mem hkl)
        have hkkv : (ints keep)[((x.i : Nat) : Int).toNat * 1]? = some (I kv) := by
          rw [Int.toNat_natCast, Nat.mul_one, List.getElem?_map, List.getElem?_eq_getElem hkl, hkv2]; rfl
        refine TR.openP (open_arr (oa := ok) (xs := ints keep) (.tail _ (.tail _ hK)) (ints_ne (by omega))) (fun pk hpk => ?_)
        refine TR.sub (E' := [(0, _), (1, _), (2, _), (6, _), (7, _), (8, _), (9, _), (15, _), (16, _), (17, _), (18, _), (19, _), (20, _), (21, _), (22, _), (23, _), (24, _), (25, _), (26, _), (27, _), (28, _), (29, _), (30, _), (31, _)]) ⟨rfl, rfl, rfl, rfl, rfl, rfl, rfl, rfl, rfl, rfl, rfl, rfl, rfl, rfl, rfl, rfl, rfl, rfl, rfl, rfl, rfl, rfl, rfl, rfl, trivial⟩ ?_
        refine TR.draw mixed ?_
        apply AR.more [(0, _), (1, _), (2, _), (3, _), (4, _), (5, _), (6, _), (7, _), (8, _), (9, _), (10, _), (11, _), (12, _)]
        refine AR.last [0, 1, 2, 3, 4, 5, 6, 7, 8, 9, 10, 11, 12] [0, 1, 2, 3, 4, 5, 6, 7, 8, 9, 10, 11, 12] ⟨QOne.yes rfl rfl rfl (PV.move rfl), QOne.yes rfl rfl rfl (PV.move rfl), QOne.yes rfl rfl rfl (PV.indexAddr yf_tl22 yf_tz3 (congrArg (fun a => some (Value.slice a _ _)) hpk) rfl (by omega) (by omega)), QOne.yes rfl rfl rfl (PV.loadF rfl (fun w K hF => run_loadCell1 (j := ((x.i : Nat) : Int).toNat * 1) (v := I kv) (hF (CellsF pk.1 pk.2 (ints keep)) (.head _)) yf_ts3 hkkv)), QOne.yes rfl rfl rfl (PV.fieldAddr yf_tf66_0 rfl), QOne.yes rfl rfl rfl (PV.load1 0 yf_ts39 rfl rfl rfl), QOne.yes rfl rfl rfl (PV.lenSlice yf_tl39 rfl), QOne.yes rfl rfl rfl (PV.fieldAddr yf_tf66_1 rfl), QOne.yes rfl rfl rfl (PV.load1 0 yf_ts3 rfl rfl rfl), QOne.yes rfl rfl rfl (PV.bin rfl rfl (BinV.sub _ rfl (by omega) (by omega))), QOne.yes rfl rfl rfl (PV.min rfl rfl), QOne.yes rfl rfl rfl (PV.max rfl rfl), QOne.yes rfl rfl rfl (PV.assign rfl), trivial⟩ rfl rfl rfl ?_
        refine NX.sub (E' := [(0, _), (1, _), (2, _), (6, _), (7, _), (8, _), (9, _), (10, _), (15, _), (16, _), (17, _), (18, _), (19, _), (20, _), (21, _), (22, _), (23, _), (24, _), (25, _), (26, _), (27, _), (28, _), (29, _), (30, _), (31, _), (32, _), (33, _), (34, _), (35, _), (36, _), (37, _), (38, _), (39, _), (40, _), (41, _), (42, _), (43, _)]) ⟨rfl, rfl, rfl, rfl, rfl, rfl, rfl, rfl, rfl, rfl, rfl, rfl, rfl, rfl, rfl, rfl, rfl, rfl, rfl, rfl, rfl, rfl, rfl, rfl, rfl, rfl, rfl, rfl, rfl, rfl, rfl, rfl, rfl, rfl, rfl, rfl, rfl, trivial⟩ ?_
        refine NX.meet () ⟨rfl, rfl, rfl, rfl, rfl, rfl, rfl, ?_, rfl, rfl, rfl, trivial⟩ (fun w hw => (hw.to 5 [0, 3, 4, 1, 2] 3 [1, 2] rfl))
        show some (I (max 0 (min kv (((vB s.fs kf).length : Int) - (vD s.fs kf : Int))))) = some (I ((keepK keep x.i ((vB s.fs kf).length - vD s.fs kf)) : Nat))
        rw [keepK_some (hkv2 ▸ List.getElem?_eq_getElem hkl), Int.ofNat_sub hfe2]
      · skip
        have hkl : keep.length ≤ x.i := by have h9 := of_decide_eq_false h2; omega
        refine TR.skip ?_
        refine NX.meet () ⟨rfl, rfl, rfl, rfl, rfl, rfl, rfl, ?_, rfl, rfl, rfl, trivial⟩ (fun w hw => (hw.to 5 [0, 3, 4, 1, 2] 2 [0, 1] rfl))
        rw [keepK_none hkl]; rfl
    refine TR.seq ?_
    refine TR.weak (fun w hw => hw.allF_get (k := (kf : Int)) (.tail _ (.tail _ hA))) ?_
    refine TR.region ?_
    refine RL.fieldAddr rfl yf_tf66_0 rfl rfl ?_
    refine RL.load1 0 rfl yf_ts39 rfl rfl rfl rfl ?_
    refine RL.fieldAddr rfl yf_tf66_1 rfl rfl ?_
    refine RL.load1 0 rfl yf_ts3 rfl rfl rfl rfl ?_
    refine RL.move rfl rfl rfl ?_
    refine RL.bin rfl rfl rfl (BinV.add ((vD s.fs kf + (keepK keep x.i ((vB s.fs kf).length - vD s.fs kf)) : Nat) : Int) (by omega) (by omega) (by omega)) rfl ?_
    refine RL.sliceToB (k := vD s.fs kf + (keepK keep x.i ((vB s.fs kf).length - vD s.fs kf))) (l := vB s.fs kf) rfl yf_tl39 yf_tz5 rfl rfl (by rw [List.length_take]; omega) hfe1 (.head _) rfl ?_
    refine RL.call rfl rfl Tryz.call30 rfl (cloneB_spec (l := ((vB s.fs kf).take (vD s.fs kf + (keepK keep x.i ((vB s.fs kf).length - vD s.fs kf))))) (rd_fact (.head _)) (by rw [List.length_take]; omega)) (fun y => ?_)
    refine RL.open1 (fun w hw => ⟨hw.ownLen.2, hw⟩) (fun hyc => ?_)
    refine RL.fieldAddr rfl yf_tf66_0 rfl rfl ?_
    refine RL.store1 1 rfl yf_ts39 rfl rfl rfl rfl rfl ?_
    refine RL.nil ?_
    refine NX.seq ?_
    refine TR.seq ?_
    refine TR.seq ?_
    refine TR.region ?_
    refine RL.fieldAddr rfl yf_tf66_1 rfl rfl ?_
    refine RL.load1 1 rfl yf_ts3 rfl rfl rfl rfl ?_
    refine RL.assign rfl rfl rfl ?_
    refine RL.nil ?_
    refine NX.seq ?_
    refine TR.block ?_
    refine TR.loopP (ι := CrY) (fun u => vD s.fs kf ≤ u.j ∧ u.j ≤ ((vB s.fs kf).take (vD s.fs kf + (keepK keep x.i ((vB s.fs kf).length - vD s.fs kf)))).length) (fun u => [(0, .pointer (some ⟨b, 0, none⟩)), (1, .slice ok keep.length ck), (2, I flip), (6, .slice u.oa (crPL x.rs (⟨kf, ((vB s.fs kf).take (vD s.fs kf + (keepK keep x.i ((vB s.fs kf).length - vD s.fs kf)))), vD s.fs kf, y.1, y.2⟩ : CrR) u.j).length u.c), (7, I x.i), (8, I (kf : Int)), (9, .pointer (some ⟨fb, 0, none⟩)), (11, I u.j), (15, .slice ks.1 ((filesB (vB s.fs)).map fun n : Nat => (n : Int)).length ks.2), (16, I (((filesB (vB s.fs)).map fun n : Nat => (n : Int)).length : Nat)), (17, I x.i)]) (fun u => OwnSl 68 1 u.oa (crPL x.rs (⟨kf, ((vB s.fs kf).take (vD s.fs kf + (keepK keep x.i ((vB s.fs kf).length - vD s.fs kf)))), vD s.fs kf, y.1, y.2⟩ : CrR) u.j).length u.c (crPL x.rs (⟨kf, ((vB s.fs kf).take (vD s.fs kf + (keepK keep x.i ((vB s.fs kf).length - vD s.fs kf)))), vD s.fs kf, y.1, y.2⟩ : CrR) u.j) :: Box fb 66 [.slice y.1 ((vB s.fs kf).take (vD s.fs kf + (keepK keep x.i ((vB s.fs kf).length - vD s.fs kf)))).length y.2, I (vD s.fs kf)] :: OwnSl 5 1 y.1 ((vB s.fs kf).take (vD s.fs kf + (keepK keep x.i ((vB s.fs kf).length - vD s.fs kf)))).length y.2 (bytesV ((vB s.fs kf).take (vD s.fs kf + (keepK keep x.i ((vB s.fs kf).length - vD s.fs kf))))) :: Al (x.rs.map (crOwn 5)) :: Box b 62 (dkC (⟨s.m, x.fs, s.room, s.off, s.armed, s.left⟩ : Ds)) :: MpB s.m (fsV x.fs) :: M) (fun u => ArrF ks.1 (ints ((filesB (vB s.fs)).map fun n : Nat => (n : Int))) :: F) (fun u => ((vB s.fs kf).take (vD s.fs kf + (keepK keep x.i ((vB s.fs kf).length - vD s.fs kf)))).length - u.j) ⟨vD s.fs kf, x.oa, x.c⟩ ⟨Nat.le_refl _, by show vD s.fs kf ≤ _; rw [List.length_take]; omega⟩ ⟨rfl, rfl, rfl, (by show some (Value.slice x.oa (crPtrs x.rs).length x.c) = some (Value.slice x.oa (crPL x.rs (⟨kf, ((vB s.fs kf).take (vD s.fs kf + (keepK keep x.i ((vB s.fs kf).length - vD s.fs kf)))), vD s.fs kf, y.1, y.2⟩ : CrR) (vD s.fs kf)).length x.c); rw [show crPL x.rs (⟨kf, ((vB s.fs kf).take (vD s.fs kf + (keepK keep x.i ((vB s.fs kf).length - vD s.fs kf)))), vD s.fs kf, y.1, y.2⟩ : CrR) (vD s.fs kf) = crPtrs x.rs from crPL_start _ _]), rfl, rfl, rfl, rfl, rfl, rfl, rfl, trivial⟩ (fun w hw => (by have h9 := (hw.to 6 [4, 1, 0, 5, 2, 3] 4 [3] rfl); rw [← show crPL x.rs (⟨kf, ((vB s.fs kf).take (vD s.fs kf + (keepK keep x.i ((vB s.fs kf).length - vD s.fs kf)))), vD s.fs kf, y.1, y.2⟩ : CrR) (vD s.fs kf) = crPtrs x.rs from crPL_start _ _] at h9; exact h9)) (fun u hq => ?_)
    refine TR.seq ?_
    refine TR.seq ?_
    refine TR.region ?_
    refine RL.move rfl rfl rfl ?_
    refine RL.fieldAddr rfl yf_tf66_0 rfl rfl ?_
    refine RL.load1 1 rfl yf_ts39 rfl rfl rfl rfl ?_
    refine RL.lenSlice rfl yf_tl39 rfl rfl ?_
    refine RL.bin rfl rfl rfl BinV.lss rfl ?_
    refine RL.nil ?_
    refine NX.seq ?_
    refine TR.cond rfl (fun h3 => ?_) (fun h3 => ?_)
    · skip
      have hj : u.j < ((vB s.fs kf).take (vD s.fs kf + (keepK keep x.i ((vB s.fs kf).length - vD s.fs kf)))).length := by have h9 := of_decide_eq_true h3; omega
      have hpl : (crPL x.rs (⟨kf, ((vB s.fs kf).take (vD s.fs kf + (keepK keep x.i ((vB s.fs kf).length - vD s.fs kf)))), vD s.fs kf, y.1, y.2⟩ : CrR) u.j).length = (crLoose x.rs).length + (u.j - vD s.fs kf) := crPL_len (r := (⟨kf, ((vB s.fs kf).take (vD s.fs kf + (keepK keep x.i ((vB s.fs kf).length - vD s.fs kf)))), vD s.fs kf, y.1, y.2⟩ : CrR)) hq.1
      have hnl : ((vB s.fs kf).take (vD s.fs kf + (keepK keep x.i ((vB s.fs kf).length - vD s.fs kf)))).length ≤ (vB s.fs kf).length := by rw [List.length_take]; omega
      refine TR.openP (fun w hw => own_at (i := 2) (M := _ :: _ :: _ :: _) rfl (bytesV_ne (b := ((vB s.fs kf).take (vD s.fs kf + (keepK keep x.i ((vB s.fs kf).length - vD s.fs kf))))) hj) hw) (fun g hga => ?_)
      refine TR.skip ?_
      refine NX.seq ?_
      refine TR.seq ?_
      refine TR.block ?_
      refine TR.region ?_
      refine RL.move rfl rfl rfl ?_
      refine RL.fieldAddr rfl yf_tf66_0 rfl rfl ?_
      refine RL.load1 1 rfl yf_ts39 rfl rfl rfl rfl ?_
      refine RL.move rfl rfl rfl ?_
      refine RL.indexAddr rfl yf_tl39 yf_tz5 (congrArg (fun a => some (Value.slice a _ _)) hga) rfl (by omega) (by omega) rfl ?_
      refine RL.buildSlice rfl rfl (yf_bs63_1_0 _) rfl (fun b4 => ?_)
      refine RL.ofGV rfl rfl (GV.append (j := 1) yf_tl63 yf_ni63 yf_te68 rfl rfl rfl (src_box (i := 0) rfl rfl rfl) (by rw [hpl]; omega) (by rw [hpl]; omega)) (fun z => ?_)
      refine RL.assign rfl rfl rfl ?_
      refine RL.nil ?_
      refine NX.off ?_
      refine NX.seq ?_
      refine TR.region ?_
      refine RL.move rfl rfl rfl ?_
      refine RL.bin rfl rfl rfl (BinV.add ((u.j + 1 : Nat) : Int) (by omega) (by omega) (by omega)) rfl ?_
      refine RL.assign rfl rfl rfl ?_
      refine RL.nil ?_
      refine NX.roundP ⟨u.j + 1, z.1, z.2⟩ ⟨by show vD s.fs kf ≤ u.j + 1; have := hq.1; omega, by show u.j + 1 ≤ ((vB s.fs kf).take (vD s.fs kf + (keepK keep x.i ((vB s.fs kf).length - vD s.fs kf)))).length; omega⟩ (by show ((vB s.fs kf).take (vD s.fs kf + (keepK keep x.i ((vB s.fs kf).length - vD s.fs kf)))).length - (u.j + 1) < _; omega) ⟨rfl, rfl, rfl, ?_, rfl, rfl, rfl, rfl, rfl, rfl, rfl, trivial⟩ (fun w hw => ?_)
      · show some (Value.slice z.1 ((crPL x.rs (⟨kf, ((vB s.fs kf).take (vD s.fs kf + (keepK keep x.i ((vB s.fs kf).length - vD s.fs kf)))), vD s.fs kf, y.1, y.2⟩ : CrR) u.j).length + 1) z.2) = some (Value.slice z.1 (crPL x.rs (⟨kf, ((vB s.fs kf).take (vD s.fs kf + (keepK keep x.i ((vB s.fs kf).length - vD s.fs kf)))), vD s.fs kf, y.1, y.2⟩ : CrR) (u.j + 1)).length z.2)
        rw [crPL_step (r := (⟨kf, ((vB s.fs kf).take (vD s.fs kf + (keepK keep x.i ((vB s.fs kf).length - vD s.fs kf)))), vD s.fs kf, y.1, y.2⟩ : CrR)) hq.1, List.length_append]; rfl
      · have h9 := (hw.to 7 [1, 2, 3, 4, 5, 6] 1 [0] rfl)
        show St w (OwnSl 68 1 z.1 (crPL x.rs (⟨kf, ((vB s.fs kf).take (vD s.fs kf + (keepK keep x.i ((vB s.fs kf).length - vD s.fs kf)))), vD s.fs kf, y.1, y.2⟩ : CrR) (u.j + 1)).length z.2 (crPL x.rs (⟨kf, ((vB s.fs kf).take (vD s.fs kf + (keepK keep x.i ((vB s.fs kf).length - vD s.fs kf)))), vD s.fs kf, y.1, y.2⟩ : CrR) (u.j + 1)) :: _) _
        rw [crPL_step (r := (⟨kf, ((vB s.fs kf).take (vD s.fs kf + (keepK keep x.i ((vB s.fs kf).length - vD s.fs kf)))), vD s.fs kf, y.1, y.2⟩ : CrR)) hq.1, List.length_append, crPtr_at (r := (⟨kf, ((vB s.fs kf).take (vD s.fs kf + (keepK keep x.i ((vB s.fs kf).length - vD s.fs kf)))), vD s.fs kf, y.1, y.2⟩ : CrR)) hga]
        exact h9
    · skip
      have hj : u.j = ((vB s.fs kf).take (vD s.fs kf + (keepK keep x.i ((vB s.fs kf).length - vD s.fs kf)))).length := by have h9 := of_decide_eq_false h3; have := hq.2; omega
      refine TR.exit ?_
      refine NX.exitThen ?_
      refine NX.exitThen ?_
      refine NX.exitHere ?_
      refine NX.seq ?_
      refine TR.region ?_
      refine RL.move rfl rfl rfl ?_
      refine RL.move rfl rfl rfl ?_
      refine RL.loadA 1 rfl rfl rfl yf_ta66 rfl ?_
      refine RL.call rfl rfl Tryz.call31 rfl (Ctr.pick 6 [4, 5, 0, 1, 2, 3] rfl (set_spec (s := (⟨s.m, x.fs, s.room, s.off, s.armed, s.left⟩ : Ds)) (f := (⟨kf, ((vB s.fs kf).take (vD s.fs kf + (keepK keep x.i ((vB s.fs kf).length - vD s.fs kf)))), vD s.fs kf, y.1, y.2⟩ : CrR).f) (n := (kf : Int)) hkf64)) (fun _ => ?_)
      refine RL.nil ?_
      refine NX.off ?_
      refine NX.seq ?_
      refine TR.region ?_
      refine RL.bin rfl rfl rfl (BinV.add ((x.i + 1 : Nat) : Int) (by omega) (by omega) (by omega)) rfl ?_
      refine RL.move rfl rfl rfl ?_
      refine RL.nil ?_
      refine NX.roundP ⟨x.i + 1, x.rs ++ [(⟨kf, ((vB s.fs kf).take (vD s.fs kf + (keepK keep x.i ((vB s.fs kf).length - vD s.fs kf)))), vD s.fs kf, y.1, y.2⟩ : CrR)], setF x.fs (kf : Int) (⟨kf, ((vB s.fs kf).take (vD s.fs kf + (keepK keep x.i ((vB s.fs kf).length - vD s.fs kf)))), vD s.fs kf, y.1, y.2⟩ : CrR).f, u.oa, u.c⟩ ⟨hx.1.step hok hi (r := (⟨kf, ((vB s.fs kf).take (vD s.fs kf + (keepK keep x.i ((vB s.fs kf).length - vD s.fs kf)))), vD s.fs kf, y.1, y.2⟩ : CrR)) hkf (hkf ▸ (cut_at hi).symm : ((vB s.fs kf).take (vD s.fs kf + (keepK keep x.i ((vB s.fs kf).length - vD s.fs kf)))) = cutB (vB s.fs) (vD s.fs) keep kf) rfl (by show vD s.fs kf ≤ ((vB s.fs kf).take (vD s.fs kf + (keepK keep x.i ((vB s.fs kf).length - vD s.fs kf)))).length; rw [List.length_take]; omega) hyc, by show x.i + 1 ≤ _; omega⟩ (by show (filesB (vB s.fs)).length - (x.i + 1) < _; omega) ⟨rfl, rfl, rfl, ?_, rfl, rfl, rfl, trivial⟩ (fun w hw => ?_)
      · show some (Value.slice u.oa (crPL x.rs (⟨kf, ((vB s.fs kf).take (vD s.fs kf + (keepK keep x.i ((vB s.fs kf).length - vD s.fs kf)))), vD s.fs kf, y.1, y.2⟩ : CrR) u.j).length u.c) = some (Value.slice u.oa (crPtrs (x.rs ++ [(⟨kf, ((vB s.fs kf).take (vD s.fs kf + (keepK keep x.i ((vB s.fs kf).length - vD s.fs kf)))), vD s.fs kf, y.1, y.2⟩ : CrR)])).length u.c)
        rw [hj, ← crPL_end]
      · have h9 := (hw.to 6 [4, 5, 2, 0, 1] 1 [0] rfl)
        rw [hj, show crPL x.rs (⟨kf, ((vB s.fs kf).take (vD s.fs kf + (keepK keep x.i ((vB s.fs kf).length - vD s.fs kf)))), vD s.fs kf, y.1, y.2⟩ : CrR) ((vB s.fs kf).take (vD s.fs kf + (keepK keep x.i ((vB s.fs kf).length - vD s.fs kf)))).length = crPtrs (x.rs ++ [(⟨kf, ((vB s.fs kf).take (vD s.fs kf + (keepK keep x.i ((vB s.fs kf).length - vD s.fs kf)))), vD s.fs kf, y.1, y.2⟩ : CrR)]) from crPL_end _ _] at h9
        have h8 := (show St w (crOwn 5 (⟨kf, ((vB s.fs kf).take (vD s.fs kf + (keepK keep x.i ((vB s.fs kf).length - vD s.fs kf)))), vD s.fs kf, y.1, y.2⟩ : CrR) :: Al (x.rs.map (crOwn 5)) :: _) _ from h9).alSnoc
        show St w (_ :: Al ((x.rs ++ [(⟨kf, ((vB s.fs kf).take (vD s.fs kf + (keepK keep x.i ((vB s.fs kf).length - vD s.fs kf)))), vD s.fs kf, y.1, y.2⟩ : CrR)]).map (crOwn 5)) :: _ :: _ :: M) _
        rw [List.map_append]
        exact h8.swap
  · skip
    have hi : x.i = (filesB (vB s.fs)).length := by have h9 := of_decide_eq_false h1; simp only [List.length_map] at h9; have := hx.2; omega
    have hcf : CrFin s keep x.fs x.rs := (hi ▸ hx.1).fin hok
    have hlb := hx.1.few hx.2 hu
    have hlp := crPtrs_len x.rs
    refine TR.exit ?_
    refine NX.exitThen ?_
    refine NX.exitThen ?_
    refine NX.exitHere ?_
    refine NX.seq ?_
    refine TR.cut (ι := {z : Fs // CrEnd s keep flip z}) (fun _ => [(0, .pointer (some ⟨b, 0, none⟩))]) (fun z => Box b 62 (dkC (⟨s.m, z.1, s.room, s.off, s.armed, s.left⟩ : Ds)) :: MpB s.m (fsV z.1) :: M) (fun z => AllF z.1 :: F) ?_ (fun z => ?_)
    · skip
      refine TR.seq ?_
      refine TR.region ?_
      refine RL.move rfl rfl rfl ?_
      refine RL.lenSlice rfl yf_tl63 rfl rfl ?_
      refine RL.bin rfl rfl rfl (BinV.mul ((8 * (crPtrs x.rs).length : Nat) : Int) (by omega) (by omega) (by omega)) rfl ?_
      refine RL.assign rfl rfl rfl ?_
      refine RL.nil ?_
      refine NX.seq ?_
      refine TR.seq ?_
      refine TR.region ?_
      refine RL.move rfl rfl rfl ?_
      refine RL.bin rfl rfl rfl BinV.geq rfl ?_
      refine RL.move rfl rfl rfl ?_
      refine RL.part (fun h6 => ?_) (fun h6 => ?_)
      · skip
        have hf0 := of_decide_eq_true h6
        obtain ⟨fn, hfn⟩ : ∃ fn : Nat, flip = fn := ⟨flip.toNat, by omega⟩
        refine RL.move rfl rfl rfl ?_
        refine RL.bin rfl rfl rfl BinV.gtr rfl ?_
        refine RL.pickT rfl rfl rfl rfl ?_
        refine RL.nil ?_
        refine NX.seq ?_
        refine TR.cond rfl (fun h7 => ?_) (fun h7 => ?_)
        · skip
          have hmany := of_decide_eq_true h7
          refine TR.seq ?_
          subst hfn
          refine TR.region ?_
          refine RL.move rfl rfl rfl ?_
          refine RL.move rfl rfl rfl ?_
          refine RL.bin rfl rfl rfl (BinV.remK (a := fn) (b := 8 * (crPtrs x.rs).length) (by omega)) rfl ?_
          refine RL.assign rfl rfl rfl ?_
          refine RL.nil ?_
          refine NX.seq ?_
          obtain ⟨q, hqd⟩ : ∃ q, q = fn % (8 * (crPtrs x.rs).length) := ⟨_, rfl⟩
          have hqlt : q < 8 * (crPtrs x.rs).length := hqd ▸ Nat.mod_lt _ (by omega)
          have hq8 : q / 8 < (crLoose x.rs).length := by omega
          obtain ⟨hm1, hm2, hm3⟩ := crLoose_mem (List.getElem_mem hq8)
          obtain ⟨ir, hir, hrow⟩ := List.getElem_of_mem hm1
          obtain ⟨jj, hjj⟩ : ∃ jj, jj = (crLoose x.rs)[q / 8].2 := ⟨_, rfl⟩
          have hjl : jj < x.rs[ir].b.length := by rw [hrow, hjj]; exact hm3
          have hcl := (hcf.b x.rs[ir] (List.getElem_mem hir)).1
          have hcl2 : x.rs[ir].b.length ≤ used s.fs := by rw [hcl]; exact Nat.le_trans (cutB_len _ _ _ _) (fget_used _ _)
          rw [← hqd]
          refine TR.openP (fun w hw => own_at (i := 0) (M := _ :: _) rfl (by intro e; have := congrArg List.length e; rw [hlp, List.length_nil] at this; omega) hw) (fun gl hgl => ?_)
          refine TR.pick 4 [1, 0, 2, 3] rfl ?_
          refine TR.openP (fun w hw => St.crPick (e := 5) hir (by intro e; rw [e] at hjl; exact absurd hjl (by simp)) hw) (fun gr hgr => ?_)
          have hpv : (crPtrs x.rs)[0 + ((q / 8 : Nat) : Int).toNat * 1]? = some (.pointer (some ⟨gr, 0 + jj * 1, none⟩)) := by
            rw [Int.toNat_natCast, Nat.zero_add, Nat.mul_one]
            unfold crPtrs
            rw [List.getElem?_map, List.getElem?_eq_getElem hq8]
            show some (crPtr (crLoose x.rs)[q / 8].1 (crLoose x.rs)[q / 8].2) = _
            rw [← hrow, ← hjj, crPtr_at hgr]
          have hbv : (bytesV x.rs[ir].b)[0 + jj * 1]? = some (B8 (x.rs[ir].b[jj]).toNat) := by
            rw [Nat.zero_add, Nat.mul_one]; unfold bytesV; rw [List.getElem?_map, List.getElem?_eq_getElem hjl]; rfl
          refine TR.sub (E' := [(0, _), (1, _), (2, _), (6, _), (12, _), (13, _), (15, _), (16, _), (17, _), (18, _), (74, _), (75, _), (76, _), (77, _), (78, _), (79, _), (80, _), (81, _), (82, _), (83, _), (84, _), (85, _)]) ⟨rfl, rfl, rfl, rfl, rfl, rfl, rfl, rfl, rfl, rfl, rfl, rfl, rfl, rfl, rfl, rfl, rfl, rfl, rfl, rfl, rfl, rfl, trivial⟩ ?_
          refine TR.draw mixed ?_
          apply AR.more [(0, _), (1, _), (2, _), (3, _), (4, _), (5, _), (6, _), (7, _), (8, _), (9, _), (10, _), (11, _), (12, _)]
          refine AR.eff [0, 1, 2, 3, 4, 5, 6, 7, 8, 9, 10, 11, 12] 13 [0, 1, 2, 3, 4, 5, 6, 7, 8, 9, 10, 11, 12, 13] ⟨QOne.yes rfl rfl rfl (PV.move rfl), QOne.yes rfl rfl rfl (PV.move rfl), QOne.yes rfl rfl rfl (PV.bin rfl rfl (BinV.quo (by decide) ((q / 8 : Nat) : Int) (by rw [Int.tdiv_eq_ediv_of_nonneg (by omega)]; omega) (by omega) (by omega))), QOne.yes rfl rfl rfl (PV.indexAddr yf_tl63 yf_tz68 (congrArg (fun a => some (Value.slice a _ _)) hgl) rfl (by omega) (by omega)), QOne.yes rfl rfl rfl (PV.loadS rfl (own_one (i := 3) rfl hgl yf_ts68 hpv)), QOne.yes rfl rfl rfl (PV.nilCheck rfl), QOne.yes rfl rfl rfl (PV.loadS rfl (own_one (i := 0) rfl hgr yf_ts5 hbv)), QOne.yes rfl rfl rfl (PV.move rfl), QOne.yes rfl rfl rfl (PV.bin rfl rfl (BinV.remK (a := q) (b := 8) (by decide))), QOne.yes rfl rfl rfl (PV.bin rfl rfl (BinV.sub ((7 - q % 8 : Nat) : Int) (by omega) (by omega) (by omega))), QOne.yes rfl rfl rfl (PV.bin rfl rfl (BinV.shlB (a := 1) (s := 7 - q % 8) (by omega))), QOne.yes rfl rfl rfl (PV.bin rfl rfl (BinV.xorB (a := (x.rs[ir].b[jj]).toNat) (b := 1 * 2 ^ (7 - q % 8) % 256) (UInt8.toNat_lt _) (Nat.mod_lt _ (by decide)))), QOne.yes rfl rfl rfl (PV.nilCheck rfl), trivial⟩ rfl rfl rfl rfl rfl rfl rfl (EV.storeO (vs := [B8 ((x.rs[ir].b[jj]).toNat ^^^ (1 * 2 ^ (7 - q % 8) % 256))]) 0 rfl rfl rfl hgr yf_tz5 rfl (by rw [bytesV_length]; show 0 + jj * 1 + 1 ≤ _; omega) rfl) (fun _ => ?_)
          refine AR.done [12, 11, 0, 1, 2, 3, 4, 5, 6, 7, 8, 9, 10] rfl ?_
          refine AR.last [] [0, 1, 2, 3, 4, 5, 6, 7, 8, 9, 10, 11, 12, 13] trivial rfl rfl rfl ?_
          refine NX.sub (E' := [(0, _), (1, _), (2, _), (6, _), (12, _), (15, _), (16, _), (17, _), (18, _), (74, _), (75, _), (76, _), (77, _), (78, _), (79, _), (80, _), (81, _), (82, _), (83, _), (84, _), (85, _)]) ⟨rfl, rfl, rfl, rfl, rfl, rfl, rfl, rfl, rfl, rfl, rfl, rfl, rfl, rfl, rfl, rfl, rfl, rfl, rfl, rfl, rfl, trivial⟩ ?_
          refine NX.meet (⟨flipF x.fs x.rs[ir].n jj (q % 8), by have h9 := hcf.flip (flip := (fn : Int)) (by omega) q (by rw [Int.toNat_natCast, ← hlp]; exact hqd) hq8; rw [← hrow, ← hjj] at h9; exact h9⟩ : {z : Fs // CrEnd s keep (fn : Int) z}) ⟨rfl, trivial⟩ (fun w hw => ?_)
          have h8 : St w (OwnSl 5 1 x.rs[ir].oa x.rs[ir].b.length x.rs[ir].c ((bytesV x.rs[ir].b).take (0 + jj * 1) ++ [B8 (x.rs[ir].b[jj].toNat ^^^ (1 * 2 ^ (7 - q % 8) % 256))] ++ (bytesV x.rs[ir].b).drop (0 + jj * 1 + 1)) :: Al ((x.rs.take ir).map (crOwn 5)) :: Al ((x.rs.drop (ir + 1)).map (crOwn 5)) :: Box b 62 (dkC (⟨s.m, x.fs, s.room, s.off, s.armed, s.left⟩ : Ds)) :: MpB s.m (fsV x.fs) :: M) F := (hw.to 6 [0, 1, 2, 4, 5] 1 [] rfl)
          rw [turn_bytes hjl (Nat.mod_lt _ (by decide))] at h8
          have h7 : St w (crOwn 5 (x.rs[ir].turn jj (q % 8)) :: Al ((x.rs.take ir).map (crOwn 5)) :: Al ((x.rs.drop (ir + 1)).map (crOwn 5)) :: Box b 62 (dkC (⟨s.m, x.fs, s.room, s.off, s.armed, s.left⟩ : Ds)) :: MpB s.m (fsV x.fs) :: M) F := by
            show St w (OwnSl 5 1 x.rs[ir].oa (turnB x.rs[ir].b jj (q % 8)).length x.rs[ir].c (bytesV (turnB x.rs[ir].b jj (q % 8))) :: _) F
            rw [turnB_len]; exact h8
          have h6 := (St.crBack hir h7).crAll (turn_mem hcf (j := jj) (q := q % 8) hir)
          show St w (Box b 62 (dkC (⟨s.m, x.fs, s.room, s.off, s.armed, s.left⟩ : Ds)) :: MpB s.m (fsV (flipF x.fs x.rs[ir].n jj (q % 8))) :: M) (AllF (flipF x.fs x.rs[ir].n jj (q % 8)) :: F)
          rw [flipF_fsV]
          exact h6
        · skip
          have hno : flip < 0 ∨ (crLoose x.rs).length = 0 := Or.inr (by have h9 := of_decide_eq_false h7; omega)
          refine TR.skip ?_
          refine NX.meet (⟨x.fs, hcf.noFlip hno⟩ : {z : Fs // CrEnd s keep flip z}) ⟨rfl, trivial⟩ (fun w hw => ?_)
          exact (hw.to 4 [1, 2, 3] 1 [] rfl).crAll (fun p hp => by obtain ⟨r, h1, _, h3⟩ := hcf.mem p hp; exact ⟨r, h1, by rw [h3]; rfl, by rw [h3]; rfl⟩)
      · skip
        have hf0 := of_decide_eq_false h6
        have hno : flip < 0 ∨ (crLoose x.rs).length = 0 := Or.inl (by omega)
        refine RL.skip rfl rfl rfl ?_
        refine RL.skip rfl rfl rfl ?_
        refine RL.pickF rfl rfl rfl rfl ?_
        refine RL.nil ?_
        refine NX.seq ?_
        refine TR.condF rfl ?_
        refine TR.skip ?_
        refine NX.meet (⟨x.fs, hcf.noFlip hno⟩ : {z : Fs // CrEnd s keep flip z}) ⟨rfl, trivial⟩ (fun w hw => ?_)
        exact (hw.to 4 [1, 2, 3] 1 [] rfl).crAll (fun p hp => by obtain ⟨r, h1, _, h3⟩ := hcf.mem p hp; exact ⟨r, h1, by rw [h3]; rfl, by rw [h3]; rfl⟩)
    refine TR.seq ?_
    refine TR.region ?_
    refine RL.move rfl rfl rfl ?_
    refine RL.call rfl rfl Tryz.call32 rfl (harden_spec (s := (⟨s.m, z.1, s.room, s.off, s.armed, s.left⟩ : Ds)) z.2.ok) (fun _ => ?_)
    refine RL.nil ?_
    refine NX.seq ?_
    refine TR.region ?_
    refine RL.move rfl rfl rfl ?_
    refine RL.move rfl rfl rfl ?_
    refine RL.nilCheck rfl rfl rfl ?_
    refine RL.fieldAddr rfl yf_tf62_2 rfl rfl ?_
    refine RL.store1 0 rfl yf_ts4 rfl rfl rfl rfl rfl ?_
    refine RL.nilCheck rfl rfl rfl ?_
    refine RL.fieldAddr rfl yf_tf62_3 rfl rfl ?_
    refine RL.store1 0 rfl yf_ts4 rfl rfl rfl rfl rfl ?_
    refine RL.nil ?_
    refine NX.end0 (⟨⟨s.m, hard z.1, s.room, false, false, s.left⟩, z.2.crash⟩ : {t : Ds // CrashR s keep flip t}) rfl rfl (fun w hw => ?_)
    have h9 := (hw).hardF (fs := z.1) (.head _)
    exact h9.facts (fun φ h => by rcases List.mem_cons.1 h with e1 | h; exact e1 ▸ .head _; exact .tail _ (.tail _ h))

end Go.Proofs.YtdlpaojkkekdlaaGreat

namespace Go.GL
set_option linter.unusedVariables false
/-! ### How much is used -/
theorem sum_perm {l l' : List Nat} (h : l.Perm l') : l.sum = l'.sum := by
  induction h with
  | nil => rfl
  | cons x _ ih => rw [List.sum_cons, List.sum_cons, ih]
  | swap x y l => rw [List.sum_cons, List.sum_cons, List.sum_cons, List.sum_cons]; omega
  | trans _ _ h1 h2 => exact h1.trans h2
theorem sum_filter0 (g : Nat → Nat) (p : Nat → Bool) : ∀ (l : List Nat), (∀ n, n ∈ l → p n = false → g n = 0) → ((l.filter p).map g).sum = (l.map g).sum
  | [], _ => rfl
  | a :: l, h => by
    have ih := sum_filter0 g p l fun n hn => h n (.tail _ hn)
    rw [List.filter_cons]
    cases hp : p a with
    | true => rw [if_pos rfl, List.map_cons, List.sum_cons, List.map_cons, List.sum_cons, ih]
    | false => rw [if_neg (by simp), List.map_cons, List.sum_cons, ih, h a (.head _) hp, Nat.zero_add]
theorem used_view {fs : Fs} (h : OkF fs) : used fs = ((List.range 64).map fun n => (vB fs n).length).sum := by
  rw [← used_sumK h.keys]
  have h1 : (fs.map Prod.fst).Perm ((filesB (vB fs)).map fun n : Nat => (n : Int)) := (srt_perm _).symm.trans (List.Perm.of_eq (files_srt h))
  unfold sumK
  rw [sum_perm (h1.map fun k => (fget fs k).b.length), List.map_map]
  refine sum_filter0 (fun n => (vB fs n).length) (fun n => !(vB fs n).isEmpty) _ fun n _ hp => ?_
  have : (vB fs n).isEmpty = true := by simpa using hp
  rw [List.isEmpty_iff.1 this]; rfl
theorem sum_le {g g' : Nat → Nat} : ∀ {l : List Nat}, (∀ n, n ∈ l → g n ≤ g' n) → (l.map g).sum ≤ (l.map g').sum
  | [], _ => Nat.le_refl _
  | a :: l, h => by
    rw [List.map_cons, List.sum_cons, List.map_cons, List.sum_cons]
    have := h a (.head _); have := sum_le (l := l) fun n hn => h n (.tail _ hn); omega
theorem used_mono {fs fs' : Fs} (h : OkF fs) (h' : OkF fs') (hle : ∀ n, n < 64 → (vB fs n).length ≤ (vB fs' n).length) : used fs ≤ used fs' := by
  rw [used_view h, used_view h']
  exact sum_le fun n hn => hle n (List.mem_range.1 hn)
theorem CrashR.used {s t : Ds} {keep : List Int} {flip : Int} (h : CrashR s keep flip t) (hok : OkF s.fs) : used t.fs ≤ used s.fs := used_mono h.ok hok fun n hn => by
  rw [h.b n hn, crashB_len]; exact cutB_len _ _ _ _
/-! ### Files by their bytes -/
theorem vB_setF {fs : Fs} {n : Nat} {f : Fl} (h : OkF fs) (k : Nat) : vB (setF fs n f) k = if k = n then f.b else vB fs k := by
  show (fget (setF fs n f) k).b = _
  rw [fget_setF h.keys]
  by_cases e : k = n
  · rw [if_pos e, if_pos (by omega)]
    by_cases e2 : f.b = []
    · rw [if_pos e2, e2]; rfl
    · rw [if_neg e2]
  · rw [if_neg e, if_neg (by omega)]; rfl
theorem vD_setF {fs : Fs} {n : Nat} {f : Fl} (h : OkF fs) (k : Nat) : vD (setF fs n f) k = if k = n then (if f.b = [] then 0 else f.dur) else vD fs k := by
  show (fget (setF fs n f) k).dur = _
  rw [fget_setF h.keys]
  by_cases e : k = n
  · rw [if_pos e, if_pos (by omega)]
    by_cases e2 : f.b = []
    · rw [if_pos e2, if_pos e2]; rfl
    · rw [if_neg e2, if_neg e2]
  · rw [if_neg e, if_neg (by omega)]; rfl
theorem vB_hard (fs : Fs) (k : Nat) : vB (hard fs) k = vB fs k := by
  show (fget (hard fs) k).b = _; rw [fget_hard]; rfl
theorem vD_hard (fs : Fs) (k : Nat) : vD (hard fs) k = (vB fs k).length := by
  show (fget (hard fs) k).dur = _; rw [fget_hard]; rfl
/-! ### The log -/
structure Lft (s : Ds) : Prop where
  lo : -1 ≤ s.left
  hi : s.left ≤ 4611686018427387904
  armed : s.armed = true → 0 ≤ s.left
structure Rm (s : Ds) : Prop where
  used : used s.fs ≤ s.room
  room : s.room ≤ 16777216
structure LogSt (s : Ds) (g : Lg) (f : Nat) (L : List (List UInt8)) : Prop where
  ok : OkF s.fs
  lft : Lft s
  rm : Rm s
  off : s.off = false
  gf : g.f = (f : Int)
  hf : f < 64
  n : g.n = L.length
  dn : g.dn = false
  b : vB s.fs f = framesJ 0 L
  hard : ∀ k, vD s.fs k = (vB s.fs k).length
structure LogDn (s : Ds) (g : Lg) (f : Nat) (L : List (List UInt8)) (x : List UInt8) : Prop where
  ok : OkF s.fs
  lft : Lft s
  rm : Rm s
  off : s.off = true
  gf : g.f = (f : Int)
  hf : f < 64
  n : g.n = L.length
  dn : g.dn = true
  b : vB s.fs f = framesJ 0 (L ++ [x])
  d : vD s.fs f = (framesJ 0 L).length
theorem step_cases (s : Ds) (h : Lft s) : (s.armed = false ∧ stepS s = s ∧ stepB s = true) ∨
    (s.armed = true ∧ 0 < s.left ∧ stepS s = { s with left := s.left - 1 } ∧ (s.off = false → stepB s = true)) ∨
    (s.armed = true ∧ s.left = 0 ∧ stepS s = { s with left := -1, off := true, armed := false } ∧ stepB s = false) := by
  by_cases ha : s.armed = true
  case neg =>
    have ha : s.armed = false := by simpa using ha
    exact .inl ⟨ha, by unfold stepS; rw [if_neg (by rw [ha]; simp)], by unfold stepB; rw [if_neg (by rw [ha]; simp)]⟩
  case pos =>
    have h0 := h.armed ha
    by_cases hl : s.left - 1 < 0
    · have e : stepS s = { s with left := s.left - 1, off := true, armed := false } := by unfold stepS; rw [if_pos ha, if_pos hl]
      have e0 : s.left = 0 := by omega
      refine .inr (.inr ⟨ha, e0, ?_, ?_⟩)
      · rw [e, e0]; rfl
      · unfold stepB; rw [if_pos ha, e]; rfl
    · have e : stepS s = { s with left := s.left - 1 } := by unfold stepS; rw [if_pos ha, if_neg hl]
      refine .inr (.inl ⟨ha, by omega, e, fun ho => ?_⟩)
      unfold stepB; rw [if_pos ha, e]
      show (!s.off) = true
      rw [ho]; rfl
theorem step_lft {s : Ds} (h : Lft s) : Lft (stepS s) := by
  rcases step_cases s h with ⟨_, e, _⟩ | ⟨ha, hl, e, _⟩ | ⟨ha, hl, e, _⟩ <;> rw [e]
  · exact h
  · exact ⟨by show -1 ≤ s.left - 1; omega, by show s.left - 1 ≤ _; have := h.hi; omega, fun _ => by show 0 ≤ s.left - 1; omega⟩
  · exact ⟨by show (-1 : Int) ≤ -1; omega, by show (-1 : Int) ≤ _; omega, fun e => by cases e⟩
theorem Lft.fs {s : Ds} (h : Lft s) (fs : Fs) : Lft { s with fs := fs } := ⟨h.lo, h.hi, h.armed⟩
/-- an Append to a log that is up -/
theorem log_append {s : Ds} {g : Lg} {f : Nat} {L : List (List UInt8)} {x : List UInt8} {z : RdX} (h : LogSt s g f L) (hx : x.length ≤ 65536) (hz : ((fget s.fs g.f).b ++ lgFr g x).length ≤ z.c) (hr : used s.fs + (lgFr g x).length ≤ s.room) :
    (lgE s g x z = 0 ∧ LogSt (lgS s g x z) (lgG s g x z) f (L ++ [x]) ∧ (s.armed = false → (lgS s g x z).armed = false) ∧ used (lgS s g x z).fs = used s.fs + (lgFr g x).length ∧ (lgS s g x z).room = s.room ∧ (∀ k, k ≠ f → vB (lgS s g x z).fs k = vB s.fs k)) ∨
    (lgE s g x z = 22 ∧ s.armed = true ∧ LogDn (lgS s g x z) (lgG s g x z) f L x ∧ used (lgS s g x z).fs = used s.fs + (lgFr g x).length ∧ (lgS s g x z).room = s.room) := by
  have hth : there g.f := by rw [h.gf]; exact ⟨by omega, by have := h.hf; omega⟩
  have h1 : ¬ s.off = true := by rw [h.off]; simp
  have h2 : ¬ g.dn = true := by rw [h.dn]; simp
  have hx2 : ¬ (65536 : Int) < x.length := by omega
  have hroom : ¬ (s.room : Int) - used s.fs < (lgFr g x).length := by omega
  have hpos := lgFr_pos g x
  -- the bytes
  have hbb : (fget s.fs g.f).b = framesJ 0 L := by rw [h.gf]; exact h.b
  have hfr : framesJ 0 (L ++ [x]) = framesJ 0 L ++ lgFr g x := by rw [framesJ_snoc, Nat.zero_add]; unfold lgFr; rw [h.n]
  have hdd : (fget s.fs g.f).dur = (framesJ 0 L).length := by
    have h3 := h.hard f; rw [h.b] at h3; rw [h.gf]; exact h3
  obtain ⟨s1, hs1⟩ : ∃ s1 : Ds, s1 = { s with fs := setF s.fs g.f (appF s g.f (lgFr g x) z) } := ⟨_, rfl⟩
  have hS : appS s g.f (lgFr g x) z = stepS s1 := by unfold appS; rw [if_neg (show ¬ ¬ there g.f from fun e => e hth), if_neg h1, if_neg hroom, hs1]
  have hE : appE s g.f (lgFr g x) = if stepB s1 = true then 0 else 22 := by
    unfold appE; rw [if_neg (show ¬ ¬ there g.f from fun e => e hth), if_neg h1, if_neg hroom]
    rw [show stepB s1 = stepB s from by rw [hs1]; exact stepB_fs s _]
  have hnz : (appF s g.f (lgFr g x) z).b = framesJ 0 (L ++ [x]) := by show (fget s.fs g.f).b ++ lgFr g x = _; rw [hbb, hfr]
  have hne : (appF s g.f (lgFr g x) z).b ≠ [] := by
    intro e; have := congrArg List.length (hnz.symm.trans e); rw [hfr, List.length_append, List.length_nil] at this; omega
  have hok1 : OkF s1.fs := by
    rw [hs1]; exact h.ok.setF hth ⟨hz, by show (fget s.fs g.f).dur ≤ ((fget s.fs g.f).b ++ lgFr g x).length; rw [List.length_append, hdd, hbb]; omega⟩
  have hl1 : Lft s1 := by rw [hs1]; exact h.lft.fs _
  have ho1 : s1.off = false := by rw [hs1]; exact h.off
  have hrm1 : s1.room = s.room := by rw [hs1]
  have har1 : s1.armed = s.armed := by rw [hs1]
  have hvb : ∀ k, vB s1.fs k = if k = f then framesJ 0 (L ++ [x]) else vB s.fs k := fun k => by rw [hs1]; show vB (setF s.fs g.f _) k = _; rw [h.gf, vB_setF h.ok, ← h.gf, hnz]
  have hvd : vD s1.fs f = (framesJ 0 L).length := by
    rw [hs1]; show vD (setF s.fs g.f _) f = _
    rw [h.gf, vD_setF h.ok, if_pos rfl, ← h.gf, if_neg hne]
    exact hdd
  have hus : used s1.fs = used s.fs + (lgFr g x).length := by
    have := files_app (s := s) (n := g.f) (fr := lgFr g x) (z := z) h.ok hth hz hpos
    rw [used_hard] at this
    rw [hs1]; exact this.2.2
  have down : ∀ t : Ds, lgS s g x z = t → t.fs = s1.fs → t.off = true → t.room = s.room → Lft t → lgE s g x z = 22 → lgG s g x z = lgN g 22 → LogDn (lgS s g x z) (lgG s g x z) f L x ∧ used (lgS s g x z).fs = used s.fs + (lgFr g x).length ∧ (lgS s g x z).room = s.room := by
    intro t e1 e2 e3 e4 e5 e6 e7
    rw [e1, e7]
    exact ⟨⟨by rw [e2]; exact hok1, e5, ⟨by rw [e2, e4, hus]; exact hr, by rw [e4]; exact h.rm.room⟩, e3, h.gf, h.hf, by show (if (22 : Int) = 0 then g.n + 1 else g.n) = _; rw [if_neg (by decide)]; exact h.n, rfl, by rw [e2, hvb, if_pos rfl], by rw [e2, hvd]⟩, by rw [e2, hus], e4⟩
  have up : ∀ t : Ds, lgS s g x z = { t with fs := hard t.fs } → t.fs = s1.fs → t.off = false → t.room = s.room → Lft t → (s.armed = false → t.armed = false) → lgE s g x z = 0 → lgG s g x z = lgN g 0 →
      (lgE s g x z = 0 ∧ LogSt (lgS s g x z) (lgG s g x z) f (L ++ [x]) ∧ (s.armed = false → (lgS s g x z).armed = false) ∧ used (lgS s g x z).fs = used s.fs + (lgFr g x).length ∧ (lgS s g x z).room = s.room ∧ (∀ k, k ≠ f → vB (lgS s g x z).fs k = vB s.fs k)) := by
    intro t e1 e2 e3 e4 e5 e6 e7 e8
    rw [e1, e8]
    refine ⟨e7, ⟨?_, e5.fs _, ⟨?_, ?_⟩, e3, h.gf, h.hf, ?_, rfl, ?_, fun k => ?_⟩, e6, ?_, e4, fun k hk => ?_⟩
    · show OkF (hard t.fs); rw [e2]; exact hok1.hard
    · show used (hard t.fs) ≤ t.room; rw [used_hard, e2, hus, e4]; exact hr
    · show t.room ≤ _; rw [e4]; exact h.rm.room
    · show (if (0 : Int) = 0 then g.n + 1 else g.n) = _; rw [if_pos rfl, h.n, List.length_append]; rfl
    · show vB (hard t.fs) f = _; rw [vB_hard, e2, hvb, if_pos rfl]
    · show vD (hard t.fs) k = (vB (hard t.fs) k).length; rw [vD_hard, vB_hard]
    · show used (hard t.fs) = _; rw [used_hard, e2, hus]
    · show vB (hard t.fs) k = _; rw [vB_hard, e2, hvb, if_neg hk]
  rcases step_cases s1 hl1 with ⟨ha, e, eb⟩ | ⟨ha, hl, e, eb⟩ | ⟨ha, hl, e, eb⟩
  · -- nothing planned
    have hE0 : ¬ appE s g.f (lgFr g x) ≠ 0 := by rw [hE, if_pos eb]; simp
    obtain ⟨e1, e2, e3⟩ := lgE_sync (z := z) hx2 h2 hE0
    rw [hS, e] at e1 e2 e3
    have hs0 : syncE s1 = 0 := by unfold syncE; rw [if_neg (fun h => h.elim (by rw [ho1]; simp) (by rw [eb]; simp))]
    have hss : syncS s1 = { s1 with fs := hard s1.fs } := by unfold syncS; rw [if_neg (by rw [ho1]; simp), if_neg (by rw [eb]; simp), e]
    rw [hs0] at e1 e3
    rw [hss] at e2
    exact .inl (up s1 e2 rfl ho1 hrm1 hl1 (fun h => har1.trans h) e1 e3)
  · -- the first step is let through
    have hE0 : ¬ appE s g.f (lgFr g x) ≠ 0 := by rw [hE, if_pos (eb ho1)]; simp
    obtain ⟨e1, e2, e3⟩ := lgE_sync (z := z) hx2 h2 hE0
    rw [hS] at e1 e2 e3
    have hl2 := step_lft hl1
    have ho2 : (stepS s1).off = false := by rw [e]; exact ho1
    rcases step_cases (stepS s1) hl2 with ⟨ha2, f, fb⟩ | ⟨ha2, hlt2, f, fb⟩ | ⟨ha2, hlt2, f, fb⟩
    · exfalso; rw [e] at ha2; rw [show ({ s1 with left := s1.left - 1 } : Ds).armed = s1.armed from rfl, ha] at ha2; cases ha2
    · have hs0 : syncE (stepS s1) = 0 := by unfold syncE; rw [if_neg (fun h => h.elim (by rw [ho2]; simp) (by rw [fb ho2]; simp))]
      have hss : syncS (stepS s1) = { stepS (stepS s1) with fs := hard (stepS (stepS s1)).fs } := by unfold syncS; rw [if_neg (by rw [ho2]; simp), if_neg (by rw [fb ho2]; simp)]
      rw [hs0] at e1 e3
      rw [hss] at e2
      refine .inl (up (stepS (stepS s1)) e2 (by rw [stepS_fs, stepS_fs]) ?_ (by rw [stepS_room, stepS_room, hrm1]) (step_lft hl2) (fun h => ?_) e1 e3)
      · rw [f]; exact ho2
      · exfalso; rw [har1, h] at ha; cases ha
    · have hs0 : syncE (stepS s1) = 22 := by unfold syncE; rw [if_pos (Or.inr fb)]
      have hss : syncS (stepS s1) = stepS (stepS s1) := by unfold syncS; rw [if_neg (by rw [ho2]; simp), if_pos fb]
      rw [hs0] at e1 e3
      rw [hss] at e2
      exact .inr ⟨e1, har1 ▸ ha, down _ e2 (by rw [stepS_fs, stepS_fs]) (by rw [f]) (by rw [stepS_room, stepS_room, hrm1]) (step_lft hl2) e1 e3⟩
  · have hE1 : appE s g.f (lgFr g x) = 22 := by rw [hE, if_neg (by rw [eb]; simp)]
    obtain ⟨e1, e2, e3⟩ := lgE_app (z := z) hx2 h2 (show appE s g.f (lgFr g x) ≠ 0 by rw [hE1]; decide)
    rw [hE1] at e1 e3
    rw [hS] at e2
    exact .inr ⟨e1, har1 ▸ ha, down _ e2 (stepS_fs _) (by rw [e]) (by rw [stepS_room, hrm1]) (step_lft hl1) e1 e3⟩
/-- an Append when the power is about to fail -/
theorem log_fail {s : Ds} {g : Lg} {f : Nat} {L : List (List UInt8)} {x : List UInt8} {z : RdX} (h : LogSt s g f L) (ha : s.armed = true) (h0 : s.left = 0) (hx : x.length ≤ 65536) (hr : used s.fs + (lgFr g x).length ≤ s.room) : lgE s g x z = 22 := by
  have hth : there g.f := by rw [h.gf]; exact ⟨by omega, by have := h.hf; omega⟩
  have h1 : ¬ s.off = true := by rw [h.off]; simp
  have h2 : ¬ g.dn = true := by rw [h.dn]; simp
  have hb : stepB s = false := by
    rcases step_cases s h.lft with ⟨e, _⟩ | ⟨_, e, _⟩ | ⟨_, _, _, e⟩
    · rw [ha] at e; cases e
    · omega
    · exact e
  have hE : appE s g.f (lgFr g x) = 22 := by
    unfold appE; rw [if_neg (show ¬ ¬ there g.f from fun e => e hth), if_neg h1, if_neg (by omega), if_neg (by rw [hb]; simp)]
  have := (lgE_app (z := z) (show ¬ (65536 : Int) < x.length by omega) h2 (show appE s g.f (lgFr g x) ≠ 0 by rw [hE]; decide)).1
  rw [this, hE]
/-- an Append to a log that is down -/
theorem log_down {s : Ds} {g : Lg} {x : List UInt8} {z : RdX} (hd : g.dn = true) (hx : x.length ≤ 65536) : lgE s g x z = 22 ∧ lgS s g x z = s ∧ lgG s g x z = g := by
  obtain ⟨e1, e2, e3⟩ := lgE_dn (s := s) (g := g) (x := x) (z := z) (by omega) hd
  refine ⟨e1, e2, ?_⟩
  rw [e3]
  obtain ⟨f, n, dn⟩ := g
  simp only at hd
  subst hd
  rfl
/-! ### After a crash -/
theorem cutB_take (B : Nat → List UInt8) (D : Nat → Nat) (keep : List Int) (n : Nat) : ∃ m, D n ≤ m ∧ cutB B D keep n = (B n).take m := ⟨_, Nat.le_add_right _ _, rfl⟩
theorem cutB_hard {B : Nat → List UInt8} {D : Nat → Nat} (h : ∀ k, D k = (B k).length) (keep : List Int) (n : Nat) : cutB B D keep n = B n := by
  unfold cutB; rw [h n, List.take_of_length_le (by omega)]
theorem looseB_hard {B : Nat → List UInt8} {D : Nat → Nat} (h : ∀ k, D k = (B k).length) (keep : List Int) : looseB B D keep = [] := by
  unfold looseB
  rw [List.flatMap_eq_nil_iff]
  intro n _
  rw [cutB_hard h, h n, Nat.sub_self]; rfl
theorem crashB_hard {B : Nat → List UInt8} {D : Nat → Nat} (h : ∀ k, D k = (B k).length) (keep : List Int) (flip : Int) (n : Nat) : crashB B D keep flip n = B n := by
  unfold crashB
  rw [looseB_hard h]
  split
  · exact cutB_hard h keep n
  · exact cutB_hard h keep n
theorem turnB_take {b : List UInt8} {j r m : Nat} (h : m ≤ j) : (turnB b j r).take m = b.take m := by
  unfold turnB; rw [List.take_set_of_le h]
theorem looseB_mem {B : Nat → List UInt8} {D : Nat → Nat} {keep : List Int} {x : Nat × Nat} (h : x ∈ looseB B D keep) : x.1 ∈ filesB B ∧ D x.1 ≤ x.2 ∧ x.2 < (cutB B D keep x.1).length := by
  obtain ⟨n, hn, hx⟩ := List.mem_flatMap.1 h
  obtain ⟨j, hj, rfl⟩ := List.mem_map.1 hx
  have := List.mem_range'_1.1 hj
  exact ⟨hn, this.1, by have := this.2; show j < (cutB B D keep n).length; omega⟩
/-- what was durable stays -/
theorem crashB_firm {B : Nat → List UInt8} {D : Nat → Nat} (keep : List Int) (flip : Int) (n : Nat) (hd : D n ≤ (B n).length) : (crashB B D keep flip n).take (D n) = (B n).take (D n) ∧ D n ≤ (crashB B D keep flip n).length := by
  have h1 : (cutB B D keep n).take (D n) = (B n).take (D n) := by
    obtain ⟨m, hm, e⟩ := cutB_take B D keep n
    rw [e, List.take_take, Nat.min_eq_left hm]
  have h2 : D n ≤ (cutB B D keep n).length := by
    unfold cutB; rw [List.length_take]; omega
  refine ⟨?_, by rw [crashB_len]; exact h2⟩
  unfold crashB
  split
  · exact h1
  · split
    · rename_i m j hmj
      split
      · rename_i hnm
        have h3 := (looseB_mem (List.mem_of_getElem? hmj)).2.1
        rw [turnB_take (by rw [hnm]; exact h3), h1]
      · exact h1
    · exact h1
theorem CrashR.calm {s t : Ds} {keep : List Int} {flip : Int} (h : CrashR s keep flip t) : CalmD t := ⟨h.off, h.armed⟩
theorem fget_big {fs : Fs} (h : OkF fs) {k : Nat} (hk : 64 ≤ k) : fget fs k = fl0 := vB_empty fun p hp => by have := h.fits p hp; omega
theorem CrashR.hard {s t : Ds} {keep : List Int} {flip : Int} (h : CrashR s keep flip t) (k : Nat) : vD t.fs k = (vB t.fs k).length := by
  by_cases hk : k < 64
  · exact h.d k hk
  · unfold vD vB; rw [fget_big h.ok (by omega)]; rfl
theorem scan_cut {i : Nat} {x p : List UInt8} {m : Nat} (hp : p = (frameJ (i : Int) x).take m) (hi : i ≤ 4611686018427387904) (hx : x.length ≤ 65536) : scanJ i p = [] ∨ scanJ i p = [x] := by
  by_cases hm : (frameJ (i : Int) x).length ≤ m
  · right
    have h := scanJ_frames [x] i [] ⟨by simp; omega, fun y hy => by rw [List.mem_singleton.1 hy]; omega⟩
    have e : framesJ i [x] = frameJ (i : Int) x := by
      show frameJ _ x ++ [] = _; rw [List.append_nil]
    rw [e, List.append_nil, scanJ_nil, List.append_nil] at h
    rw [hp, List.take_of_length_le hm]; exact h
  · left
    refine scanJ_no fun hpre => ?_
    obtain ⟨r1, hr1⟩ := hpre
    have e : frameJ (i : Int) x = frameJ (i : Int) (recOf p) ++ (r1 ++ (frameJ (i : Int) x).drop m) := by
      rw [← List.append_assoc, hr1, hp, List.take_append_drop]
    have hl : (recOf p).length ≤ 4611686018427387000 := by
      have h1 := recOf_len (b := p)
      have h2 : p.length ≤ x.length + 40 := by
        rw [hp, List.length_take]
        have := (frameJ_len (i := (i : Int)) (x := x) (by omega) (by omega) (by omega)).1; omega
      omega
    have h1 := recOf_frame (i := (i : Int)) (x := recOf p) (rest := r1 ++ (frameJ (i : Int) x).drop m) (by omega) (by omega) hl
    rw [← e] at h1
    have h2 := recOf_frame (i := (i : Int)) (x := x) (rest := []) (by omega) (by omega) (by omega)
    rw [List.append_nil] at h2
    have h3 : recOf p = x := h1.symm.trans h2
    rw [h3] at hr1
    have h4 := congrArg List.length hr1
    rw [List.length_append, hp, List.length_take] at h4
    omega
end Go.GL

namespace Go.GL
set_option linter.unusedVariables false
theorem log_open {s : Ds} {f : Nat} (hok : OkF s.fs) (hc : CalmD s) (hl : Lft s) (hr : Rm s) (hf : f < 64) :
    LogSt { s with fs := openFs s f } ⟨f, (scanJ 0 (vB s.fs f)).length, false⟩ f (scanJ 0 (vB s.fs f)) ∧ (∀ k, k ≠ f → vB (openFs s f) k = vB s.fs k) ∧ used (openFs s f) ≤ used s.fs := by
  obtain ⟨rest, hrest⟩ := scanJ_split (vB s.fs f).length (vB s.fs f) 0 (Nat.le_refl _)
  obtain ⟨L, hL⟩ : ∃ L, L = scanJ 0 (vB s.fs f) := ⟨_, rfl⟩
  rw [← hL] at hrest
  have hth : there (f : Int) := ⟨by omega, by omega⟩
  have key : ∃ fs0, openFs s f = hard fs0 ∧ OkF fs0 ∧ vB fs0 f = framesJ 0 L ∧ (∀ k, k ≠ f → vB fs0 k = vB s.fs k) := by
    unfold openFs
    have e0 : (fget s.fs (f : Int)).b = vB s.fs f := rfl
    rw [e0, ← hL]
    by_cases hlt : (framesJ 0 L).length < (vB s.fs f).length
    · rw [if_pos hlt]
      refine ⟨_, rfl, hok.setF hth (truncF_ok hok _ _), ?_, fun k hk => ?_⟩
      · rw [vB_setF hok, if_pos rfl]
        show (vB s.fs f).take (framesJ 0 L).length = _
        conv => lhs; rw [hrest]
        rw [List.take_left']
        rfl
      · rw [vB_setF hok, if_neg hk]
    · rw [if_neg hlt]
      refine ⟨_, rfl, hok, ?_, fun k _ => rfl⟩
      have h1 := congrArg List.length hrest
      rw [List.length_append] at h1
      have : rest = [] := List.eq_nil_of_length_eq_zero (by omega)
      rw [this, List.append_nil] at hrest
      exact hrest
  obtain ⟨fs0, e1, e2, e3, e4⟩ := key
  have hus : used (openFs s f) ≤ used s.fs := by
    rw [e1, used_hard]
    refine used_mono e2 hok fun n _ => ?_
    by_cases e : n = f
    · rw [e, e3, hrest, List.length_append]; omega
    · rw [e4 n e]; omega
  rw [← hL]
  refine ⟨⟨?_, hl.fs _, ⟨Nat.le_trans hus hr.used, hr.room⟩, hc.off, rfl, hf, rfl, rfl, ?_, fun k => ?_⟩, fun k hk => ?_, hus⟩
  · show OkF (openFs s f); rw [e1]; exact e2.hard
  · show vB (openFs s f) f = _; rw [e1, vB_hard, e3]
  · show vD (openFs s f) k = (vB (openFs s f) k).length; rw [e1, vD_hard, vB_hard]
  · rw [e1, vB_hard, e4 k hk]
theorem CrashR.lft {s t : Ds} {keep : List Int} {flip : Int} (h : CrashR s keep flip t) (hl : Lft s) : Lft t := ⟨by rw [h.left]; exact hl.lo, by rw [h.left]; exact hl.hi, fun e => by rw [h.armed] at e; cases e⟩
theorem CrashR.rm {s t : Ds} {keep : List Int} {flip : Int} (h : CrashR s keep flip t) (hok : OkF s.fs) (hr : Rm s) : Rm t := ⟨by rw [h.room]; exact Nat.le_trans (h.used hok) hr.used, by rw [h.room]; exact hr.room⟩
theorem crash_hard {s t : Ds} {keep : List Int} {flip : Int} (h : CrashR s keep flip t) (hok : OkF s.fs) (hh : ∀ k, vD s.fs k = (vB s.fs k).length) (k : Nat) : vB t.fs k = vB s.fs k := by
  by_cases hk : k < 64
  · rw [h.b k hk, crashB_hard hh]
  · unfold vB; rw [fget_big h.ok (by omega), fget_big hok (by omega)]
theorem crash_dn {s t : Ds} {g : Lg} {f : Nat} {L : List (List UInt8)} {x : List UInt8} {keep : List Int} {flip : Int} (hd : LogDn s g f L x) (h : CrashR s keep flip t) (hf : flip < 0) : ∃ m, (framesJ 0 L).length ≤ m ∧ vB t.fs f = (framesJ 0 (L ++ [x])).take m := by
  rw [h.b f hd.hf, crashB_calm _ _ _ _ _ hf]
  obtain ⟨m, hm, e⟩ := cutB_take (vB s.fs) (vD s.fs) keep f
  exact ⟨m, by rw [← hd.d]; exact hm, by rw [e, hd.b]⟩
theorem crash_firm {s t : Ds} {g : Lg} {f : Nat} {L : List (List UInt8)} {x : List UInt8} {keep : List Int} {flip : Int} (hd : LogDn s g f L x) (h : CrashR s keep flip t) : ∃ rest, vB t.fs f = framesJ 0 L ++ rest := by
  have h1 := crashB_firm (B := vB s.fs) (D := vD s.fs) keep flip f (fget_each hd.ok f).2
  rw [hd.d, hd.b] at h1
  refine ⟨(vB t.fs f).drop (framesJ 0 L).length, ?_⟩
  conv => lhs; rw [← List.take_append_drop (framesJ 0 L).length (vB t.fs f)]
  congr 1
  rw [h.b f hd.hf, h1.1, framesJ_append, List.take_left']
  rfl
/-- a log of which all is there, or all but a part of the last frame -/
theorem scan_prefix {L : List (List UInt8)} {x : List UInt8} {m : Nat} (hm : (framesJ 0 L).length ≤ m) (hL : L.length ≤ 4611686018427387904) (hl : ∀ y, y ∈ L → y.length ≤ 65536) (hx : x.length ≤ 65536) :
    scanJ 0 ((framesJ 0 (L ++ [x])).take m) = L ∨ scanJ 0 ((framesJ 0 (L ++ [x])).take m) = L ++ [x] := by
  have e : (framesJ 0 (L ++ [x])).take m = framesJ 0 L ++ (frameJ (L.length : Int) x).take (m - (framesJ 0 L).length) := by
    rw [framesJ_snoc, Nat.zero_add, List.take_append, List.take_of_length_le hm]
  have h1 := scanJ_frames L 0 ((frameJ (L.length : Int) x).take (m - (framesJ 0 L).length)) ⟨by omega, fun y hy => by have := hl y hy; omega⟩
  rw [e, h1, Nat.zero_add]
  rcases scan_cut (i := L.length) (x := x) rfl hL hx with e2 | e2
  · left; rw [e2, List.append_nil]
  · right; rw [e2]
theorem scan_firm {L : List (List UInt8)} {rest : List UInt8} (hL : L.length ≤ 4611686018427387904) (hl : ∀ y, y ∈ L → y.length ≤ 65536) : ∃ L', scanJ 0 (framesJ 0 L ++ rest) = L ++ L' := ⟨_, scanJ_frames L 0 rest ⟨by omega, fun y hy => by have := hl y hy; omega⟩⟩
theorem scan_all {L : List (List UInt8)} (hL : L.length ≤ 4611686018427387904) (hl : ∀ y, y ∈ L → y.length ≤ 65536) : scanJ 0 (framesJ 0 L) = L := by
  have h := scanJ_frames L 0 [] ⟨by omega, fun y hy => by have := hl y hy; omega⟩
  rw [List.append_nil, scanJ_nil, List.append_nil] at h; exact h
def armS (s : Ds) (n : Int) : Ds := if s.off = true then s else { s with armed := decide (0 ≤ n), left := n }
theorem armS_on {s : Ds} {n : Int} (h : s.off = false) : armS s n = { s with armed := decide (0 ≤ n), left := n } := by unfold armS; rw [if_neg (by rw [h]; simp)]
theorem LogSt.arm {s : Ds} {g : Lg} {f : Nat} {L : List (List UInt8)} {n : Int} (h : LogSt s g f L) (h0 : -1 ≤ n) (h1 : n ≤ 4611686018427387904) : LogSt (armS s n) g f L := by
  rw [armS_on h.off]
  exact ⟨h.ok, ⟨h0, h1, fun e => of_decide_eq_true e⟩, ⟨h.rm.used, h.rm.room⟩, h.off, h.gf, h.hf, h.n, h.dn, h.b, h.hard⟩
theorem LogSt.used {s : Ds} {g : Lg} {f : Nat} {L : List (List UInt8)} (h : LogSt s g f L) : used s.fs ≤ 16777216 := Nat.le_trans h.rm.used h.rm.room
theorem appends_len {s : Ds} {g : Lg} {x : List UInt8} (hn : g.n ≤ 4611686018427387904) (hx : x.length ≤ 65536) : (lgFr g x).length ≤ x.length + 40 := (frameJ_len (i := (g.n : Int)) (x := x) (by omega) (by omega) (by omega)).1
/-- what an Append to a log that is up leaves -/
def AppR (s : Ds) (f : Nat) (L : List (List UInt8)) (x : List UInt8) (q : Int × Ds × Lg) : Prop :=
  (q.1 = 0 ∧ LogSt q.2.1 q.2.2 f (L ++ [x]) ∧ (s.armed = false → q.2.1.armed = false) ∧ used q.2.1.fs ≤ used s.fs + x.length + 40 ∧ q.2.1.room = s.room ∧ ∀ k, k ≠ f → vB q.2.1.fs k = vB s.fs k) ∨
  (q.1 = 22 ∧ s.armed = true ∧ LogDn q.2.1 q.2.2 f L x ∧ used q.2.1.fs ≤ used s.fs + x.length + 40 ∧ q.2.1.room = s.room)
theorem AppR.of {s : Ds} {g : Lg} {f : Nat} {L : List (List UInt8)} {x : List UInt8} {z : RdX} (h : LogSt s g f L) (hn : g.n ≤ 4611686018427387904) (hx : x.length ≤ 65536) (hz : ((fget s.fs g.f).b ++ lgFr g x).length ≤ z.c) (hr : Go.GL.used s.fs + x.length + 40 ≤ s.room) :
    AppR s f L x (lgE s g x z, lgS s g x z, lgG s g x z) := by
  have hl := appends_len (s := s) (x := x) hn hx
  rcases log_append (z := z) h hx hz (by omega) with ⟨e1, e2, e3, e4, e5, e6⟩ | ⟨e1, e2, e3, e4, e5⟩
  · exact .inl ⟨e1, e2, e3, by show Go.GL.used (lgS s g x z).fs ≤ _; omega, e5, e6⟩
  · exact .inr ⟨e1, e2, e3, by show Go.GL.used (lgS s g x z).fs ≤ _; omega, e5⟩
/-- what an opening in a calm disk leaves -/
structure OpenR (s : Ds) (f : Nat) (q : (Nat × LsX) × Ds) : Prop where
  recs : q.1.2.ps.map Prod.fst = scanJ 0 (vB s.fs f)
  caps : ∀ p, p ∈ q.1.2.ps → p.1.length ≤ p.2.c
  st : LogSt q.2 ⟨f, q.1.2.ps.length, false⟩ f (scanJ 0 (vB s.fs f))
  armed : q.2.armed = false
  used : Go.GL.used q.2.fs ≤ Go.GL.used s.fs
  room : q.2.room = s.room
  other : ∀ k, k ≠ f → vB q.2.fs k = vB s.fs k
theorem LogSt.other {s s' : Ds} {g g' : Lg} {f f' : Nat} {L L' : List (List UInt8)} (h : LogSt s g f L) (h' : LogSt s' g' f' L') (hk : vB s'.fs f = vB s.fs f) : LogSt s' g f L := ⟨h'.ok, h'.lft, h'.rm, h'.off, h.gf, h.hf, h.n, h.dn, by rw [hk]; exact h.b, h'.hard⟩
theorem LogSt.crash {s t : Ds} {g : Lg} {f : Nat} {L : List (List UInt8)} {keep : List Int} {flip : Int} (h : LogSt s g f L) (c : CrashR s keep flip t) : LogSt t g f L := ⟨c.ok, c.lft h.lft, c.rm h.ok h.rm, c.off, h.gf, h.hf, h.n, h.dn, by rw [crash_hard c h.ok h.hard]; exact h.b, c.hard⟩
theorem LogSt.calm {s : Ds} {g : Lg} {f : Nat} {L : List (List UInt8)} (h : LogSt s g f L) (ha : s.armed = false) : CalmD s := ⟨h.off, ha⟩
theorem frameJ_four (i : Int) (x : List UInt8) : 4 ≤ (frameJ i x).length := by
  have h1 := encU_pos (zz i); have h2 := encU_pos x.length; have h3 := encU_pos (coreJ i x).length; have h4 := encU_pos (hashN jl (coreJ i x))
  have h5 : (coreJ i x).length = (encU (zz i)).length + ((encU x.length).length + x.length) := by unfold coreJ encR; rw [List.length_append, List.length_append]
  unfold frameJ encR
  rw [List.length_append, List.length_append]
  omega
theorem scan_short {b : List UInt8} (h : b.length ≤ 3) : scanJ 0 b = [] := scanJ_no fun hp => by
  have := hp.length_le
  have := frameJ_four ((0 : Nat) : Int) (recOf b)
  omega
theorem fresh_log {m k f : Nat} {o : Nat × LsX} {t : Ds} (h : OpenR ⟨m, [], k, false, false, 0⟩ f (o, t)) : LogSt t ⟨(f : Nat), o.2.ps.length, false⟩ f [] ∧ Go.GL.used t.fs = 0 := by
  have h1 := h.st
  have e : scanJ 0 (vB ([] : Fs) f) = [] := scanJ_nil
  rw [e] at h1
  exact ⟨h1, Nat.le_zero.1 h.used⟩
theorem fresh_lft {m k : Nat} : Lft ⟨m, [], k, false, false, 0⟩ := ⟨by show (-1 : Int) ≤ 0; decide, by show (0 : Int) ≤ _; decide, fun e => by cases e⟩
theorem fresh_rm {m k : Nat} (hk : k ≤ 16777216) : Rm ⟨m, [], k, false, false, 0⟩ := ⟨Nat.zero_le _, hk⟩
/-! ### A disk as one part -/
def DkB (T b : Nat) (s : Ds) : HP := Al [Box b T (dkC s), MpB s.m (fsV s.fs)]
theorem St.dkOpen {w : World} {F : List Fact} {T b : Nat} {s : Ds} (L : List HP) {M : List HP} (h : St w (L ++ (DkB T b s :: M)) F) : St w (L ++ (Box b T (dkC s) :: MpB s.m (fsV s.fs) :: M)) F := by
  have h1 : St w (DkB T b s :: (L ++ M)) F := h.perm List.perm_middle
  have h2 : St w ([Box b T (dkC s), MpB s.m (fsV s.fs)] ++ (L ++ M)) F := h1.alOpen
  exact h2.perm (perm_mid [Box b T (dkC s), MpB s.m (fsV s.fs)] L M)
theorem St.dkClose {w : World} {F : List Fact} {T b : Nat} {s : Ds} (L : List HP) {M : List HP} (h : St w (L ++ (Box b T (dkC s) :: MpB s.m (fsV s.fs) :: M)) F) : St w (L ++ (DkB T b s :: M)) F := by
  have h1 : St w ([Box b T (dkC s), MpB s.m (fsV s.fs)] ++ (L ++ M)) F := h.perm (perm_mid L [Box b T (dkC s), MpB s.m (fsV s.fs)] M)
  have h2 : St w (DkB T b s :: (L ++ M)) F := h1.alClose
  exact h2.perm List.perm_middle.symm
theorem Ctr.dk {P : Program} {f : FuncId} {args : List Value} {M : List HP} {F : List Fact} {ι : Type} {val : ι → Value} {F' : ι → List Fact} {T b : Nat} {s : Ds} (L : List HP) (L' : ι → List HP) (s' : ι → Ds)
    (h : Ctr P f args (L ++ (Box b T (dkC s) :: MpB s.m (fsV s.fs) :: M)) F ι val (fun i => L' i ++ (Box b T (dkC (s' i)) :: MpB (s' i).m (fsV (s' i).fs) :: M)) F') : Ctr P f args (L ++ (DkB T b s :: M)) F ι val (fun i => L' i ++ (DkB T b (s' i) :: M)) F' :=
  h.weak (fun w hw => hw.dkOpen L) id (fun _ => rfl) (fun i w hw => hw.dkClose (L' i))
end Go.GL

namespace Go.Proofs.YtdlpaojkkekdlaaGreat
open Go.GL
set_option linter.unusedVariables false
theorem za_tf62_2 : fieldOff Tryz.prog 62 2 2 = true := by kernel_rfl
theorem za_tf62_3 : fieldOff Tryz.prog 62 3 3 = true := by kernel_rfl
theorem za_tf62_4 : fieldOff Tryz.prog 62 4 4 = true := by kernel_rfl
theorem za_ts3 : tyScalar Tryz.prog 3 = true := by kernel_rfl
theorem za_ts4 : tyScalar Tryz.prog 4 = true := by kernel_rfl
theorem arm_spec {n : Int} {b : Nat} {s : Ds} {M : List HP} {F : List Fact} : Ctr Tryz.prog 9 [.pointer (some ⟨b, 0, none⟩), I n] (Box b 62 (dkC s) :: MpB s.m (fsV s.fs) :: M) F Unit (fun _ => .tuple #[]) (fun _ => Box b 62 (dkC (armS s n)) :: MpB (armS s n).m (fsV (armS s n).fs) :: M) (fun _ => F) := by
  refine Ctr.body Tryz.func9 rfl rfl ?_
  refine TR.seq ?_
  refine TR.region ?_
  refine RL.move rfl rfl rfl ?_
  refine RL.nilCheck rfl rfl rfl ?_
  refine RL.fieldAddr rfl za_tf62_2 rfl rfl ?_
  refine RL.load1 0 rfl za_ts4 rfl rfl rfl rfl ?_
  refine RL.not rfl rfl rfl ?_
  refine RL.nil ?_
  refine NX.seq ?_
  refine TR.cond rfl (fun h1 => ?_) (fun h1 => ?_)
  · skip
    refine TR.region ?_
    refine RL.move rfl rfl rfl ?_
    refine RL.move rfl rfl rfl ?_
    refine RL.move rfl rfl rfl ?_
    refine RL.bin rfl rfl rfl BinV.geq rfl ?_
    refine RL.move rfl rfl rfl ?_
    refine RL.nilCheck rfl rfl rfl ?_
    refine RL.fieldAddr rfl za_tf62_3 rfl rfl ?_
    refine RL.store1 0 rfl za_ts4 rfl rfl rfl rfl rfl ?_
    refine RL.nilCheck rfl rfl rfl ?_
    refine RL.fieldAddr rfl za_tf62_4 rfl rfl ?_
    refine RL.store1 0 rfl za_ts3 rfl rfl rfl rfl rfl ?_
    refine RL.nil ?_
    have hoff : s.off = false := by simpa using h1
    refine NX.end0 () rfl rfl (fun w hw => ?_)
    rw [armS_on hoff]
    exact hw
  · skip
    refine TR.skip ?_
    have hoff : s.off = true := by simpa using h1
    refine NX.end0 () rfl rfl (fun w hw => ?_)
    rw [show armS s n = s from by unfold armS; rw [if_pos hoff]]
    exact hw

theorem fresh_d {k : Nat} {M : List HP} {F : List Fact} (hk : k ≤ 16777216) : Ctr Tryz.prog 5 [I k] M F (Nat × Nat) (fun z => .pointer (some ⟨z.1, 0, none⟩)) (fun z => DkB 62 z.1 ⟨z.2, [], k, false, false, 0⟩ :: M) (fun _ => AllF [] :: F) :=
  (fresh_spec hk).weak (fun w hw => hw) id (fun _ => rfl) (fun z w hw => ((show St w ([] ++ (Box z.1 62 (dkC ⟨z.2, [], k, false, false, 0⟩) :: MpB z.2 (fsV []) :: M)) F from hw).dkClose []).derive (ψ := AllF []) (fun K hf p hp => absurd hp (by simp)))

theorem arm_d {n : Int} {b : Nat} {s : Ds} {M : List HP} {F : List Fact} : Ctr Tryz.prog 9 [.pointer (some ⟨b, 0, none⟩), I n] (DkB 62 b (s) :: M) F Unit (fun _ => .tuple #[]) (fun _ => DkB 62 b (armS s n) :: M) (fun _ => F) := Ctr.dk [] (fun _ => []) (fun _ => armS s n) arm_spec

theorem crash_d {keep : List Int} {flip : Int} {ok : Option Addr} {ck : Nat} {b : Nat} {s : Ds} {M : List HP} {F : List Fact} (hok : OkF s.fs) (hA : AllF s.fs ∈ F) (hK : ArrF ok (ints keep) ∈ F) (hks : IntsOk keep) (hu : used s.fs ≤ 16777216) (hflip : I64 flip) : Ctr Tryz.prog 11 [.pointer (some ⟨b, 0, none⟩), .slice ok keep.length ck, I flip] (DkB 62 b (s) :: M) F {t : Ds // CrashR s keep flip t} (fun _ => .tuple #[]) (fun t => DkB 62 b t.1 :: M) (fun t => AllF t.1.fs :: F) := Ctr.dk (ι := {t : Ds // CrashR s keep flip t}) (M := M) [] (fun _ => []) (fun t => t.1) (crash_spec hok hA hK hks hu hflip)

theorem lapp_up {l f : Nat} {g : Lg} {L : List (List UInt8)} {x : List UInt8} {ob : Option Addr} {cb : Nat} {b : Nat} {s : Ds} {M : List HP} {F : List Fact} (h : LogSt s g f L) (hA : AllF s.fs ∈ F) (hx : ArrF ob (bytesV x) ∈ F) (hxl : x.length ≤ 65536) (hn : L.length ≤ 4611686018427387904) (hr : used s.fs + x.length + 40 ≤ s.room) :
    Ctr Tryz.prog 15 [.pointer (some ⟨l, 0, none⟩), .slice ob x.length cb] (Box l 59 (lgC b g) :: DkB 62 b (s) :: M) F {q : Int × Ds × Lg // AppR s f L x q} (fun q => I q.1.1) (fun q => Box l 59 (lgC b q.1.2.2) :: DkB 62 b q.1.2.1 :: M) (fun q => AllF q.1.2.1.fs :: F) := by
  have hgn : g.n ≤ 4611686018427387904 := by rw [h.n]; exact hn
  have h0 := Ctr.dk (ι := {z : RdX // ((fget s.fs g.f).b ++ lgFr g x).length ≤ z.c}) (M := M) [Box l 59 (lgC b g)] (fun z => [Box l 59 (lgC b (lgG s g x z.1))]) (fun z => lgS s g x z.1) (lapp_spec (l := l) (b := b) (cb := cb) (g := g) (s := s) (x := x) h.ok hA hx h.rm.used h.rm.room (by rw [h.gf]; have := h.hf; exact ⟨by omega, by omega⟩) ⟨by have := h.lft.lo; omega, by have := h.lft.hi; omega⟩ hgn (by omega))
  exact h0.weak (fun w hw => hw) (fun z => ⟨(lgE s g x z.1, lgS s g x z.1, lgG s g x z.1), AppR.of h hgn hxl z.2 hr⟩) (fun _ => rfl) (fun z w hw => hw)
theorem lapp_ok {l f : Nat} {g : Lg} {L : List (List UInt8)} {x : List UInt8} {ob : Option Addr} {cb : Nat} {b : Nat} {s : Ds} {M : List HP} {F : List Fact} (h : LogSt s g f L) (ha : s.armed = false) (hA : AllF s.fs ∈ F) (hx : ArrF ob (bytesV x) ∈ F) (hxl : x.length ≤ 65536) (hn : L.length ≤ 4611686018427387904) (hr : used s.fs + x.length + 40 ≤ s.room) :
    Ctr Tryz.prog 15 [.pointer (some ⟨l, 0, none⟩), .slice ob x.length cb] (Box l 59 (lgC b g) :: DkB 62 b (s) :: M) F {q : Ds × Lg // LogSt q.1 q.2 f (L ++ [x]) ∧ q.1.armed = false ∧ used q.1.fs ≤ used s.fs + x.length + 40 ∧ q.1.room = s.room ∧ ∀ k, k ≠ f → vB q.1.fs k = vB s.fs k} (fun _ => I 0) (fun q => Box l 59 (lgC b q.1.2) :: DkB 62 b q.1.1 :: M) (fun q => AllF q.1.1.fs :: F) := by
  refine (lapp_up h hA hx hxl hn hr).weak (fun w hw => hw) (fun q => ⟨(q.1.2.1, q.1.2.2), ?_⟩) (fun q => ?_) (fun q w hw => hw)
  · rcases q.2 with ⟨e1, e2, e3, e4, e5, e6⟩ | ⟨e1, e2, _⟩
    · exact ⟨e2, e3 ha, e4, e5, e6⟩
    · rw [ha] at e2; cases e2
  · rcases q.2 with ⟨e1, _⟩ | ⟨e1, e2, _⟩
    · show I q.1.1 = I 0; rw [e1]
    · rw [ha] at e2; cases e2
theorem lapp_fail {l f : Nat} {g : Lg} {L : List (List UInt8)} {x : List UInt8} {ob : Option Addr} {cb : Nat} {b : Nat} {s : Ds} {M : List HP} {F : List Fact} (h : LogSt s g f L) (ha : s.armed = true) (h0 : s.left = 0) (hA : AllF s.fs ∈ F) (hx : ArrF ob (bytesV x) ∈ F) (hxl : x.length ≤ 65536) (hn : L.length ≤ 4611686018427387904) (hr : used s.fs + x.length + 40 ≤ s.room) :
    Ctr Tryz.prog 15 [.pointer (some ⟨l, 0, none⟩), .slice ob x.length cb] (Box l 59 (lgC b g) :: DkB 62 b (s) :: M) F {q : Ds × Lg // LogDn q.1 q.2 f L x ∧ used q.1.fs ≤ used s.fs + x.length + 40 ∧ q.1.room = s.room} (fun _ => I 22) (fun q => Box l 59 (lgC b q.1.2) :: DkB 62 b q.1.1 :: M) (fun q => AllF q.1.1.fs :: F) := by
  have hgn : g.n ≤ 4611686018427387904 := by rw [h.n]; exact hn
  have hl := appends_len (s := s) (x := x) hgn hxl
  have key : ∀ z : {z : RdX // ((fget s.fs g.f).b ++ lgFr g x).length ≤ z.c}, lgE s g x z.1 = 22 ∧ LogDn (lgS s g x z.1) (lgG s g x z.1) f L x ∧ used (lgS s g x z.1).fs ≤ used s.fs + x.length + 40 ∧ (lgS s g x z.1).room = s.room := fun z => by
    have e := log_fail (z := z.1) h ha h0 hxl (by omega)
    rcases log_append (z := z.1) h hxl z.2 (by omega) with ⟨e1, _⟩ | ⟨e1, e2, e3, e4, e5⟩
    · rw [e] at e1; exact absurd e1 (by decide)
    · exact ⟨e, e3, by omega, e5⟩
  have h0 := Ctr.dk (ι := {z : RdX // ((fget s.fs g.f).b ++ lgFr g x).length ≤ z.c}) (M := M) [Box l 59 (lgC b g)] (fun z => [Box l 59 (lgC b (lgG s g x z.1))]) (fun z => lgS s g x z.1) (lapp_spec (l := l) (b := b) (cb := cb) (g := g) (s := s) (x := x) h.ok hA hx h.rm.used h.rm.room (by rw [h.gf]; have := h.hf; exact ⟨by omega, by omega⟩) ⟨by have := h.lft.lo; omega, by have := h.lft.hi; omega⟩ hgn (by omega))
  exact h0.weak (fun w hw => hw) (fun z => ⟨(lgS s g x z.1, lgG s g x z.1), (key z).2⟩) (fun z => by show I (lgE s g x z.1) = _; rw [(key z).1]) (fun z w hw => hw)
theorem lapp_dn {l : Nat} {g : Lg} {x : List UInt8} {ob : Option Addr} {cb : Nat} {b : Nat} {s : Ds} {M : List HP} {F : List Fact} (hd : g.dn = true) (hgf : I64 g.f) (hgn : g.n ≤ 4611686018427387904) (hok : OkF s.fs) (hl : Lft s) (hr : Rm s) (hA : AllF s.fs ∈ F) (hx : ArrF ob (bytesV x) ∈ F) (hxl : x.length ≤ 65536) :
    Ctr Tryz.prog 15 [.pointer (some ⟨l, 0, none⟩), .slice ob x.length cb] (Box l 59 (lgC b g) :: DkB 62 b (s) :: M) F Unit (fun _ => I 22) (fun _ => Box l 59 (lgC b g) :: DkB 62 b (s) :: M) (fun _ => F) := by
  have e := fun z => log_down (s := s) (g := g) (x := x) (z := z) hd hxl
  have h0 := Ctr.dk (ι := {z : RdX // ((fget s.fs g.f).b ++ lgFr g x).length ≤ z.c}) (M := M) [Box l 59 (lgC b g)] (fun z => [Box l 59 (lgC b (lgG s g x z.1))]) (fun z => lgS s g x z.1) (lapp_spec (l := l) (b := b) (cb := cb) (g := g) (s := s) (x := x) hok hA hx hr.used hr.room hgf ⟨by have := hl.lo; omega, by have := hl.hi; omega⟩ hgn (by omega))
  refine h0.weak (fun w hw => hw) (fun _ => ()) (fun z => by show I (lgE s g x z.1) = _; rw [(e z.1).1]) (fun z w hw => ?_)
  have h9 : St w (Box l 59 (lgC b (lgG s g x z.1)) :: DkB 62 b (lgS s g x z.1) :: M) (AllF (lgS s g x z.1).fs :: F) := hw
  rw [(e z.1).2.1, (e z.1).2.2] at h9
  exact h9.facts (fun φ h => .tail _ h)
theorem open_d {f : Nat} {b : Nat} {s : Ds} {M : List HP} {F : List Fact} (hc : CalmD s) (hf : f < 64) (hok : OkF s.fs) (hl : Lft s) (hr : Rm s) (hA : AllF s.fs ∈ F) :
    Ctr Tryz.prog 7 [.pointer (some ⟨b, 0, none⟩), I (f : Int)] (DkB 62 b (s) :: M) F {q : (Nat × LsX) × Ds // OpenR s f q} (fun q => .tuple #[.pointer (some ⟨q.1.1.1, 0, none⟩), .slice q.1.1.2.oa q.1.1.2.ps.length q.1.1.2.c, I 0])
      (fun q => Box q.1.1.1 59 (lgC b ⟨f, q.1.1.2.ps.length, false⟩) :: OwnSl 39 1 q.1.1.2.oa q.1.1.2.ps.length q.1.1.2.c (listV q.1.1.2.ps) :: DkB 62 b q.1.2 :: M) (fun q => AllB q.1.1.2.ps :: AllF q.1.2.fs :: F) := by
  obtain ⟨o1, o2, o3⟩ := log_open hok hc hl hr hf
  have h0 := Ctr.dk (ι := {z : Nat × LsX // z.2.ps.map Prod.fst = scanJ 0 (fget s.fs (f : Int)).b ∧ ∀ p, p ∈ z.2.ps → p.1.length ≤ p.2.c}) (M := M) [] (fun z => [Box z.1.1 59 (lgC b ⟨f, z.1.2.ps.length, false⟩), OwnSl 39 1 z.1.2.oa z.1.2.ps.length z.1.2.c (listV z.1.2.ps)]) (fun _ => { s with fs := openFs s f }) (open_calm (b := b) (s := s) (n := (f : Int)) hc ⟨by omega, by omega⟩ hok hA (Nat.le_trans hr.used hr.room) ⟨by have := hl.lo; omega, by have := hl.hi; omega⟩)
  refine h0.weak (fun w hw => hw)
    (fun z => ⟨((z.1.1, z.1.2), { s with fs := openFs s f }), ⟨z.2.1, z.2.2, ?_, hc.armed, o3, rfl, o2⟩⟩) (fun _ => rfl) (fun z w hw => hw)
  have e : z.1.2.ps.length = (scanJ 0 (vB s.fs f)).length := by rw [← List.length_map (f := Prod.fst), z.2.1]; rfl
  rw [e]; exact o1

theorem dapp_d {n : Int} {x : List UInt8} {ob : Option Addr} {cb : Nat} {b : Nat} {s : Ds} {M : List HP} {F : List Fact} (hok : OkF s.fs) (hl : Lft s) (hr : Rm s) (hA : AllF s.fs ∈ F) (hx : ArrF ob (bytesV x) ∈ F) (hn : I64 n) (hxl : x.length ≤ 4398046511104) :
    Ctr Tryz.prog 35 [.pointer (some ⟨b, 0, none⟩), I n, .slice ob x.length cb] (DkB 62 b (s) :: M) F {z : RdX // ((fget s.fs n).b ++ x).length ≤ z.c} (fun _ => I (appE s n x)) (fun z => DkB 62 b (appS s n x z.1) :: M) (fun z => AllF (appS s n x z.1).fs :: F) :=
  Ctr.dk (ι := {z : RdX // ((fget s.fs n).b ++ x).length ≤ z.c}) (M := M) [] (fun _ => []) (fun z => appS s n x z.1) (append_spec (b := b) (s := s) (cb := cb) hok hA hx hr.used hr.room hn ⟨by have := hl.lo; omega, by have := hl.hi; omega⟩ hxl)

end Go.Proofs.YtdlpaojkkekdlaaGreat

namespace Go.GL
set_option linter.unusedVariables false
/-- a file's bytes behind an Append in a calm disk -/
theorem calm_append {s : Ds} {n : Nat} {x : List UInt8} {z : RdX} (hc : CalmD s) (hok : OkF s.fs) (hl : Lft s) (hn : n < 64) (hz : ((fget s.fs n).b ++ x).length ≤ z.c) (hr : used s.fs + x.length ≤ s.room) (hrm : s.room ≤ 16777216) :
    appE s n x = 0 ∧ OkF (appS s n x z).fs ∧ CalmD (appS s n x z) ∧ Lft (appS s n x z) ∧ Rm (appS s n x z) ∧ (appS s n x z).room = s.room ∧ used (appS s n x z).fs = used s.fs + x.length ∧
    (∀ k, vB (appS s n x z).fs k = if k = n then vB s.fs n ++ x else vB s.fs k) ∧ (∀ k, vD (appS s n x z).fs k = vD s.fs k) := by
  have hth : there (n : Int) := ⟨by omega, by omega⟩
  have h1 : ¬ s.off = true := by rw [hc.off]; simp
  have h2 : ¬ (s.room : Int) - used s.fs < x.length := by omega
  have hE : appE s n x = 0 := by unfold appE; rw [if_neg (show ¬ ¬ there (n : Int) from fun e => e hth), if_neg h1, if_neg h2, if_pos hc.step.2]
  have hS : appS s n x z = { s with fs := setF s.fs n (appF s n x z) } := by
    unfold appS
    rw [if_neg (show ¬ ¬ there (n : Int) from fun e => e hth), if_neg h1, if_neg h2]
    exact (CalmD.step (s := { s with fs := setF s.fs n (appF s n x z) }) ⟨hc.off, hc.armed⟩).1
  have hok2 : OkF (setF s.fs n (appF s n x z)) := hok.setF hth ⟨hz, by have := (fget_each hok n).2; show (fget s.fs n).dur ≤ ((fget s.fs n).b ++ x).length; rw [List.length_append]; omega⟩
  have hB : ∀ k, vB (setF s.fs n (appF s n x z)) k = if k = n then vB s.fs n ++ x else vB s.fs k := fun k => by rw [vB_setF hok]; rfl
  have hus : used (setF s.fs n (appF s n x z)) = used s.fs + x.length := by
    by_cases hx : x.length = 0
    · have hx0 : x = [] := List.eq_nil_of_length_eq_zero hx
      have h3 : ∀ k, (vB (setF s.fs n (appF s n x z)) k).length = (vB s.fs k).length := fun k => by
        rw [hB]; split
        · rename_i e; rw [e, hx0, List.append_nil]
        · rfl
      have h4 := used_mono hok2 hok fun k _ => Nat.le_of_eq (h3 k)
      have h5 := used_mono hok hok2 fun k _ => Nat.le_of_eq (h3 k).symm
      omega
    · have := (files_app (s := s) (n := (n : Int)) (fr := x) (z := z) hok hth hz (by omega)).2.2
      rw [used_hard] at this; exact this
  rw [hS]
  refine ⟨hE, hok2, ⟨hc.off, hc.armed⟩, hl.fs _, ⟨by show used _ ≤ s.room; rw [hus]; exact hr, hrm⟩, rfl, hus, hB, fun k => ?_⟩
  show vD (setF s.fs n _) k = _
  rw [vD_setF hok]
  by_cases e : k = n
  · rw [if_pos e, e]
    split
    · rename_i e2
      have e3 : vB s.fs n ++ x = [] := e2
      have e4 : (vB s.fs n) = [] := (List.append_eq_nil_iff.1 e3).1
      have := (fget_each hok n).2
      show 0 = (fget s.fs n).dur
      have e5 : (fget s.fs n).b.length = 0 := by rw [show (fget s.fs n).b = vB s.fs n from rfl, e4]; rfl
      omega
    · rfl
  · rw [if_neg e]
end Go.GL

namespace Go.GL
set_option linter.unusedVariables false
/-- what a crash leaves of the one file of a disk -/
def cr1 (b : List UInt8) (d : Nat) (keep : List Int) (flip : Int) : List UInt8 :=
  let c := b.take (d + keepK keep 0 (b.length - d))
  if flip < 0 ∨ c.length - d = 0 then c else turnB c (d + flip.toNat % (8 * (c.length - d)) / 8) (flip.toNat % (8 * (c.length - d)) % 8)
theorem files_one {B : Nat → List UInt8} {f : Nat} (hf : f < 64) (h1 : B f ≠ []) (h2 : ∀ n, n < 64 → n ≠ f → B n = []) : filesB B = [f] := by
  have h3 : (filesB B).Perm [f] := by
    refine (List.perm_ext_iff_of_nodup (filesB_nodup B) (by simp)).2 fun a => ?_
    rw [filesB_mem, List.mem_singleton]
    constructor
    · rintro ⟨h4, h5⟩
      by_cases e : a = f
      · exact e
      · exact absurd (h2 a h4 e) h5
    · rintro rfl; exact ⟨hf, h1⟩
  exact List.perm_singleton.1 h3
theorem crash_one {B : Nat → List UInt8} {D : Nat → Nat} {keep : List Int} {flip : Int} {f : Nat} (hf : f < 64) (h2 : ∀ n, n < 64 → n ≠ f → B n = []) (hd : D f ≤ (B f).length) : crashB B D keep flip f = cr1 (B f) (D f) keep flip := by
  by_cases h1 : B f = []
  · have h0 : cutB B D keep f = [] := by unfold cutB; rw [h1, List.take_nil]
    have hD : D f = 0 := by rw [h1] at hd; exact Nat.le_zero.1 hd
    have hfl : filesB B = [] := by
      unfold filesB
      rw [List.filter_eq_nil_iff]
      intro a ha
      have h3 := List.mem_range.1 ha
      by_cases e : a = f
      · rw [e, h1]; simp
      · rw [h2 a h3 e]; simp
    unfold crashB cr1
    rw [h0, h1]
    have hl : looseB B D keep = [] := by unfold looseB; rw [hfl]; rfl
    rw [hl]
    simp
  · have hfl := files_one hf h1 h2
    have hcut : cutB B D keep f = (B f).take (D f + keepK keep 0 ((B f).length - D f)) := by
      unfold cutB; rw [hfl]; simp
    unfold crashB cr1
    simp only
    rw [← hcut]
    have hl : looseB B D keep = (List.range' (D f) ((cutB B D keep f).length - D f)).map fun j => (f, j) := by
      unfold looseB; rw [hfl]; simp
    rw [hl]
    by_cases hneg : flip < 0
    · rw [if_pos hneg, if_pos (Or.inl hneg)]
    · rw [if_neg hneg]
      by_cases hz : (cutB B D keep f).length - D f = 0
      · rw [if_pos (Or.inr hz), hz]; rfl
      · rw [if_neg (fun e => e.elim hneg hz), List.length_map, List.length_range']
        have hq : flip.toNat % (8 * ((cutB B D keep f).length - D f)) / 8 < (cutB B D keep f).length - D f := by
          have := Nat.mod_lt flip.toNat (show 0 < 8 * ((cutB B D keep f).length - D f) by omega); omega
        have he : ((List.range' (D f) ((cutB B D keep f).length - D f)).map fun j => (f, j))[flip.toNat % (8 * ((cutB B D keep f).length - D f)) / 8]? = some (f, D f + flip.toNat % (8 * ((cutB B D keep f).length - D f)) / 8) := by
          rw [List.getElem?_map, List.getElem?_range' hq]
          simp
        rw [he]
        simp
theorem crash_none {B : Nat → List UInt8} {D : Nat → Nat} {keep : List Int} {flip : Int} {n : Nat} (h : B n = []) : crashB B D keep flip n = [] := by
  have h1 := crashB_len B D keep flip n
  have h2 := cutB_len B D keep n
  rw [h] at h2
  exact List.eq_nil_of_length_eq_zero (by rw [h1]; exact Nat.le_zero.1 h2)
/-- a disk of which only file f has bytes -/
structure One (s : Ds) (f : Nat) (b : List UInt8) (d : Nat) : Prop where
  ok : OkF s.fs
  lft : Lft s
  rm : Rm s
  hf : f < 64
  b : vB s.fs f = b
  d : vD s.fs f = d
  rest : ∀ n, n ≠ f → vB s.fs n = []
theorem One.used {s : Ds} {f : Nat} {b : List UInt8} {d : Nat} (h : One s f b d) : Go.GL.used s.fs = b.length := by
  rw [used_view h.ok]
  have e : ∀ (l : List Nat), l.Nodup → (l.map fun n => (vB s.fs n).length).sum = if f ∈ l then b.length else 0 := by
    intro l
    induction l with
    | nil => intro _; rfl
    | cons a l ih =>
      intro hn
      rw [List.nodup_cons] at hn
      rw [List.map_cons, List.sum_cons, ih hn.2]
      by_cases e : a = f
      · subst e
        rw [h.b, if_neg hn.1, if_pos (.head _)]; rfl
      · rw [h.rest a e]
        by_cases e2 : f ∈ l
        · rw [if_pos e2, if_pos (.tail _ e2)]; simp
        · rw [if_neg e2, if_neg (fun e3 => (List.mem_cons.1 e3).elim (fun e4 => e e4.symm) e2)]; rfl
  rw [e _ List.nodup_range, if_pos (List.mem_range.2 h.hf)]
theorem One.le {s : Ds} {f : Nat} {b : List UInt8} {d : Nat} (h : One s f b d) : d ≤ b.length := by
  have := (fget_each h.ok f).2
  rw [← h.b, ← h.d]; exact this
theorem One.crash {s t : Ds} {f : Nat} {b : List UInt8} {d : Nat} {keep : List Int} {flip : Int} (h : One s f b d) (c : CrashR s keep flip t) : One t f (cr1 b d keep flip) (cr1 b d keep flip).length ∧ CalmD t := by
  have hb : vB t.fs f = cr1 b d keep flip := by
    rw [c.b f h.hf, crash_one h.hf (fun n _ hn => h.rest n hn) (fget_each h.ok f).2, h.b, h.d]
  refine ⟨⟨c.ok, c.lft h.lft, c.rm h.ok h.rm, h.hf, hb, by rw [c.hard, hb], fun n hn => ?_⟩, c.calm⟩
  by_cases h64 : n < 64
  · rw [c.b n h64, crash_none (h.rest n hn)]
  · unfold vB; rw [fget_big c.ok (by omega)]; rfl
theorem One.new {m k f : Nat} (hk : k ≤ 16777216) (hf : f < 64) : One ⟨m, [], k, false, false, 0⟩ f [] 0 := ⟨OkF.nil, fresh_lft, fresh_rm hk, hf, rfl, rfl, fun _ _ => rfl⟩
theorem One.append {s : Ds} {f : Nat} {b x : List UInt8} {d : Nat} {z : RdX} (h : One s f b d) (hc : CalmD s) (hz : ((fget s.fs f).b ++ x).length ≤ z.c) (hr : b.length + x.length ≤ s.room) :
    appE s f x = 0 ∧ One (appS s f x z) f (b ++ x) d ∧ CalmD (appS s f x z) ∧ (appS s f x z).room = s.room := by
  obtain ⟨h1, h2, h3, h4, h5, h6, h7, h8, h9⟩ := calm_append hc h.ok h.lft h.hf hz (by rw [h.used]; exact hr) h.rm.room
  refine ⟨h1, ⟨h2, h4, h5, h.hf, by rw [h8, if_pos rfl, h.b], by rw [h9, h.d], fun n hn => by rw [h8, if_neg hn, h.rest n hn]⟩, h3, h6⟩
theorem One.sync {s : Ds} {f : Nat} {b : List UInt8} {d : Nat} (h : One s f b d) (hc : CalmD s) : syncE s = 0 ∧ One (syncS s) f b b.length ∧ CalmD (syncS s) ∧ (syncS s).room = s.room := by
  obtain ⟨h1, h2⟩ := hc.sync
  rw [h2]
  exact ⟨h1, ⟨h.ok.hard, h.lft.fs _, ⟨by show Go.GL.used (hard s.fs) ≤ s.room; rw [used_hard]; exact h.rm.used, h.rm.room⟩, h.hf, by show vB (hard s.fs) f = b; rw [vB_hard, h.b], by show vD (hard s.fs) f = b.length; rw [vD_hard, h.b], fun n hn => by show vB (hard s.fs) n = []; rw [vB_hard, h.rest n hn]⟩, ⟨hc.off, hc.armed⟩, rfl⟩
theorem One.read {s : Ds} {f : Nat} {b : List UInt8} {d : Nat} (h : One s f b d) (hc : CalmD s) : readE s f = 0 ∧ readB s f = b := by
  obtain ⟨h1, h2⟩ := hc.read (n := (f : Int)) ⟨by omega, by have := h.hf; omega⟩
  exact ⟨h1, h2.trans h.b⟩
/-- a disk with another map and the same files -/
theorem One.copy {s : Ds} {f : Nat} {b : List UInt8} {d m : Nat} (h : One s f b d) : One { s with m := m } f b d := ⟨h.ok, ⟨h.lft.lo, h.lft.hi, h.lft.armed⟩, ⟨h.rm.used, h.rm.room⟩, h.hf, h.b, h.d, h.rest⟩
theorem syncS_ok {s : Ds} (h : OkF s.fs) : OkF (syncS s).fs := by rcases syncS_fs s with e | e <;> rw [e]; exact h; exact h.hard
end Go.GL

namespace Go.GL
set_option linter.unusedVariables false
theorem used_append {s : Ds} {n : Int} {x : List UInt8} {z : RdX} (hok : OkF s.fs) (hth : there n) (hz : ((fget s.fs n).b ++ x).length ≤ z.c) : used (setF s.fs n (appF s n x z)) = used s.fs + x.length := by
  obtain ⟨k, hk⟩ : ∃ k : Nat, n = k := ⟨n.toNat, by have := hth.1; omega⟩
  subst hk
  have hok2 : OkF (setF s.fs k (appF s k x z)) := hok.setF hth ⟨hz, by have := (fget_each hok k).2; show (fget s.fs k).dur ≤ ((fget s.fs k).b ++ x).length; rw [List.length_append]; omega⟩
  have hB : ∀ j, vB (setF s.fs k (appF s k x z)) j = if j = k then vB s.fs k ++ x else vB s.fs j := fun j => by rw [vB_setF hok]; rfl
  by_cases hx : x.length = 0
  · have hx0 : x = [] := List.eq_nil_of_length_eq_zero hx
    have h3 : ∀ j, (vB (setF s.fs k (appF s k x z)) j).length = (vB s.fs j).length := fun j => by
      rw [hB]; split
      · rename_i e; rw [e, hx0, List.append_nil]
      · rfl
    have h4 := used_mono hok2 hok fun j _ => Nat.le_of_eq (h3 j)
    have h5 := used_mono hok hok2 fun j _ => Nat.le_of_eq (h3 j).symm
    omega
  · have := (files_app (s := s) (n := (k : Int)) (fr := x) (z := z) hok hth hz (by omega)).2.2
    rw [used_hard] at this; exact this
theorem appS_rm {s : Ds} {n : Int} {x : List UInt8} {z : RdX} (hok : OkF s.fs) (hr : Rm s) (hz : ((fget s.fs n).b ++ x).length ≤ z.c) : Rm (appS s n x z) := by
  unfold appS
  split
  · exact hr
  · rename_i h1
    split
    · exact hr
    · split
      · exact hr
      · rename_i h3
        have hth : there n := Decidable.not_not.1 h1
        refine ⟨?_, by rw [stepS_room]; exact hr.room⟩
        rw [stepS_fs, stepS_room]
        show used (setF s.fs n (appF s n x z)) ≤ s.room
        rw [used_append hok hth hz]
        have := hr.used
        omega
theorem appS_lft {s : Ds} {n : Int} {x : List UInt8} {z : RdX} (hl : Lft s) : Lft (appS s n x z) := by
  unfold appS
  split
  · exact hl
  · split
    · exact hl
    · split
      · exact hl
      · exact step_lft (hl.fs _)
theorem syncS_rm {s : Ds} (hr : Rm s) : Rm (syncS s) := by
  unfold syncS
  split
  · exact hr
  · split
    · exact ⟨by rw [stepS_fs, stepS_room]; exact hr.used, by rw [stepS_room]; exact hr.room⟩
    · exact ⟨by show used (hard (stepS s).fs) ≤ (stepS s).room; rw [used_hard, stepS_fs, stepS_room]; exact hr.used, by show (stepS s).room ≤ _; rw [stepS_room]; exact hr.room⟩
theorem syncS_lft {s : Ds} (hl : Lft s) : Lft (syncS s) := by
  unfold syncS
  split
  · exact hl
  · split
    · exact step_lft hl
    · exact (step_lft hl).fs _
theorem Lft.arm {s : Ds} {n : Int} (h : Lft s) (h0 : -1 ≤ n) (h1 : n ≤ 4611686018427387904) : Lft (armS s n) := by
  unfold armS
  split
  · exact h
  · exact ⟨h0, h1, fun e => of_decide_eq_true e⟩
theorem Rm.arm {s : Ds} {n : Int} (h : Rm s) : Rm (armS s n) := by
  unfold armS
  split
  · exact h
  · exact ⟨h.used, h.room⟩
theorem armS_fs (s : Ds) (n : Int) : (armS s n).fs = s.fs := by unfold armS; split <;> rfl
theorem armS_room (s : Ds) (n : Int) : (armS s n).room = s.room := by unfold armS; split <;> rfl
/-- an Append when the power is about to fail -/
theorem append_fails {s : Ds} {n : Int} {x : List UInt8} {z : RdX} (hl : Lft s) (ho : s.off = false) (ha : s.armed = true) (h0 : s.left = 0) (hn : there n) (hr : used s.fs + x.length ≤ s.room) : appE s n x = 22 ∧ (appS s n x z).off = true := by
  have h1 : ¬ s.off = true := by rw [ho]; simp
  have h2 : ¬ (s.room : Int) - used s.fs < x.length := by omega
  obtain ⟨s1, hs1⟩ : ∃ s1 : Ds, s1 = { s with fs := setF s.fs n (appF s n x z) } := ⟨_, rfl⟩
  have hb : stepB s = false ∧ (stepS s1).off = true := by
    rcases step_cases s hl with ⟨e, _⟩ | ⟨_, e, _⟩ | ⟨_, _, _, e⟩
    · rw [ha] at e; cases e
    · omega
    · refine ⟨e, ?_⟩
      rcases step_cases s1 (hs1 ▸ hl.fs _) with ⟨f, _⟩ | ⟨_, f, _⟩ | ⟨_, _, f, _⟩
      · rw [hs1] at f; rw [show ({ s with fs := setF s.fs n (appF s n x z) } : Ds).armed = s.armed from rfl, ha] at f; cases f
      · rw [hs1] at f; rw [show ({ s with fs := setF s.fs n (appF s n x z) } : Ds).left = s.left from rfl] at f; omega
      · rw [f]
  constructor
  · unfold appE; rw [if_neg (show ¬ ¬ there n from fun e => e hn), if_neg h1, if_neg h2, if_neg (by rw [hb.1]; simp)]
  · unfold appS; rw [if_neg (show ¬ ¬ there n from fun e => e hn), if_neg h1, if_neg h2, ← hs1]; exact hb.2
theorem read_off {s : Ds} {n : Int} (hn : there n) (h : s.off = true) : readE s n = 22 ∧ readB s n = [] := by
  constructor
  · unfold readE; rw [if_neg (show ¬ ¬ there n from fun e => e hn), if_pos h]
  · unfold readB; rw [if_neg (show ¬ ¬ there n from fun e => e hn), if_pos h]
theorem One.trunc {s : Ds} {f k : Nat} {b : List UInt8} {d : Nat} (h : One s f b d) (hc : CalmD s) (hk : k ≤ b.length) : truncE s f k = 0 ∧ One (truncS s f k) f (b.take k) (min d k) ∧ CalmD (truncS s f k) ∧ (truncS s f k).room = s.room := by
  have hth : there (f : Int) := ⟨by omega, by have := h.hf; omega⟩
  have hbl : (fget s.fs (f : Int)).b = b := h.b
  have hdd : (fget s.fs (f : Int)).dur = d := h.d
  have hb : ¬ truncBad s f k := fun e => e.elim (fun e => e hth) (fun e => e.elim (by omega) (by rw [hbl]; omega))
  obtain ⟨h1, h2⟩ := hc.trunc hb
  have hle := h.le
  have hok2 : OkF (setF s.fs f (truncF s f k)) := h.ok.setF hth (truncF_ok h.ok _ _)
  have htb : (truncF s f k).b = b.take k := by show (fget s.fs (f : Int)).b.take k = _; rw [hbl]
  have hB : ∀ n, vB (setF s.fs f (truncF s f k)) n = if n = f then b.take k else vB s.fs n := fun n => by rw [vB_setF h.ok, htb]
  have hu : Go.GL.used (setF s.fs f (truncF s f k)) ≤ Go.GL.used s.fs := used_mono hok2 h.ok fun n _ => by
    rw [hB]; split
    · rename_i e; rw [e, h.b, List.length_take]; omega
    · exact Nat.le_refl _
  rw [h2]
  refine ⟨h1, ⟨hok2, h.lft.fs _, ⟨Nat.le_trans hu h.rm.used, h.rm.room⟩, h.hf, by show vB (setF s.fs f _) f = _; rw [hB, if_pos rfl], ?_, fun n hn => by show vB (setF s.fs f _) n = _; rw [hB, if_neg hn, h.rest n hn]⟩, ⟨hc.off, hc.armed⟩, rfl⟩
  show vD (setF s.fs f _) f = _
  rw [vD_setF h.ok, if_pos rfl, htb]
  split
  · rename_i e
    have := congrArg List.length e
    rw [List.length_take, List.length_nil] at this
    omega
  · show min (fget s.fs (f : Int)).dur k = _; rw [hdd]
theorem trunc_bad {s : Ds} {n k : Int} (h : truncBad s n k) : truncE s n k = 1 ∧ truncS s n k = s := by
  constructor
  · unfold truncE; rw [if_pos h]
  · unfold truncS; rw [if_pos h]
theorem append_bad {s : Ds} {n : Int} {x : List UInt8} {z : RdX} (h : ¬ there n) : appE s n x = 1 ∧ appS s n x z = s := by
  constructor
  · unfold appE; rw [if_pos h]
  · unfold appS; rw [if_pos h]
theorem append_full {s : Ds} {n : Int} {x : List UInt8} {z : RdX} (hc : CalmD s) (h : there n) (hr : s.room < used s.fs + x.length) : appE s n x = 21 ∧ appS s n x z = s := by
  have h1 : ¬ s.off = true := by rw [hc.off]; simp
  constructor
  · unfold appE; rw [if_neg (show ¬ ¬ there n from fun e => e h), if_neg h1, if_pos (by omega)]
  · unfold appS; rw [if_neg (show ¬ ¬ there n from fun e => e h), if_neg h1, if_pos (by omega)]
theorem read_bad {s : Ds} {n : Int} (h : ¬ there n) : readE s n = 1 ∧ readB s n = [] := by
  constructor
  · unfold readE; rw [if_pos h]
  · unfold readB; rw [if_pos h]
end Go.GL

namespace Go.Proofs.YtdlpaojkkekdlaaGreat
open Go.GL
set_option linter.unusedVariables false
theorem used_d {b : Nat} {s : Ds} {M : List HP} {F : List Fact} (hok : OkF s.fs) (hr : Rm s) : Ctr Tryz.prog 50 [.pointer (some ⟨b, 0, none⟩)] (DkB 62 b (s) :: M) F Unit (fun _ => I (used s.fs)) (fun _ => DkB 62 b (s) :: M) (fun _ => F) := Ctr.dk [] (fun _ => []) (fun _ => s) (used_spec hok (by have := hr.used; have := hr.room; omega))

theorem sync_d {b : Nat} {s : Ds} {M : List HP} {F : List Fact} (hok : OkF s.fs) (hl : Lft s) (hA : AllF s.fs ∈ F) : Ctr Tryz.prog 25 [.pointer (some ⟨b, 0, none⟩)] (DkB 62 b (s) :: M) F Unit (fun _ => I (syncE s)) (fun _ => DkB 62 b (syncS s) :: M) (fun _ => AllF (syncS s).fs :: F) :=
  (Ctr.dk (ι := Unit) (M := M) (F' := fun _ => F) [] (fun _ => []) (fun _ => syncS s) (sync_spec (b := b) (s := s) hok ⟨by have := hl.lo; omega, by have := hl.hi; omega⟩)).weak (fun w hw => hw) id (fun _ => rfl) (fun _ w hw => hw.allF_sync hA)

theorem trunc_d {n k : Int} {b : Nat} {s : Ds} {M : List HP} {F : List Fact} (hok : OkF s.fs) (hl : Lft s) (hA : AllF s.fs ∈ F) (hn : I64 n) : Ctr Tryz.prog 24 [.pointer (some ⟨b, 0, none⟩), I n, I k] (DkB 62 b (s) :: M) F Unit (fun _ => I (truncE s n k)) (fun _ => DkB 62 b (truncS s n k) :: M) (fun _ => AllF (truncS s n k).fs :: F) :=
  Ctr.dk (ι := Unit) (M := M) [] (fun _ => []) (fun _ => truncS s n k) (trunc_spec (b := b) (s := s) hok hA hn ⟨by have := hl.lo; omega, by have := hl.hi; omega⟩)

theorem read_d {n : Int} {b : Nat} {s : Ds} {M : List HP} {F : List Fact} (hok : OkF s.fs) (hr : Rm s) (hA : AllF s.fs ∈ F) (hn : I64 n) : Ctr Tryz.prog 19 [.pointer (some ⟨b, 0, none⟩), I n] (DkB 62 b (s) :: M) F (Option Addr × Nat) (fun z => .tuple #[.slice z.1 (readB s n).length z.2, I (readE s n)]) (fun z => OwnSl 5 1 z.1 (readB s n).length z.2 (bytesV (readB s n)) :: DkB 62 b (s) :: M) (fun _ => F) :=
  Ctr.dk (ι := Option Addr × Nat) (M := M) [] (fun z => [OwnSl 5 1 z.1 (readB s n).length z.2 (bytesV (readB s n))]) (fun _ => s) (read_dspec (b := b) (s := s) hok hA (by have := hr.used; have := hr.room; omega) hn)

theorem new_d {k : Nat} {M : List HP} {F : List Fact} (hk : k ≤ 16777216) : Ctr Tryz.prog 22 [I k] M F (Nat × Nat) (fun z => .tuple #[.pointer (some ⟨z.1, 0, none⟩), I 0]) (fun z => DkB 62 z.1 ⟨z.2, [], k, false, false, 0⟩ :: M) (fun _ => AllF [] :: F) :=
  (new_ok hk).weak (fun w hw => hw) id (fun _ => rfl) (fun z w hw => ((show St w ([] ++ (Box z.1 62 (dkC ⟨z.2, [], k, false, false, 0⟩) :: MpB z.2 (fsV []) :: M)) F from hw).dkClose []).derive (ψ := AllF []) (fun K hf p hp => absurd hp (by simp)))

theorem one_append {x : List UInt8} {ob : Option Addr} {cb : Nat} {f d : Nat} {y : List UInt8} {b : Nat} {s : Ds} {M : List HP} {F : List Fact} (h : One s f y d) (hc : CalmD s) (hA : AllF s.fs ∈ F) (hx : ArrF ob (bytesV x) ∈ F) (hxl : x.length ≤ 4398046511104) (hr : y.length + x.length ≤ s.room) :
    Ctr Tryz.prog 35 [.pointer (some ⟨b, 0, none⟩), I (f : Int), .slice ob x.length cb] (DkB 62 b (s) :: M) F {q : Ds // One q f (y ++ x) d ∧ CalmD q ∧ q.room = s.room} (fun _ => I 0) (fun q => DkB 62 b q.1 :: M) (fun q => AllF q.1.fs :: F) :=
  (dapp_d (n := (f : Int)) h.ok h.lft h.rm hA hx ⟨by omega, by have := h.hf; omega⟩ hxl).weak (fun w hw => hw) (fun z => ⟨appS s f x z.1, (h.append hc z.2 hr).2⟩) (fun z => by show I (appE s f x) = _; rw [(h.append hc z.2 hr).1]) (fun z w hw => hw)
theorem one_sync {f d : Nat} {y : List UInt8} {b : Nat} {s : Ds} {M : List HP} {F : List Fact} (h : One s f y d) (hc : CalmD s) (hA : AllF s.fs ∈ F) : Ctr Tryz.prog 25 [.pointer (some ⟨b, 0, none⟩)] (DkB 62 b (s) :: M) F {q : Ds // One q f y y.length ∧ CalmD q ∧ q.room = s.room} (fun _ => I 0) (fun q => DkB 62 b q.1 :: M) (fun q => AllF q.1.fs :: F) :=
  (sync_d h.ok h.lft hA).weak (fun w hw => hw) (fun _ => ⟨syncS s, (h.sync hc).2⟩) (fun _ => by show I (syncE s) = _; rw [(h.sync hc).1]) (fun _ w hw => hw)
theorem one_crash {keep : List Int} {flip : Int} {ok : Option Addr} {ck : Nat} {f d : Nat} {y : List UInt8} {b : Nat} {s : Ds} {M : List HP} {F : List Fact} (h : One s f y d) (hA : AllF s.fs ∈ F) (hK : ArrF ok (ints keep) ∈ F) (hks : IntsOk keep) (hflip : I64 flip) : Ctr Tryz.prog 11 [.pointer (some ⟨b, 0, none⟩), .slice ok keep.length ck, I flip] (DkB 62 b (s) :: M) F {q : Ds // One q f (cr1 y d keep flip) (cr1 y d keep flip).length ∧ CalmD q ∧ q.room = s.room} (fun _ => .tuple #[]) (fun q => DkB 62 b q.1 :: M) (fun q => AllF q.1.fs :: F) :=
  (crash_d h.ok hA hK hks (Nat.le_trans h.rm.used h.rm.room) hflip).weak (fun w hw => hw) (fun t => ⟨t.1, (h.crash t.2).1, (h.crash t.2).2, t.2.room⟩) (fun _ => rfl) (fun _ w hw => hw)
theorem one_read {f d : Nat} {y : List UInt8} {b : Nat} {s : Ds} {M : List HP} {F : List Fact} (h : One s f y d) (hc : CalmD s) (hA : AllF s.fs ∈ F) : Ctr Tryz.prog 19 [.pointer (some ⟨b, 0, none⟩), I (f : Int)] (DkB 62 b (s) :: M) F (Option Addr × Nat) (fun z => .tuple #[.slice z.1 y.length z.2, I 0]) (fun z => OwnSl 5 1 z.1 y.length z.2 (bytesV y) :: DkB 62 b (s) :: M) (fun _ => F) := by
  have h1 := read_d (b := b) (M := M) (n := (f : Int)) h.ok h.rm hA ⟨by omega, by have := h.hf; omega⟩
  rw [(h.read hc).1, (h.read hc).2] at h1
  exact h1

theorem new_bad {r : Int} {M : List HP} {F : List Fact} (hb : r < 0 ∨ 16777216 < r) : Ctr Tryz.prog 22 [I r] M F Unit (fun _ => .tuple #[.pointer none, I 1]) (fun _ => M) (fun _ => F) := by
  refine Ctr.body Tryz.func22 rfl rfl ?_
  refine TR.seq ?_
  refine TR.region ?_
  refine RL.assign rfl rfl rfl ?_
  refine RL.assign rfl rfl rfl ?_
  refine RL.nil ?_
  refine NX.seq ?_
  refine TR.seq ?_
  refine TR.seq ?_
  refine TR.region ?_
  refine RL.move rfl rfl rfl ?_
  refine RL.bin rfl rfl rfl BinV.lss rfl ?_
  refine RL.move rfl rfl rfl ?_
  refine RL.part (fun h1 => ?_) (fun h1 => ?_)
  · skip
    refine RL.skip rfl rfl rfl ?_
    refine RL.skip rfl rfl rfl ?_
    refine RL.pickT rfl rfl rfl rfl ?_
    refine RL.nil ?_
    refine NX.seq ?_
    refine TR.condT rfl ?_
    refine TR.seq ?_
    refine TR.region ?_
    refine RL.assign rfl rfl rfl ?_
    refine RL.assign rfl rfl rfl ?_
    refine RL.nil ?_
    refine NX.seq ?_
    refine TR.ret ?_
    refine NX.retThen ?_
    exact NX.ret2 () rfl rfl rfl rfl (fun w hw => hw)
  · skip
    have hn0 := of_decide_eq_false h1
    refine RL.move rfl rfl rfl ?_
    refine RL.bin rfl rfl rfl (BinV.to (d := true) BinV.gtr (decide_eq_true (by omega))) rfl ?_
    refine RL.pickF rfl rfl rfl rfl ?_
    refine RL.nil ?_
    refine NX.seq ?_
    refine TR.condT rfl ?_
    refine TR.seq ?_
    refine TR.region ?_
    refine RL.assign rfl rfl rfl ?_
    refine RL.assign rfl rfl rfl ?_
    refine RL.nil ?_
    refine NX.seq ?_
    refine TR.ret ?_
    refine NX.retThen ?_
    exact NX.ret2 () rfl rfl rfl rfl (fun w hw => hw)

end Go.Proofs.YtdlpaojkkekdlaaGreat

namespace Go.GL
set_option linter.unusedVariables false
/-- what a disk shows, and its plan -/
structure Am where
  room : Nat
  off : Bool
  plan : Option Nat
  B : Nat → List UInt8
  D : Nat → Nat
def upd {α : Type} (f : Nat → α) (n : Nat) (v : α) : Nat → α := fun k => if k = n then v else f k
def usedA (B : Nat → List UInt8) : Nat := ((List.range 64).map fun n => (B n).length).sum
/-- one step: whether it succeeds, and what is left of the plan -/
def stepA (a : Am) : Bool × Am := match a.plan with
  | none => (true, a)
  | some 0 => (false, { a with off := true, plan := none })
  | some (k + 1) => (true, { a with plan := some k })
def appA (a : Am) (n : Int) (x : List UInt8) : Int × Am :=
  if ¬ there n then (1, a) else if a.off = true then (22, a) else if a.room < usedA a.B + x.length then (21, a) else
  let q := stepA { a with B := upd a.B n.toNat (a.B n.toNat ++ x) }
  (if q.1 = true then 0 else 22, q.2)
def syncA (a : Am) : Int × Am :=
  if a.off = true then (22, a) else
  let q := stepA a
  if q.1 = true then (0, { q.2 with D := fun k => (q.2.B k).length }) else (22, q.2)
def truncA (a : Am) (n k : Int) : Int × Am :=
  if ¬ there n ∨ k < 0 ∨ ((a.B n.toNat).length : Int) < k then (1, a) else if a.off = true then (22, a) else
  let q := stepA a
  if q.1 = true then (0, { q.2 with B := upd q.2.B n.toNat ((q.2.B n.toNat).take k.toNat), D := upd q.2.D n.toNat (min (q.2.D n.toNat) k.toNat) }) else (22, q.2)
def armA (a : Am) (n : Int) : Am := if a.off = true then a else { a with plan := if 0 ≤ n then some n.toNat else none }
def crashA (a : Am) (keep : List Int) (flip : Int) : Am := { a with off := false, plan := none, B := crashB a.B a.D keep flip, D := fun k => (crashB a.B a.D keep flip k).length }
/-- the program's disk shows what the machine shows -/
structure RelP (s : Ds) (a : Am) : Prop where
  ok : OkF s.fs
  lft : Lft s
  rm : Rm s
  room : s.room = a.room
  off : s.off = a.off
  plan : a.plan = if s.armed = true then some s.left.toNat else none
  b : ∀ n, n < 64 → vB s.fs n = a.B n
  d : ∀ n, n < 64 → vD s.fs n = a.D n
theorem RelP.used {s : Ds} {a : Am} (h : RelP s a) : Go.GL.used s.fs = usedA a.B := by
  rw [used_view h.ok]
  unfold usedA
  congr 1
  exact List.map_congr_left fun n hn => by rw [h.b n (List.mem_range.1 hn)]
theorem RelP.le {s : Ds} {a : Am} (h : RelP s a) {n : Nat} (hn : n < 64) : a.D n ≤ (a.B n).length := by
  rw [← h.b n hn, ← h.d n hn]; exact (fget_each h.ok n).2
theorem RelP.step {s : Ds} {a : Am} (h : RelP s a) : stepB s = (if s.off = true then stepB s else (stepA a).1) ∧ (s.off = false → RelP (stepS s) (stepA a).2) := by
  rcases step_cases s h.lft with ⟨e1, e2, e3⟩ | ⟨e1, e2, e3, e4⟩ | ⟨e1, e2, e3, e4⟩
  · have hp : a.plan = none := by rw [h.plan, if_neg (by rw [e1]; simp)]
    have hs : stepA a = (true, a) := by unfold stepA; rw [hp]
    rw [hs, e2]
    exact ⟨by rw [e3]; split <;> rfl, fun _ => h⟩
  · have hp : a.plan = some ((s.left - 1).toNat + 1) := by rw [h.plan, if_pos e1]; congr 1; omega
    have hs : stepA a = (true, { a with plan := some (s.left - 1).toNat }) := by unfold stepA; rw [hp]
    rw [hs, e3]
    refine ⟨?_, fun _ => ⟨h.ok, e3 ▸ step_lft h.lft, ⟨h.rm.used, h.rm.room⟩, h.room, h.off, ?_, h.b, h.d⟩⟩
    · split
      · rfl
      · rename_i ho; exact e4 (by simpa using ho)
    · show some _ = if s.armed = true then some (s.left - 1).toNat else none
      rw [if_pos e1]
  · have hp : a.plan = some 0 := by rw [h.plan, if_pos e1, e2]; rfl
    have hs : stepA a = (false, { a with off := true, plan := none }) := by unfold stepA; rw [hp]
    rw [hs, e3, e4]
    exact ⟨by split <;> rfl, fun _ => ⟨h.ok, e3 ▸ step_lft h.lft, ⟨h.rm.used, h.rm.room⟩, h.room, rfl, rfl, h.b, h.d⟩⟩
theorem stepA_B (a : Am) (B : Nat → List UInt8) : (stepA { a with B := B }).1 = (stepA a).1 := by
  unfold stepA; cases hp : a.plan with
  | none => rfl
  | some k => cases k <;> rfl
theorem RelP.fs {s : Ds} {a : Am} {fs : Fs} {B : Nat → List UInt8} {D : Nat → Nat} (h : RelP s a) (hok : OkF fs) (hu : Go.GL.used fs ≤ s.room) (hb : ∀ n, n < 64 → vB fs n = B n) (hd : ∀ n, n < 64 → vD fs n = D n) : RelP { s with fs := fs } { a with B := B, D := D } :=
  ⟨hok, h.lft.fs _, ⟨hu, h.rm.room⟩, h.room, h.off, h.plan, hb, hd⟩
theorem RelP.append {s : Ds} {a : Am} {n : Int} {x : List UInt8} {z : RdX} (h : RelP s a) (hz : ((fget s.fs n).b ++ x).length ≤ z.c) : appE s n x = (appA a n x).1 ∧ RelP (appS s n x z) (appA a n x).2 := by
  unfold appE appS appA
  by_cases h1 : ¬ there n
  · rw [if_pos h1, if_pos h1, if_pos h1]; exact ⟨rfl, h⟩
  · rw [if_neg h1, if_neg h1, if_neg h1]
    have hth := Decidable.not_not.1 h1
    by_cases h2 : s.off = true
    · rw [if_pos h2, if_pos h2, if_pos (show a.off = true by rw [← h.off]; exact h2)]; exact ⟨rfl, h⟩
    · rw [if_neg h2, if_neg h2, if_neg (show ¬ a.off = true by rw [← h.off]; exact h2)]
      have hus := h.used
      have hrm := h.room
      by_cases h3 : (s.room : Int) - Go.GL.used s.fs < x.length
      · rw [if_pos h3, if_pos h3, if_pos (show a.room < usedA a.B + x.length by omega)]; exact ⟨rfl, h⟩
      · rw [if_neg h3, if_neg h3, if_neg (show ¬ a.room < usedA a.B + x.length by omega)]
        obtain ⟨k, rfl⟩ : ∃ k : Nat, n = k := ⟨n.toNat, by have := hth.1; omega⟩
        have hk : k < 64 := by have := hth.2; omega
        simp only [Int.toNat_natCast]
        have h4 : RelP { s with fs := setF s.fs k (appF s k x z) } { a with B := upd a.B k (a.B k ++ x), D := a.D } := h.fs
          (h.ok.setF hth ⟨hz, by have := (fget_each h.ok (k : Int)).2; show (fget s.fs (k : Int)).dur ≤ ((fget s.fs (k : Int)).b ++ x).length; rw [List.length_append]; omega⟩)
          (by rw [used_append h.ok hth hz]; omega)
          (fun m hm => by
            rw [vB_setF h.ok]
            unfold upd
            by_cases e : m = k
            · rw [if_pos e, if_pos e, ← h.b k hk]; rfl
            · rw [if_neg e, if_neg e]; exact h.b m hm)
          (fun m hm => by
            rw [vD_setF h.ok]
            by_cases e : m = k
            · rw [if_pos e, e]
              split
              · rename_i e2
                have e3 : vB s.fs k ++ x = [] := e2
                have e4 : vB s.fs k = [] := (List.append_eq_nil_iff.1 e3).1
                have h5 := h.le hk
                rw [← h.b k hk, e4] at h5
                have : a.D k = 0 := Nat.le_zero.1 h5
                omega
              · exact h.d k hk
            · rw [if_neg e]; exact h.d m hm)
        have hst := h4.step
        have hso : ({ s with fs := setF s.fs k (appF s k x z) } : Ds).off = false := by show s.off = false; simpa using h2
        rw [if_neg (by rw [hso]; simp), stepB_fs] at hst
        rw [show stepB s = (stepA { a with B := upd a.B k (a.B k ++ x) }).1 from hst.1]
        exact ⟨rfl, hst.2 hso⟩
theorem RelP.sync {s : Ds} {a : Am} (h : RelP s a) : syncE s = (syncA a).1 ∧ RelP (syncS s) (syncA a).2 := by
  unfold syncE syncS syncA
  by_cases h2 : s.off = true
  · rw [if_pos (Or.inl h2), if_pos h2, if_pos (show a.off = true by rw [← h.off]; exact h2)]; exact ⟨rfl, h⟩
  · rw [if_neg h2, if_neg (show ¬ a.off = true by rw [← h.off]; exact h2)]
    have hst := h.step
    rw [if_neg h2] at hst
    have h3 := hst.2 (by simpa using h2)
    by_cases hb : stepB s = false
    · rw [if_pos (Or.inr hb), if_pos hb]
      simp only
      rw [if_neg (by rw [← hst.1, hb]; simp)]
      exact ⟨rfl, h3⟩
    · rw [if_neg (fun e => e.elim h2 hb), if_neg hb]
      simp only
      rw [if_pos (by rw [← hst.1]; simpa using hb)]
      refine ⟨rfl, ?_⟩
      exact h3.fs h3.ok.hard (by rw [used_hard]; exact h3.rm.used) (fun n hn => by rw [vB_hard]; exact h3.b n hn) (fun n hn => by rw [vD_hard, h3.b n hn])
theorem RelP.trunc {s : Ds} {a : Am} {n k : Int} (h : RelP s a) : truncE s n k = (truncA a n k).1 ∧ RelP (truncS s n k) (truncA a n k).2 := by
  have hbad : truncBad s n k ↔ (¬ there n ∨ k < 0 ∨ ((a.B n.toNat).length : Int) < k) := by
    unfold truncBad
    by_cases h1 : there n
    · obtain ⟨m, rfl⟩ : ∃ m : Nat, n = m := ⟨n.toNat, by have := h1.1; omega⟩
      have hm : m < 64 := by have := h1.2; omega
      rw [Int.toNat_natCast, ← h.b m hm]; rfl
    · simp [h1]
  unfold truncE truncS truncA
  by_cases h1 : truncBad s n k
  · rw [if_pos h1, if_pos h1, if_pos (hbad.1 h1)]; exact ⟨rfl, h⟩
  · rw [if_neg h1, if_neg h1, if_neg (fun e => h1 (hbad.2 e))]
    have hth : there n := Decidable.not_not.1 fun e => h1 (Or.inl e)
    by_cases h2 : s.off = true
    · rw [if_pos (Or.inl h2), if_pos h2, if_pos (show a.off = true by rw [← h.off]; exact h2)]; exact ⟨rfl, h⟩
    · rw [if_neg h2, if_neg (show ¬ a.off = true by rw [← h.off]; exact h2)]
      have hst := h.step
      rw [if_neg h2] at hst
      have h3 := hst.2 (by simpa using h2)
      by_cases hb : stepB s = false
      · rw [if_pos (Or.inr hb), if_pos hb]
        simp only
        rw [if_neg (by rw [← hst.1, hb]; simp)]
        exact ⟨rfl, h3⟩
      · rw [if_neg (fun e => e.elim h2 hb), if_neg hb]
        simp only
        rw [if_pos (by rw [← hst.1]; simpa using hb)]
        refine ⟨rfl, ?_⟩
        obtain ⟨m, rfl⟩ : ∃ m : Nat, n = m := ⟨n.toNat, by have := hth.1; omega⟩
        have hm : m < 64 := by have := hth.2; omega
        rw [Int.toNat_natCast]
        have htb : (truncF s (m : Int) k.toNat).b = (vB (stepS s).fs m).take k.toNat := by rw [stepS_fs]; rfl
        have hok2 : OkF (setF (stepS s).fs (m : Int) (truncF s (m : Int) k.toNat)) := h3.ok.setF hth (truncF_ok h.ok _ _)
        have hB : ∀ j, vB (setF (stepS s).fs (m : Int) (truncF s (m : Int) k.toNat)) j = if j = m then (vB (stepS s).fs m).take k.toNat else vB (stepS s).fs j := fun j => by rw [vB_setF h3.ok, htb]
        refine h3.fs hok2 (Nat.le_trans (used_mono hok2 h3.ok fun j _ => ?_) h3.rm.used) (fun j hj => ?_) (fun j hj => ?_)
        · rw [hB]; split
          · rename_i e; rw [e, List.length_take]; omega
          · exact Nat.le_refl _
        · rw [hB]; unfold upd
          by_cases e : j = m
          · rw [if_pos e, if_pos e, h3.b m hm]
          · rw [if_neg e, if_neg e]; exact h3.b j hj
        · rw [vD_setF h3.ok]; unfold upd
          by_cases e : j = m
          · rw [if_pos e, if_pos e, htb, ← h3.d m hm]
            have hle := (fget_each h3.ok (m : Int)).2
            split
            · rename_i e2
              have := congrArg List.length e2
              rw [List.length_take, List.length_nil] at this
              have h8 : vD (stepS s).fs m ≤ (vB (stepS s).fs m).length := hle
              omega
            · show min (fget s.fs (m : Int)).dur k.toNat = _
              rw [stepS_fs]; rfl
          · rw [if_neg e, if_neg e]; exact h3.d j hj
theorem RelP.arm {s : Ds} {a : Am} {n : Int} (h : RelP s a) (h0 : -1 ≤ n) (h1 : n ≤ 4611686018427387904) : RelP (armS s n) (armA a n) := by
  unfold armA
  by_cases h2 : s.off = true
  · rw [if_pos (by rw [← h.off]; exact h2), show armS s n = s from by unfold armS; rw [if_pos h2]]; exact h
  · have ho : s.off = false := by simpa using h2
    rw [if_neg (by rw [← h.off]; exact h2), armS_on ho]
    refine ⟨h.ok, ⟨h0, h1, fun e => of_decide_eq_true e⟩, ⟨h.rm.used, h.rm.room⟩, h.room, h.off, ?_, h.b, h.d⟩
    show (if 0 ≤ n then some n.toNat else none) = if decide (0 ≤ n) = true then some n.toNat else none
    by_cases e : 0 ≤ n
    · rw [if_pos e, if_pos (decide_eq_true e)]
    · rw [if_neg e, if_neg (by simp [e])]
theorem filesB_congr {B B' : Nat → List UInt8} (h : ∀ n, n < 64 → B n = B' n) : filesB B = filesB B' := by
  unfold filesB
  exact List.filter_congr fun n hn => by rw [h n (List.mem_range.1 hn)]
theorem flatMap_cg {α β : Type} {f g : α → List β} : ∀ {l : List α}, (∀ a, a ∈ l → f a = g a) → l.flatMap f = l.flatMap g
  | [], _ => rfl
  | a :: l, h => by rw [List.flatMap_cons, List.flatMap_cons, h a (.head _), flatMap_cg fun b hb => h b (.tail _ hb)]
theorem crashB_congr {B B' : Nat → List UInt8} {D D' : Nat → Nat} (h : ∀ n, n < 64 → B n = B' n) (hd : ∀ n, n < 64 → D n = D' n) (keep : List Int) (flip : Int) {n : Nat} (hn : n < 64) : crashB B D keep flip n = crashB B' D' keep flip n := by
  have hf := filesB_congr h
  have hc : ∀ m, m < 64 → cutB B D keep m = cutB B' D' keep m := fun m hm => by unfold cutB; rw [h m hm, hd m hm, hf]
  have hl : looseB B D keep = looseB B' D' keep := by
    unfold looseB
    rw [hf]
    refine flatMap_cg fun m hm => ?_
    have hm2 := (filesB_mem.1 hm).1
    rw [hc m hm2, hd m hm2]
  unfold crashB
  rw [hl, hc n hn]
theorem RelP.crash {s t : Ds} {a : Am} {keep : List Int} {flip : Int} (h : RelP s a) (c : CrashR s keep flip t) : RelP t (crashA a keep flip) := by
  have hb : ∀ n, n < 64 → vB t.fs n = crashB a.B a.D keep flip n := fun n hn => by rw [c.b n hn, crashB_congr h.b h.d keep flip hn]
  exact ⟨c.ok, c.lft h.lft, c.rm h.ok h.rm, by rw [c.room]; exact h.room, c.off, by rw [c.armed]; rfl, hb, fun n hn => by rw [c.hard, hb n hn]; rfl⟩
theorem RelP.new {m k : Nat} (hk : k ≤ 16777216) : RelP ⟨m, [], k, false, false, 0⟩ ⟨k, false, none, fun _ => [], fun _ => 0⟩ := ⟨OkF.nil, fresh_lft, fresh_rm hk, rfl, rfl, rfl, fun _ _ => rfl, fun _ _ => rfl⟩
end Go.GL

namespace Go.GL
set_option linter.unusedVariables false
structure Rf where
  a : Am
  x : Nat → RdX
  pl : Int
  ba : Option Addr
  fa : Option Addr
def rowsF (B : Nat → List UInt8) (x : Nat → RdX) : List Rc := (List.range 64).map fun i => (B i, x i)
def firmF (D : Nat → Nat) : List Int := (List.range 64).map fun i => (D i : Int)
def rfC (s : Rf) : List Value := [I s.a.room, .slice s.ba 64 64, .slice s.fa 64 64, .bool s.a.off, I s.pl]
theorem rowsF_len (B : Nat → List UInt8) (x : Nat → RdX) : (rowsF B x).length = 64 := by simp [rowsF]
theorem firmF_len (D : Nat → Nat) : (firmF D).length = 64 := by simp [firmF]
theorem rowsF_mem {B : Nat → List UInt8} {x : Nat → RdX} {n : Nat} (h : n < 64) : (B n, x n) ∈ rowsF B x := List.mem_map.2 ⟨n, List.mem_range.2 h, rfl⟩
theorem rowsF_get {B : Nat → List UInt8} {x : Nat → RdX} {n : Nat} {v : Int} (hv : v = n) (h : n < 64) : (listV (rowsF B x))[0 + v.toNat * 1]? = some (.slice (x n).oa (B n).length (x n).c) := by
  subst hv
  rw [Nat.zero_add, listV_get (by rw [rowsF_len]; exact h)]
  simp [rowsF]
theorem firmF_get {D : Nat → Nat} {n : Nat} {v : Int} (hv : v = n) (h : n < 64) : (ints (firmF D))[0 + v.toNat * 1]? = some (I (D n : Nat)) := by
  subst hv
  have h1 : n < (firmF D).length := by rw [firmF_len]; exact h
  rw [Nat.zero_add, Nat.mul_one, Int.toNat_natCast, ints_get h1]
  simp [firmF]
theorem rowsF_ne (B : Nat → List UInt8) (x : Nat → RdX) : listV (rowsF B x) ≠ [] := listV_ne (i := 0) (by rw [rowsF_len]; decide)
theorem firmF_ne (D : Nat → Nat) : ints (firmF D) ≠ [] := ints_ne (by rw [firmF_len]; decide)
theorem range_set {α : Type} (f : Nat → α) (m n : Nat) (v : α) : ((List.range m).map f).set n v = (List.range m).map (upd f n v) := by
  refine List.ext_getElem (by simp) fun i h1 h2 => ?_
  simp only [List.length_set, List.length_map, List.length_range] at h1
  rw [List.getElem_set, List.getElem_map, List.getElem_range, List.getElem_map, List.getElem_range]
  unfold upd
  by_cases e : n = i
  · rw [if_pos e, if_pos e.symm]
  · rw [if_neg e, if_neg (fun e2 => e e2.symm)]
theorem splice_set {α : Type} (l : List α) (n : Nat) (v : α) (h : n < l.length) : l.take n ++ [v] ++ l.drop (n + 1) = l.set n v := by
  rw [List.set_eq_take_append_cons_drop, if_pos h, List.append_assoc]; rfl
theorem rowsF_set {B : Nat → List UInt8} {x : Nat → RdX} {n : Nat} {v : Int} {y : List UInt8} {z : RdX} (hv : v = n) (h : n < 64) :
    (listV (rowsF B x)).take (0 + v.toNat * 1) ++ [.slice z.oa y.length z.c] ++ (listV (rowsF B x)).drop (0 + v.toNat * 1 + 1) = listV (rowsF (upd B n y) (upd x n z)) := by
  subst hv
  rw [Nat.zero_add, Nat.mul_one, Int.toNat_natCast, splice_set _ _ _ (by rw [listV_length, rowsF_len]; exact h)]
  unfold listV rowsF
  rw [List.map_map, range_set, List.map_map]
  refine List.map_congr_left fun i _ => ?_
  show upd _ n _ i = _
  unfold upd
  by_cases e : i = n
  · simp [e]
  · simp [e]
theorem firmF_set {D : Nat → Nat} {n m : Nat} {v : Int} {u : Int} (hv : v = n) (hu : u = m) (h : n < 64) : (ints (firmF D)).take (0 + v.toNat * 1) ++ [I u] ++ (ints (firmF D)).drop (0 + v.toNat * 1 + 1) = ints (firmF (upd D n m)) := by
  rw [ints_set n (by omega) (by rw [firmF_len]; exact h), hu]
  unfold firmF
  rw [range_set]
  congr 1
  refine List.map_congr_left fun i _ => ?_
  unfold upd
  by_cases e : i = n
  · simp [e]
  · simp [e]
/-! ### As one part -/
def RfB (T eS eI b : Nat) (s : Rf) : HP := Al [Box b T (rfC s), OwnSl eS 1 s.ba 64 64 (listV (rowsF s.a.B s.x)), OwnSl eI 1 s.fa 64 64 (ints (firmF s.a.D))]
section
variable {w : World} {F : List Fact} {T eS eI b : Nat} {s : Rf}
theorem St.rfOpen {M : List HP} (h : St w (RfB T eS eI b s :: M) F) : St w (Box b T (rfC s) :: OwnSl eS 1 s.ba 64 64 (listV (rowsF s.a.B s.x)) :: OwnSl eI 1 s.fa 64 64 (ints (firmF s.a.D)) :: M) F := h.alOpen
theorem St.rfClose {M : List HP} (h : St w (Box b T (rfC s) :: OwnSl eS 1 s.ba 64 64 (listV (rowsF s.a.B s.x)) :: OwnSl eI 1 s.fa 64 64 (ints (firmF s.a.D)) :: M) F) : St w (RfB T eS eI b s :: M) F := St.alClose h
end
theorem Ctr.rf {P : Program} {f : FuncId} {args : List Value} {M : List HP} {F : List Fact} {ι : Type} {val : ι → Value} {F' : ι → List Fact} {T eS eI b : Nat} {s : Rf} (L' : ι → List HP) (s' : ι → Rf)
    (h : Ctr P f args (Box b T (rfC s) :: OwnSl eS 1 s.ba 64 64 (listV (rowsF s.a.B s.x)) :: OwnSl eI 1 s.fa 64 64 (ints (firmF s.a.D)) :: M) F ι val (fun i => L' i ++ (Box b T (rfC (s' i)) :: OwnSl eS 1 (s' i).ba 64 64 (listV (rowsF (s' i).a.B (s' i).x)) :: OwnSl eI 1 (s' i).fa 64 64 (ints (firmF (s' i).a.D)) :: M)) F') :
    Ctr P f args (RfB T eS eI b s :: M) F ι val (fun i => L' i ++ (RfB T eS eI b (s' i) :: M)) F' :=
  h.weak (fun w hw => hw.rfOpen) id (fun _ => rfl) (fun i w hw => by
    have h1 := hw.perm (perm_mid (L' i) [Box b T (rfC (s' i)), OwnSl eS 1 (s' i).ba 64 64 (listV (rowsF (s' i).a.B (s' i).x)), OwnSl eI 1 (s' i).fa 64 64 (ints (firmF (s' i).a.D))] M)
    have h2 := St.rfClose h1
    exact h2.perm (perm_mid [RfB T eS eI b (s' i)] (L' i) M))
/-! ### What holds of it -/
structure RfOk (s : Rf) : Prop where
  plan : s.a.plan = if s.pl < 0 then none else some s.pl.toNat
  lo : -2 ≤ s.pl
  hi : s.pl ≤ 4611686018427387904
  le : ∀ n, n < 64 → s.a.D n ≤ (s.a.B n).length
  cp : ∀ n, n < 64 → (s.a.B n).length ≤ (s.x n).c
  us : usedA s.a.B ≤ s.a.room
  rm : s.a.room ≤ 16777216
def usedT (B : Nat → List UInt8) (i : Nat) : Nat := ((List.range i).map fun n => (B n).length).sum
theorem usedT_succ (B : Nat → List UInt8) (i : Nat) : usedT B (i + 1) = usedT B i + (B i).length := by
  unfold usedT; rw [List.range_succ, List.map_append, List.sum_append]; simp
theorem usedT_mono (B : Nat → List UInt8) {i j : Nat} (h : i ≤ j) : usedT B i ≤ usedT B j := by
  induction h with
  | refl => exact Nat.le_refl _
  | step h ih => rw [usedT_succ]; omega
theorem usedT_all (B : Nat → List UInt8) : usedT B 64 = usedA B := rfl
theorem used_one {B : Nat → List UInt8} {n : Nat} (h : n < 64) : (B n).length ≤ usedA B := by
  have h1 := usedT_mono B (show n + 1 ≤ 64 by omega)
  rw [usedT_succ, usedT_all] at h1; omega
theorem usedT_upd (B : Nat → List UInt8) (n : Nat) (v : List UInt8) (i : Nat) : usedT (upd B n v) i + (if n < i then (B n).length else 0) = usedT B i + (if n < i then v.length else 0) := by
  induction i with
  | zero => simp [usedT]
  | succ i ih =>
    rw [usedT_succ, usedT_succ]
    unfold upd at *
    by_cases e : i = n
    · subst e
      simp at ih ⊢; omega
    · simp only [e, if_false]
      by_cases h : n < i
      · rw [if_pos h, if_pos h] at ih; rw [if_pos (by omega), if_pos (by omega)]; omega
      · rw [if_neg h, if_neg h] at ih; rw [if_neg (by omega), if_neg (by omega)]; omega
theorem used_upd {B : Nat → List UInt8} {n : Nat} {v : List UInt8} (h : n < 64) : usedA (upd B n v) + (B n).length = usedA B + v.length := by
  have := usedT_upd B n v 64
  rw [if_pos h, if_pos h, usedT_all, usedT_all] at this; exact this
theorem usedT_le {B B' : Nat → List UInt8} (h : ∀ n, n < 64 → (B n).length ≤ (B' n).length) : ∀ i, i ≤ 64 → usedT B i ≤ usedT B' i
  | 0, _ => Nat.le_refl _
  | i + 1, hi => by rw [usedT_succ, usedT_succ]; have := usedT_le h i (by omega); have := h i (by omega); omega
def filesT (B : Nat → List UInt8) (i : Nat) : List Nat := (List.range i).filter fun n => !(B n).isEmpty
theorem filesT_all (B : Nat → List UInt8) : filesT B 64 = filesB B := rfl
theorem filesT_yes {B : Nat → List UInt8} {i : Nat} (h : 0 < (B i).length) : filesT B (i + 1) = filesT B i ++ [i] := by
  unfold filesT
  rw [List.range_succ, List.filter_append]
  congr 1
  have : (B i).isEmpty = false := by cases hb : B i with
    | nil => rw [hb] at h; simp at h
    | cons a l => rfl
  simp [this]
theorem filesT_no {B : Nat → List UInt8} {i : Nat} (h : ¬ 0 < (B i).length) : filesT B (i + 1) = filesT B i := by
  unfold filesT
  rw [List.range_succ, List.filter_append]
  have : B i = [] := List.eq_nil_of_length_eq_zero (by omega)
  simp [this]
theorem filesT_len (B : Nat → List UInt8) (i : Nat) : (filesT B i).length ≤ i := by
  have := List.length_filter_le (fun n => !(B n).isEmpty) (List.range i)
  simpa [filesT] using this
def natI (l : List Nat) : List Int := l.map fun n : Nat => (n : Int)
theorem natI_len (l : List Nat) : (natI l).length = l.length := by simp [natI]
/-! ### Steps -/
def stepF (s : Rf) : Rf := { s with a := (stepA s.a).2, pl := if s.pl < 0 then s.pl else s.pl - 1 }
theorem stepF_neg {s : Rf} (h : RfOk s) (hn : s.pl < 0) : (stepA s.a).1 = true ∧ stepF s = s := by
  have hp := h.plan
  rw [if_pos hn] at hp
  have hs : stepA s.a = (true, s.a) := by unfold stepA; rw [hp]
  unfold stepF
  rw [hs, if_pos hn]; exact ⟨rfl, rfl⟩
theorem stepF_zero {s : Rf} (h : RfOk s) (h0 : s.pl = 0) : (stepA s.a).1 = false ∧ stepF s = { s with a := { s.a with off := true, plan := none }, pl := -1 } := by
  have hp := h.plan
  rw [if_neg (by omega), h0] at hp
  have hs : stepA s.a = (false, { s.a with off := true, plan := none }) := by unfold stepA; rw [hp]; rfl
  unfold stepF
  rw [hs, if_neg (by omega), h0]; exact ⟨rfl, rfl⟩
theorem stepF_pos {s : Rf} (h : RfOk s) (h0 : 0 < s.pl) : (stepA s.a).1 = true ∧ stepF s = { s with a := { s.a with plan := some (s.pl - 1).toNat }, pl := s.pl - 1 } := by
  have hp := h.plan
  rw [if_neg (by omega), show s.pl.toNat = (s.pl - 1).toNat + 1 by omega] at hp
  have hs : stepA s.a = (true, { s.a with plan := some (s.pl - 1).toNat }) := by unfold stepA; rw [hp]
  unfold stepF
  rw [hs, if_neg (by omega)]; exact ⟨rfl, rfl⟩
theorem RfOk.step {s : Rf} (h : RfOk s) : RfOk (stepF s) := by
  by_cases h1 : s.pl < 0
  · rw [(stepF_neg h h1).2]; exact h
  · by_cases h2 : s.pl = 0
    · rw [(stepF_zero h h2).2]; exact ⟨rfl, (by decide : (-2 : Int) ≤ -1), (by decide : (-1 : Int) ≤ 4611686018427387904), h.le, h.cp, h.us, h.rm⟩
    · rw [(stepF_pos h (by omega)).2]
      refine ⟨?_, by show -2 ≤ s.pl - 1; omega, by show s.pl - 1 ≤ _; have := h.hi; omega, h.le, h.cp, h.us, h.rm⟩
      show _ = if s.pl - 1 < 0 then none else _
      rw [if_neg (by omega)]
theorem stepA_BD (a : Am) : (stepA a).2.B = a.B ∧ (stepA a).2.D = a.D ∧ (stepA a).2.room = a.room := by
  unfold stepA; split <;> exact ⟨rfl, rfl, rfl⟩
theorem stepF_x (s : Rf) : (stepF s).x = s.x ∧ (stepF s).ba = s.ba ∧ (stepF s).fa = s.fa := ⟨rfl, rfl, rfl⟩
theorem stepA_off {a : Am} (h : (stepA a).1 = true) : (stepA a).2.off = a.off := by
  unfold stepA at *; split <;> first | rfl | (exfalso; simp_all)
/-! ### Made -/
def tyMkZ (P : Program) (t e : TypeId) : Option Value := match P.underlying t, P.info? e with
  | some (.slice e'), some i => if e' = e ∧ i.size = 1 ∧ i.bytes ≤ 64 then i.zero else none
  | _, _ => none
theorem made_any {z : Value} (n : Nat) : (madeCells #[z] (n * 1)).toList = List.replicate n z := by
  refine List.ext_getElem (by simp [madeCells]) fun i h1 h2 => ?_
  simp [madeCells]
  rw [Nat.mod_one]; rfl
section
variable {P : Program} {r : Option Nat} {N : Nat} {ops : Array Oper} {rest : List Oper} {Q : Exit → Act → World → Prop} {E : Env} {ds : List Deferred} {M : List HP} {F : List Fact}
variable {d : Nat} {ty : TypeId} {pos : String} {aft : Array Edge} {gd : Option (Nat × Bool)}
theorem GV.makeZ {t e n : Nat} {z : Value} {x y : Operand} (ht : tyMkZ P t e = some z) (hz : z.cells = #[z]) (hx : evalO E x = some (I (n : Int))) (hy : evalO E y = some (I (n : Int))) (hn : n ≤ 1048576) : GV P E M F ⟨some d, .makeSlice t x y, ty, pos, aft, gd⟩ Nat (fun b => .slice (some ⟨b, 0, none⟩) n n) (fun b => OwnSl e 1 (some ⟨b, 0, none⟩) n n (List.replicate n z) :: M) (fun _ => F) := ⟨rfl, fun ρ hρ w hw => by
  unfold tyMkZ at ht
  split at ht
  · rename_i e' i h1 h2
    split at ht
    · rename_i hc
      obtain ⟨rfl, hs, hb⟩ := hc
      have hm : n * i.bytes ≤ 1048576 * 64 := Nat.mul_le_mul hn hb
      obtain ⟨w', hrun, hown, hgr⟩ := run_makeSlice_full (P := P) (w := w) 0 t e' i z 1 h1 h2 ht hs .i64 .i64 n (by omega) (by rw [Nat.mul_comm]; omega) (by simp [maxLen]; omega) (Nat.zero_le _)
      refine ⟨w.heap.size, w', by simp [execOp, hρ _ _ hx, hρ _ _ hy, hrun], ?_⟩
      rw [hz, made_any] at hown
      exact hw.new hgr.os hgr.tape hgr.output hgr.size (fun b hb => hgr.block b hb (by simp)) (K' := [w.heap.size]) ⟨hown, rfl⟩ (by simp) (by simp)
    · cases ht
  · cases ht⟩
end
theorem rows_zero : List.replicate 64 (Value.slice none 0 0) = listV (rowsF (fun _ => []) (fun _ => ⟨none, 0⟩)) := rfl
theorem firm_zero : List.replicate 64 (I 0) = ints (firmF (fun _ => 0)) := rfl
theorem St.allB_zero {w : World} {M : List HP} {F : List Fact} (h : St w M F) : St w M (AllB (rowsF (fun _ => []) (fun _ => ⟨none, 0⟩)) :: F) := h.derive fun K hf p hp => by
  obtain ⟨n, _, rfl⟩ := List.mem_map.1 hp
  exact .inl rfl
theorem St.allB_upd {w : World} {M : List HP} {F : List Fact} {B : Nat → List UInt8} {x : Nat → RdX} {n : Nat} {y : List UInt8} {z : RdX} (hA : AllB (rowsF B x) ∈ F) (hy : ArrF z.oa (bytesV y) ∈ F) (h : St w M F) : St w M (AllB (rowsF (upd B n y) (upd x n z)) :: F) := h.derive fun K hf p hp => by
  obtain ⟨i, hi, rfl⟩ := List.mem_map.1 hp
  unfold upd
  by_cases e : i = n
  · simp only [e, if_true]; exact hf _ hy
  · simp only [e, if_false]; exact hf _ hA (B i, x i) (rowsF_mem (List.mem_range.1 hi))
theorem used_zero : usedA (fun _ => []) = 0 := by decide
theorem RfOk.new {k : Nat} {ba fa : Option Addr} (hk : k ≤ 16777216) : RfOk ⟨⟨k, false, none, fun _ => [], fun _ => 0⟩, fun _ => ⟨none, 0⟩, -1, ba, fa⟩ :=
  ⟨rfl, (by decide : (-2 : Int) ≤ -1), (by decide : (-1 : Int) ≤ 4611686018427387904), fun _ _ => Nat.le_refl _, fun _ _ => Nat.le_refl _, (by rw [used_zero]; exact Nat.zero_le _), hk⟩
def rf0 (k : Nat) (ba fa : Option Addr) : Rf := ⟨⟨k, false, none, fun _ => [], fun _ => 0⟩, fun _ => ⟨none, 0⟩, -1, ba, fa⟩
/-! ### What the operations do -/
theorem appA_arg {a : Am} {n : Int} {x : List UInt8} (h : ¬ there n) : appA a n x = (1, a) := by unfold appA; rw [if_pos h]
theorem appA_off {a : Am} {n : Int} {x : List UInt8} (h : there n) (ho : a.off = true) : appA a n x = (22, a) := by unfold appA; rw [if_neg (not_not_intro h), if_pos ho]
theorem appA_full {a : Am} {n : Int} {x : List UInt8} (h : there n) (ho : a.off = false) (hf : a.room < usedA a.B + x.length) : appA a n x = (21, a) := by unfold appA; rw [if_neg (not_not_intro h), if_neg (by rw [ho]; simp), if_pos hf]
theorem appA_go {a : Am} {n : Nat} {x : List UInt8} (h : n < 64) (ho : a.off = false) (hf : ¬ a.room < usedA a.B + x.length) : appA a (n : Int) x = (if (stepA { a with B := upd a.B n (a.B n ++ x) }).1 = true then 0 else 22, (stepA { a with B := upd a.B n (a.B n ++ x) }).2) := by
  unfold appA; rw [if_neg (not_not_intro ⟨by omega, by omega⟩), if_neg (by rw [ho]; simp), if_neg hf]; rfl
/-- the state behind an Append that is written, ahead of its step -/
def putF (s : Rf) (n : Nat) (y : List UInt8) (z : RdX) : Rf := { s with a := { s.a with B := upd s.a.B n y }, x := upd s.x n z }
theorem RfOk.put {s : Rf} {n : Nat} {x : List UInt8} {z : RdX} (h : RfOk s) (hn : n < 64) (hz : (s.a.B n ++ x).length ≤ z.c) (hr : ¬ s.a.room < usedA s.a.B + x.length) : RfOk (putF s n (s.a.B n ++ x) z) := by
  refine ⟨h.plan, h.lo, h.hi, fun k hk => ?_, fun k hk => ?_, ?_, h.rm⟩
  · show s.a.D k ≤ (upd s.a.B n _ k).length
    unfold upd
    by_cases e : k = n
    · rw [if_pos e, e, List.length_append]; have := h.le n hn; omega
    · rw [if_neg e]; exact h.le k hk
  · show (upd s.a.B n _ k).length ≤ (upd s.x n z k).c
    unfold upd
    by_cases e : k = n
    · rw [if_pos e, if_pos e]; exact hz
    · rw [if_neg e, if_neg e]; exact h.cp k hk
  · show usedA (upd s.a.B n _) ≤ s.a.room
    have := used_upd (B := s.a.B) (v := s.a.B n ++ x) hn
    rw [List.length_append] at this; omega
section
variable {P : Program} {r : Option Nat} {N : Nat} {ops : Array Oper} {rest : List Oper} {Q : Exit → Act → World → Prop} {E : Env} {ds : List Deferred} {M : List HP} {F : List Fact}
variable {ty : TypeId} {pos : String} {aft : Array Edge} {gd : Option (Nat × Bool)}
theorem EV.storeRow {t e b n : Nat} {u : Int} {oa : Option Addr} {B : Nat → List UInt8} {X : Nat → RdX} {z : RdX} {l : List UInt8} {x y : Operand} (i : Nat) (hx : evalO E x = some (.pointer (some ⟨b, 0 + u.toNat * 1, none⟩))) (hy : evalO E y = some (.slice z.oa l.length z.c))
    (hi : M[i]? = some (OwnSl e 1 oa 64 64 (listV (rowsF B X)))) (hoa : oa = some ⟨b, 0, none⟩) (ht : tySize P t 1 = true) (hu : u = n) (hn : n < 64) :
    EV P r Q E M F ⟨none, .store t x y, ty, pos, aft, gd⟩ Unit (fun _ => undef) (fun _ => M.set i (OwnSl e 1 oa 64 64 (listV (rowsF (upd B n l) (upd X n z))))) (fun _ => F) := by
  have h := EV.storeO (P := P) (r := r) (Q := Q) (F := F) (ty := ty) (pos := pos) (aft := aft) (gd := gd) (t := t) (vs := [.slice z.oa l.length z.c]) i hx hy hi hoa ht rfl (by rw [listV_length, rowsF_len]; simp; omega) rfl
  rw [show ([Value.slice z.oa l.length z.c] : List Value).length = 1 from rfl, rowsF_set hu hn] at h
  exact h
theorem EV.storeFirm {t e b n m : Nat} {u v : Int} {oa : Option Addr} {D : Nat → Nat} {x y : Operand} (i : Nat) (hx : evalO E x = some (.pointer (some ⟨b, 0 + u.toNat * 1, none⟩))) (hy : evalO E y = some (I v))
    (hi : M[i]? = some (OwnSl e 1 oa 64 64 (ints (firmF D)))) (hoa : oa = some ⟨b, 0, none⟩) (ht : tySize P t 1 = true) (hu : u = n) (hv : v = m) (hn : n < 64) :
    EV P r Q E M F ⟨none, .store t x y, ty, pos, aft, gd⟩ Unit (fun _ => undef) (fun _ => M.set i (OwnSl e 1 oa 64 64 (ints (firmF (upd D n m))))) (fun _ => F) := by
  have h := EV.storeO (P := P) (r := r) (Q := Q) (F := F) (ty := ty) (pos := pos) (aft := aft) (gd := gd) (t := t) (vs := [I v]) i hx hy hi hoa ht rfl (by rw [show (ints (firmF D)).length = 64 from by simp [ints, firmF_len]]; simp; omega) rfl
  rw [show ([I v] : List Value).length = 1 from rfl, firmF_set hu hv hn] at h
  exact h
theorem GV.boxA {d : Nat} {t : TypeId} {x : Operand} {cs : List Value} (hx : evalO E x = some (.agg cs.toArray)) : GV P E M F ⟨some d, .box t x, ty, pos, aft, gd⟩ Nat (fun b => .pointer (some ⟨b, 0, none⟩)) (fun b => Box b t cs :: M) (fun _ => F) := ⟨rfl, fun ρ hρ w hw =>
  ⟨w.heap.size, _, by simp [execOp, Instr.box, hρ _ _ hx, newVar, newRow, Value.cells], hw.alloc _⟩⟩
theorem EV.cast {o : Oper} {ι : Type} {val : ι → Value} {M1 M2 : ι → List HP} {F' : ι → List Fact} (h : EV P r Q E M F o ι val M1 F') (e : M1 = M2) : EV P r Q E M F o ι val M2 F' := e ▸ h
end
theorem stepA_eq {a : Am} {B : Nat → List UInt8} : (stepA { a with B := B }).2 = { (stepA a).2 with B := B } := by
  obtain ⟨rm, off, plan, B0, D⟩ := a
  cases plan with
  | none => rfl
  | some k => cases k <;> rfl
/-- the firm numbers while a Sync writes them -/
def syncD (a : Am) (i : Nat) (k : Nat) : Nat := if k < i then (a.B k).length else a.D k
theorem syncD_succ (a : Am) (i : Nat) : syncD a (i + 1) = upd (syncD a i) i (a.B i).length := funext fun k => by
  unfold upd
  show (if k < i + 1 then (a.B k).length else a.D k) = if k = i then (a.B i).length else if k < i then (a.B k).length else a.D k
  by_cases h : k = i
  · rw [if_pos h, if_pos (by omega), h]
  · rw [if_neg h]
    by_cases h2 : k < i
    · rw [if_pos h2, if_pos (by omega)]
    · rw [if_neg h2, if_neg (by omega)]
theorem firmF_cg {D D' : Nat → Nat} (h : ∀ n, n < 64 → D n = D' n) : firmF D = firmF D' := List.map_congr_left fun n hn => by rw [h n (List.mem_range.1 hn)]
theorem rowsF_cg {B B' : Nat → List UInt8} {x x' : Nat → RdX} (h : ∀ n, n < 64 → B n = B' n ∧ x n = x' n) : rowsF B x = rowsF B' x' := List.map_congr_left fun n hn => by rw [(h n (List.mem_range.1 hn)).1, (h n (List.mem_range.1 hn)).2]
theorem RfOk.arm {s : Rf} {n : Int} (h : RfOk s) (h0 : -1 ≤ n) (h1 : n ≤ 4611686018427387904) (ho : s.a.off = false) : RfOk { s with a := armA s.a n, pl := max n (-1) } ∧ ({ s with a := armA s.a n, pl := max n (-1) } : Rf).a = armA s.a n := by
  refine ⟨?_, rfl⟩
  have e1 : armA s.a n = { s.a with plan := if 0 ≤ n then some n.toNat else none } := by unfold armA; rw [if_neg (by rw [ho]; simp)]
  rw [e1]
  refine ⟨?_, by show -2 ≤ max n (-1); omega, by show max n (-1) ≤ _; omega, h.le, h.cp, h.us, h.rm⟩
  show (if 0 ≤ n then some n.toNat else none) = if max n (-1) < 0 then none else some (max n (-1)).toNat
  by_cases e : 0 ≤ n
  · rw [if_pos e, if_neg (by omega), show max n (-1) = n by omega]
  · rw [if_neg e, if_pos (by omega)]
theorem truncA_bad {a : Am} {n k : Int} (h : ¬ there n ∨ k < 0 ∨ ((a.B n.toNat).length : Int) < k) : truncA a n k = (1, a) := by unfold truncA; rw [if_pos h]
theorem truncA_off {a : Am} {n k : Int} (h : ¬ (¬ there n ∨ k < 0 ∨ ((a.B n.toNat).length : Int) < k)) (ho : a.off = true) : truncA a n k = (22, a) := by unfold truncA; rw [if_neg h, if_pos ho]
theorem truncA_fail {a : Am} {n k : Int} (h : ¬ (¬ there n ∨ k < 0 ∨ ((a.B n.toNat).length : Int) < k)) (ho : a.off = false) (hs : (stepA a).1 = false) : truncA a n k = (22, (stepA a).2) := by
  unfold truncA; rw [if_neg h, if_neg (by rw [ho]; simp)]; simp only; rw [if_neg (by rw [hs]; simp)]
theorem truncA_go {a : Am} {n k : Nat} (h : ¬ (¬ there (n : Int) ∨ (k : Int) < 0 ∨ ((a.B (n : Int).toNat).length : Int) < k)) (ho : a.off = false) (hs : (stepA a).1 = true) : truncA a n k = (0, { (stepA a).2 with B := upd (stepA a).2.B n (((stepA a).2.B n).take k), D := upd (stepA a).2.D n (min ((stepA a).2.D n) k) }) := by
  unfold truncA; rw [if_neg h, if_neg (by rw [ho]; simp)]; simp only; rw [if_pos hs]; rfl
theorem RfOk.cut {s : Rf} {n k : Nat} {z : RdX} (h : RfOk s) (hn : n < 64) (hz : z.c = (s.x n).c) : RfOk { s with a := { s.a with B := upd s.a.B n ((s.a.B n).take k), D := upd s.a.D n (min (s.a.D n) k) }, x := upd s.x n z } := by
  refine ⟨h.plan, h.lo, h.hi, fun j hj => ?_, fun j hj => ?_, ?_, h.rm⟩
  · show upd s.a.D n _ j ≤ (upd s.a.B n _ j).length
    unfold upd
    by_cases e : j = n
    · rw [if_pos e, if_pos e, List.length_take]; have := h.le n hn; omega
    · rw [if_neg e, if_neg e]; exact h.le j hj
  · show (upd s.a.B n _ j).length ≤ (upd s.x n z j).c
    unfold upd
    by_cases e : j = n
    · rw [if_pos e, if_pos e, hz, List.length_take]; have := h.cp n hn; omega
    · rw [if_neg e, if_neg e]; exact h.cp j hj
  · show usedA (upd s.a.B n _) ≤ s.a.room
    have h1 := used_upd (B := s.a.B) (v := (s.a.B n).take k) hn
    rw [List.length_take] at h1
    have := h.us
    omega
end Go.GL
