/- Walks of functions of the program. Printed by sx.py. -/
import Derived.Test.YtdlpaojkkekdlaaWd
namespace Go.Proofs.Ytdlpaojkkekdlaa
open Go.GL
set_option linter.unusedVariables false
theorem we_bs27_1_0 (x0 : Option Addr) (x0n x0c : Nat) : BuildSV Try.prog 27 23 1 [(0, .slice x0 x0n x0c)] [.slice x0 x0n x0c] := fun w => by kernel_rfl
theorem we_ni27 : noInt Try.prog 27 = true := by kernel_rfl
theorem we_te23 : tyElem Try.prog 23 1 24 = true := by kernel_rfl
theorem we_tl23 : tySlice Try.prog 23 5 = true := by kernel_rfl
theorem we_tl27 : tySlice Try.prog 27 23 = true := by kernel_rfl
theorem we_ts23 : tyScalar Try.prog 23 = true := by kernel_rfl
theorem we_ts27 : tyScalar Try.prog 27 = true := by kernel_rfl
theorem we_ts3 : tyScalar Try.prog 3 = true := by kernel_rfl
theorem we_tz5 : tySize Try.prog 5 1 = true := by kernel_rfl
theorem records_spec {b : List UInt8} {oa : Option Addr} {c : Nat} {M : List HP} {F : List Fact} : Ctr Try.prog 49 [.slice oa b.length c] M F Nat (fun d => .func (.func 76) #[] #[.pointer (some ⟨d, 0, none⟩)]) (fun _ => M) (fun d => CellsF d 0 [.slice oa b.length c] :: F) := by
  refine Ctr.body Try.func49 rfl rfl ?_
  refine TR.seq ?_
  refine TR.region ?_
  refine RL.box1 rfl rfl rfl rfl (fun b1 => ?_)
  refine RL.assign rfl rfl rfl ?_
  refine RL.nil ?_
  refine NX.seq ?_
  refine TR.seq ?_
  refine TR.region ?_
  refine RL.makeFunc rfl rfl rfl rfl ?_
  refine RL.assign rfl rfl rfl ?_
  refine RL.nil ?_
  refine NX.seq ?_
  refine TR.ret ?_
  exact NX.ret1 b1 rfl rfl rfl (fun w hw => hw.keep)

theorem records_iter {b : List UInt8} {oa : Option Addr} {c d : Nat} {F : List Fact} (ha : ArrF oa (bytesV b) ∈ F) (hb : CellsF d 0 [.slice oa b.length c] ∈ F) (hc : b.length ≤ c) (hl : b.length ≤ 17592186044416) : IterO Try.prog 76 [.pointer (some ⟨d, 0, none⟩)] (recEnc (scanJ 0 b)) (recOwn 5 (scanJ 0 b)) (List.range (scanJ 0 b).length) F := by
  intro l J hY Mi G hG
  refine Ctr.body Try.func76 rfl rfl ?_
  refine TR.seq ?_
  refine TR.region ?_
  refine RL.assign rfl rfl rfl ?_
  refine RL.nil ?_
  refine NX.seq ?_
  refine TR.seq ?_
  refine TR.region ?_
  refine RL.assign rfl rfl rfl ?_
  refine RL.nil ?_
  refine NX.seq ?_
  refine TR.block ?_
  refine TR.loopP (ι := Nat) (fun k => k ≤ (scanJ 0 b).length ∧ (scanJ 0 b).drop k = scanJ k (b.drop (framesJ 0 ((scanJ 0 b).take k)).length) ∧ (framesJ 0 ((scanJ 0 b).take k)).length ≤ b.length) (fun k => [(0, .func (.yield l) #[] #[]), (1, .pointer (some ⟨d, 0, none⟩)), (3, I ((framesJ 0 ((scanJ 0 b).take k)).length : Nat)), (4, I k)]) (fun k => J (List.range k) ++ Mi) (fun _ => G) (fun k => (scanJ 0 b).length - k) 0 ⟨Nat.zero_le _, by simp [framesJ], by simp [framesJ]⟩ ⟨rfl, rfl, rfl, rfl, trivial⟩ (fun w hw => hw) (fun k hk => ?_)
  refine TR.seq ?_
  refine TR.seq ?_
  refine TR.region ?_
  refine RL.move rfl rfl rfl ?_
  refine RL.loadF rfl rfl (fun w K hF => run_loadCell1 (j := 0) (hF _ (hG _ hb)) we_ts23 rfl) rfl ?_
  refine RL.lenSlice rfl we_tl23 rfl rfl ?_
  refine RL.bin rfl rfl rfl BinV.lss rfl ?_
  refine RL.nil ?_
  refine NX.seq ?_
  refine TR.cond rfl (fun h1 => ?_) (fun h1 => ?_)
  · skip
    have hlt : (framesJ 0 ((scanJ 0 b).take k)).length < b.length := by have := of_decide_eq_true h1; omega
    have hrl := recOf_len (b := b.drop (framesJ 0 ((scanJ 0 b).take k)).length)
    rw [List.length_drop] at hrl
    have hxl : (recOf (b.drop (framesJ 0 ((scanJ 0 b).take k)).length)).length ≤ 17592186044416 := by omega
    have hkl : k < 9223372036854775807 := by have := framesJ_len2 (scanJ 0 b) k hk.1; omega
    refine TR.skip ?_
    refine NX.seq ?_
    refine TR.seq ?_
    refine TR.block ?_
    refine TR.seq ?_
    refine TR.region ?_
    refine RL.loadF rfl rfl (fun w K hF => run_loadCell1 (j := 0) (hF _ (hG _ hb)) we_ts23 rfl) rfl ?_
    refine RL.move rfl rfl rfl ?_
    refine RL.sliceFromB (k := (framesJ 0 ((scanJ 0 b).take k)).length) (cap := c) rfl we_tl23 we_tz5 rfl rfl (by omega) hc (hG _ ha) rfl ?_
    refine RL.call rfl rfl Try.call77 rfl (record_spec (b := b.drop (framesJ 0 ((scanJ 0 b).take k)).length) (.head _) (by rw [List.length_drop]; omega) (by rw [List.length_drop]; omega)) (fun z => ?_)
    refine RL.assign rfl rfl rfl ?_
    refine RL.nil ?_
    refine NX.seq ?_
    refine TR.seq ?_
    refine TR.region ?_
    refine RL.move rfl rfl rfl ?_
    refine RL.move rfl rfl rfl ?_
    refine RL.call rfl rfl Try.call13 rfl (frame_spec (i := (k : Int)) (x := recOf (b.drop (framesJ 0 ((scanJ 0 b).take k)).length)) (rd_own (i := 0) rfl) (by omega) (by omega) hxl) (fun f => ?_)
    refine RL.weak (fun w hw => hw.keepSl) ?_
    refine RL.assign rfl rfl rfl ?_
    refine RL.nil ?_
    refine NX.seq ?_
    refine TR.seq ?_
    refine TR.seq ?_
    refine TR.region ?_
    refine RL.loadF rfl rfl (fun w K hF => run_loadCell1 (j := 0) (hF _ (by first | exact (hG _ hb) | exact .tail _ ((hG _ hb)) | exact .tail _ (.tail _ ((hG _ hb))) | exact .tail _ (.tail _ (.tail _ ((hG _ hb)))) | exact .tail _ (.tail _ (.tail _ (.tail _ ((hG _ hb))))))) we_ts23 rfl) rfl ?_
    refine RL.move rfl rfl rfl ?_
    refine RL.sliceFromB (k := (framesJ 0 ((scanJ 0 b).take k)).length) (cap := c) rfl we_tl23 we_tz5 rfl rfl (by omega) hc (by first | exact (hG _ ha) | exact .tail _ ((hG _ ha)) | exact .tail _ (.tail _ ((hG _ ha))) | exact .tail _ (.tail _ (.tail _ ((hG _ ha)))) | exact .tail _ (.tail _ (.tail _ (.tail _ ((hG _ ha)))))) rfl ?_
    refine RL.move rfl rfl rfl ?_
    refine RL.call rfl rfl Try.call78 rfl (hasPrefix_spec (b := b.drop (framesJ 0 ((scanJ 0 b).take k)).length) (f := frameJ (k : Int) (recOf (b.drop (framesJ 0 ((scanJ 0 b).take k)).length))) (.head _) (.tail _ (.head _)) (by rw [List.length_drop]; omega)) (fun _ => ?_)
    refine RL.not rfl rfl rfl ?_
    refine RL.nil ?_
    refine NX.seq ?_
    refine TR.cond rfl (fun h2 => ?_) (fun h2 => ?_)
    · skip
      have hnp : ¬ frameJ (k : Int) (recOf (b.drop (framesJ 0 ((scanJ 0 b).take k)).length)) <+: b.drop (framesJ 0 ((scanJ 0 b).take k)).length := by simpa using h2
      have hk2 : k = (scanJ 0 b).length := by have h9 := hk.2.1; rw [scanJ_no hnp] at h9; have := congrArg List.length h9; rw [List.length_drop, List.length_nil] at this; omega
      refine TR.ret ?_
      refine NX.retThen ?_
      refine NX.retBlock ?_
      refine NX.retThen ?_
      refine NX.retThen ?_
      refine NX.retBlock ?_
      refine NX.ret0 () rfl rfl (fun w hw => ?_)
      have h9 := (hw.drop 0 rfl).facts (F' := G) (fun φ h => .tail _ (.tail _ (.tail _ h)))
      rw [hk2] at h9
      exact h9
    · skip
      have hpf : frameJ (k : Int) (recOf (b.drop (framesJ 0 ((scanJ 0 b).take k)).length)) <+: b.drop (framesJ 0 ((scanJ 0 b).take k)).length := by simpa using h2
      have hne : b.drop (framesJ 0 ((scanJ 0 b).take k)).length ≠ [] := by intro e; have := congrArg List.length e; rw [List.length_drop, List.length_nil] at this; omega
      have hsc := hk.2.1
      rw [scanJ_yes hne hpf] at hsc
      have hk1 : k < (scanJ 0 b).length := by have := congrArg List.length hsc; rw [List.length_drop, List.length_cons] at this; omega
      rw [List.drop_eq_getElem_cons hk1] at hsc
      have hxe : (scanJ 0 b)[k] = recOf (b.drop (framesJ 0 ((scanJ 0 b).take k)).length) := (List.cons.inj hsc).1
      have hrest := (List.cons.inj hsc).2
      have hxk : recOf (b.drop (framesJ 0 ((scanJ 0 b).take k)).length) = (scanJ 0 b).getD k [] := by rw [getD_get hk1, hxe]
      have hfl := hpf.length_le
      rw [List.length_drop] at hfl
      have hat : ((framesJ 0 ((scanJ 0 b).take (k + 1))).length : Int) = (framesJ 0 ((scanJ 0 b).take k)).length + (frameJ (k : Int) ((scanJ 0 b).getD k [])).length := by
        rw [List.take_succ_eq_append_getElem hk1, framesJ_snoc, List.length_append, List.length_take, Nat.min_eq_left (by omega), Nat.zero_add, getD_get hk1]; omega
      refine TR.skip ?_
      refine NX.seq ?_
      refine TR.seq ?_
      refine TR.region ?_
      refine RL.move rfl rfl rfl ?_
      refine RL.move rfl rfl rfl ?_
      refine RL.lenSlice rfl we_tl23 rfl rfl ?_
      refine RL.bin rfl rfl rfl (BinV.add _ rfl (by omega) (by omega)) rfl ?_
      refine RL.assign rfl rfl rfl ?_
      refine RL.nil ?_
      refine NX.seq ?_
      refine TR.seq ?_
      refine TR.region ?_
      refine RL.move rfl rfl rfl ?_
      refine RL.move rfl rfl rfl ?_
      refine RL.move rfl rfl rfl ?_
      rw [hxk]
      refine RL.callYield rfl rfl rfl rfl (hY (List.range k) k ((List.range ((scanJ 0 b).length - (k + 1))).map (k + 1 + ·)) _ (range_split hk1) ⟨⟨z.1, z.2⟩, by rw [hat]⟩ _ _ (fun φ h => .tail _ (.tail _ (.tail _ (hG φ h))))) ?_
      refine RL.not rfl rfl rfl ?_
      refine RL.nil ?_
      refine NX.seq ?_
      refine TR.condF rfl ?_
      refine TR.skip ?_
      refine NX.off ?_
      refine NX.seq ?_
      refine TR.region ?_
      refine RL.move rfl rfl rfl ?_
      refine RL.bin rfl rfl rfl (BinV.add _ rfl (by omega) (by omega)) rfl ?_
      refine RL.assign rfl rfl rfl ?_
      refine RL.nil ?_
      refine NX.roundP (k + 1) ⟨hk1, ?_, ?_⟩ (by omega) ⟨rfl, rfl, congrArg (fun z => some (I z)) hat.symm, rfl, trivial⟩ (fun w hw => ?_)
      · have e2 : b.drop (framesJ 0 ((scanJ 0 b).take (k + 1))).length = (b.drop (framesJ 0 ((scanJ 0 b).take k)).length).drop (frameJ (k : Int) (recOf (b.drop (framesJ 0 ((scanJ 0 b).take k)).length))).length := by
          rw [List.drop_drop, hxk]; congr 1; omega
        rw [e2]; exact hrest
      · rw [hxk] at hfl; omega
      · rw [List.range_succ]
        exact hw.facts (fun φ h => .tail _ (.tail _ (.tail _ h)))
  · skip
    have hend : b.drop (framesJ 0 ((scanJ 0 b).take k)).length = [] := List.drop_of_length_le (by have := of_decide_eq_false h1; omega)
    have hk2 : k = (scanJ 0 b).length := by have h9 := hk.2.1; rw [hend, scanJ_nil] at h9; have := congrArg List.length h9; rw [List.length_drop, List.length_nil] at this; omega
    refine TR.exit ?_
    refine NX.exitThen ?_
    refine NX.exitThen ?_
    refine NX.exitHere ?_
    refine NX.end0 () rfl rfl (fun w hw => ?_)
    rw [hk2] at hw
    exact hw

theorem scan_spec {b : List UInt8} {oa : Option Addr} {c : Nat} {M : List HP} {F : List Fact} (ha : ArrF oa (bytesV b) ∈ F) (hc : b.length ≤ c) (hl : b.length ≤ 4398046511104) : Ctr Try.prog 16 [.slice oa b.length c] M F {z : LsX // z.ps.map Prod.fst = scanJ 0 b ∧ ∀ p, p ∈ z.ps → p.1.length ≤ p.2.c} (fun z => .tuple #[.slice z.1.oa z.1.ps.length z.1.c, I ((framesJ 0 (scanJ 0 b)).length : Nat)]) (fun z => OwnSl 23 1 z.1.oa z.1.ps.length z.1.c (listV z.1.ps) :: M) (fun z => AllB z.1.ps :: F) := by
  refine Ctr.bodyM Try.func16 rfl rfl ?_
  refine TR.seq ?_
  refine TR.region ?_
  refine RL.assign rfl rfl rfl ?_
  refine RL.assign rfl rfl rfl ?_
  refine RL.nil ?_
  refine NX.seq ?_
  refine TR.seq ?_
  refine TR.region ?_
  refine RL.alloc1 rfl (Try.zeroValue27) rfl rfl (fun b1 => ?_)
  refine RL.weak (fun w hw => St.recsNew (e0 := 23) (e := 5) hw) ?_
  refine RL.nil ?_
  refine NX.seq ?_
  refine TR.seq ?_
  refine TR.region ?_
  refine RL.alloc1 rfl (Try.zeroValue3) rfl rfl (fun b2 => ?_)
  refine RL.store1 0 rfl we_ts3 rfl rfl rfl rfl rfl ?_
  refine RL.nil ?_
  refine NX.seq ?_
  refine TR.seq ?_
  refine TR.seq ?_
  refine TR.region ?_
  refine RL.move rfl rfl rfl ?_
  refine RL.call rfl rfl Try.call49 rfl (records_spec) (fun bc => ?_)
  refine RL.nil ?_
  refine NX.seq ?_
  refine TR.block ?_
  refine TR.rangeFuncO (κ := Unit) (xs := (List.range (scanJ 0 b).length)) rfl Try.call76 (by simp) (recEnc_len _) (records_iter (.tail _ ha) (.head _) hc (by omega)) (fun pre => [RecsB 27 23 5 b1 ((scanJ 0 b).take pre.length), Box b2 3 [I ((framesJ 0 ((scanJ 0 b).take pre.length)).length : Nat)]]) M (fun w hw => hw.swap) (fun pre x args b => [(4, .pointer (some ⟨b1, 0, none⟩)), (5, .pointer (some ⟨b2, 0, none⟩)), (6, args.getD 0 undef), (7, args.getD 1 undef)]) (fun pre x args _ => recOwn 5 (scanJ 0 b) x args ++ [RecsB 27 23 5 b1 ((scanJ 0 b).take pre.length), Box b2 3 [I ((framesJ 0 ((scanJ 0 b).take pre.length)).length : Nat)]]) ?as0 ?bd0 ?ki0
  case as0 =>
    intro l pre x suf args hx he Mi G hG
    obtain ⟨r, rfl⟩ := he
    refine TR.seq ?_
    refine TR.region ?_
    refine RL.assign rfl rfl rfl ?_
    refine RL.nil ?_
    refine NX.seq ?_
    refine TR.region ?_
    refine RL.assign rfl rfl rfl ?_
    refine RL.nil ?_
    exact NX.meet () ⟨rfl, rfl, rfl, rfl, trivial⟩ (fun w hw => hw)
  case bd0 =>
    intro l pre x suf args i hx he Mi G hG
    obtain ⟨r, rfl⟩ := he
    refine TR.block ?_
    refine TR.seq ?_
    refine TR.region ?_
    have hk := range_pre hx
    refine RL.open (fun w hw => St.exOpen (hw.swap)) (fun i0 => ?_)
    obtain ⟨⟨ps, ro, rcc⟩, hps⟩ := i0
    have hps : ps.map Prod.fst = (scanJ 0 b).take pre.length := hps
    have hpl := congrArg List.length hps
    rw [List.length_map, List.length_take, hk.1, Nat.min_eq_left (by omega)] at hpl
    have hnl := framesJ_len2 (scanJ 0 b) (scanJ 0 b).length (Nat.le_refl _)
    rw [List.take_length] at hnl
    obtain ⟨rst, hrst⟩ := scanJ_split b.length b 0 (Nat.le_refl _)
    have hrl := congrArg List.length hrst
    rw [List.length_append] at hrl
    refine RL.load1 0 rfl we_ts27 rfl rfl rfl rfl ?_
    refine RL.move rfl rfl rfl ?_
    refine RL.buildSlice rfl rfl (we_bs27_1_0 _ _ _) rfl (fun b3 => ?_)
    refine RL.ofGV rfl rfl (GV.append (j := 2) we_tl27 we_ni27 we_te23 rfl rfl rfl (src_box (i := 0) rfl rfl rfl) (show ps.length + 1 ≤ 9223372036854775807 by omega) (show (ps.length + 1) * 24 ≤ 140737488355328 by omega)) (fun y => ?_)
    refine RL.store1 1 rfl we_ts27 rfl rfl rfl rfl rfl ?_
    refine RL.weak (M' := RecsB 27 23 5 b1 ((scanJ 0 b).take pre.length ++ [(scanJ 0 b).getD x []]) :: Box b2 3 [I ((framesJ 0 ((scanJ 0 b).take pre.length)).length : Nat)] :: Mi) (F' := G) (fun w hw => by
      have h9 : St w (Box b1 27 [.slice y.1 (ps.length + 1) y.2] :: OwnSl 23 1 y.1 (ps.length + 1) y.2 (listV ps ++ [.slice r.oa ((scanJ 0 b).getD x []).length r.c]) :: (ps.map (ownR 5) ++ (OwnSl 5 1 r.oa ((scanJ 0 b).getD x []).length r.c (bytesV ((scanJ 0 b).getD x [])) :: Box b2 3 [I ((framesJ 0 ((scanJ 0 b).take pre.length)).length : Nat)] :: Mi))) G := hw.drop 0 rfl
      exact St.recsSnoc (r := r) hps h9) ?_
    refine RL.nil ?_
    refine NX.seq ?_
    refine TR.region ?_
    refine RL.move rfl rfl rfl ?_
    refine RL.store1 1 rfl we_ts3 rfl rfl rfl rfl rfl ?_
    refine RL.nil ?_
    refine NX.off ?_
    exact fun aa w _ hw => by
      have e9 : (scanJ 0 b).take (pre ++ [x]).length = (scanJ 0 b).take pre.length ++ [(scanJ 0 b).getD x []] := by
        rw [List.length_append, hk.1, getD_get hk.2]; exact List.take_succ_eq_append_getElem hk.2
      show St w (RecsB 27 23 5 b1 ((scanJ 0 b).take (pre ++ [x]).length) :: Box b2 3 [I ((framesJ 0 ((scanJ 0 b).take (pre ++ [x]).length)).length : Nat)] :: Mi) G
      have e8 : (scanJ 0 b).take (pre ++ [x]).length = (scanJ 0 b).take (x + 1) := by rw [List.length_append, hk.1]; rfl
      rw [show framesJ 0 ((scanJ 0 b).take (pre ++ [x]).length) = framesJ 0 ((scanJ 0 b).take (x + 1)) from by rw [e8], e9]
      exact hw
  case ki0 =>
    intro D
    refine NX.off ?_
    refine NX.seq ?_
    refine TR.seq ?_
    refine TR.openP (fun w hw => St.recsOpen hw.swap) (fun z hz => ?_)
    refine TR.sub (E' := [(4, _), (5, _)]) ⟨rfl, rfl, trivial⟩ ?_
    refine TR.draw mixed ?_
    apply AR.more [(0, _), (1, _), (2, _), (3, _)]
    refine AR.last [0, 1, 2, 3] [0, 1, 2, 3] ⟨QOne.yes rfl rfl rfl (PV.load1 0 we_ts27 rfl rfl rfl), QOne.yes rfl rfl rfl (PV.load1 3 we_ts3 rfl rfl rfl), QOne.yes rfl rfl rfl (PV.assign rfl), QOne.yes rfl rfl rfl (PV.assign rfl), trivial⟩ rfl rfl rfl ?_
    refine NX.sub (E' := [(2, _), (3, _)]) ⟨rfl, rfl, trivial⟩ ?_
    refine NX.seq ?_
    refine TR.ret ?_
    refine NX.retM2 2 (⟨z, hz.1.trans (by rw [List.length_range, List.take_length]), hz.2⟩ : {z : LsX // z.ps.map Prod.fst = scanJ 0 b ∧ ∀ p, p ∈ z.ps → p.1.length ≤ p.2.c}) rfl rfl rfl rfl ?_ (fun w hw => ?_)
    · show Value.tuple #[Value.slice z.oa z.ps.length z.c, I ((framesJ 0 ((scanJ 0 b).take (List.range (scanJ 0 b).length).length)).length : Nat)] = Value.tuple #[Value.slice z.oa z.ps.length z.c, I ((framesJ 0 (scanJ 0 b)).length : Nat)]
      rw [List.length_range, List.take_length]
    · exact ((hw.drop 0 rfl).drop 1 rfl).facts (fun φ h => by
        rcases List.mem_cons.1 h with e | h
        · subst e; exact .head _
        · exact .tail _ (.tail _ h))

end Go.Proofs.Ytdlpaojkkekdlaa
