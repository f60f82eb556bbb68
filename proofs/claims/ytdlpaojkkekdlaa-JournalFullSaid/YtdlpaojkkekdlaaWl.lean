/- Walks of functions of the program. Printed by sx.py. -/
import Derived.Test.YtdlpaojkkekdlaaWk
import Derived.Test.YtdlpaojkkekdlaaFrj
namespace Go.Proofs.Ytdlpaojkkekdlaa
open Go.GL
set_option linter.unusedVariables false
theorem wl_bs27_1_0 (x0 : Option Addr) (x0n x0c : Nat) : BuildSV Try.prog 27 23 1 [(0, .slice x0 x0n x0c)] [.slice x0 x0n x0c] := fun w => by kernel_rfl
theorem wl_ni23 : noInt Try.prog 23 = true := by kernel_rfl
theorem wl_ni27 : noInt Try.prog 27 = true := by kernel_rfl
theorem wl_te23 : tyElem Try.prog 23 1 24 = true := by kernel_rfl
theorem wl_te5 : tyElem Try.prog 5 1 1 = true := by kernel_rfl
theorem wl_tl23 : tySlice Try.prog 23 5 = true := by kernel_rfl
theorem wl_tl27 : tySlice Try.prog 27 23 = true := by kernel_rfl
theorem wl_ts23 : tyScalar Try.prog 23 = true := by kernel_rfl
theorem wl_tz23 : tySize Try.prog 23 1 = true := by kernel_rfl
set_option maxHeartbeats 1000000 in
theorem law_frames {xs : List Int} {n : Int} {b rest : List UInt8} {oa ob oc : Option Addr} {ca cb cc : Nat} {M : List HP} {F : List Fact} (ha : ArrF oa (ints xs) ∈ F) (hxs : IntsOk xs) (h0 : -9223372036854775808 ≤ n) (h1 : n ≤ 9223372036854775807) (hb : ArrF ob (bytesV b) ∈ F) (hbc : b.length ≤ cb) (hr : ArrF oc (bytesV rest) ∈ F) (hrc : rest.length ≤ cc) : Ctr Try.prog 3 [.slice oa xs.length ca, I n, .slice ob b.length cb, .slice oc rest.length cc] M F Unit (fun _ => .bool true) (fun _ => M) (fun _ => F) := by
  refine Ctr.body Try.func3 rfl rfl ?_
  refine TR.seq ?_
  refine TR.region ?_
  refine RL.assign rfl rfl rfl ?_
  refine RL.nil ?_
  refine NX.seq ?_
  refine TR.seq ?_
  refine TR.region ?_
  have hol : (b.take 200).length ≤ 200 := by rw [List.length_take]; omega
  have hfl := frameJ_len (i := n) (x := (b.take 200)) h0 h1 (by omega)
  refine RL.move rfl rfl rfl ?_
  refine RL.call rfl rfl Try.call11 rfl (few_spec (m := 200) hb hbc (by decide)) (fun z => ?_)
  refine RL.open1 (fun w hw => ⟨hw.ownLen.2, hw⟩) (fun hzc => ?_)
  refine RL.weak (fun w hw => hw.keepSl) ?_
  refine RL.assign rfl rfl rfl ?_
  refine RL.nil ?_
  refine NX.seq ?_
  refine TR.seq ?_
  refine TR.seq ?_
  refine TR.region ?_
  skip
  refine RL.move rfl rfl rfl ?_
  refine RL.move rfl rfl rfl ?_
  refine RL.call rfl rfl Try.call13 rfl (frame_spec (i := n) (x := (b.take 200)) (rd_fact (.head _)) (by omega) (by omega) (by omega)) (fun f => ?_)
  refine RL.weak (fun w hw => hw.keepSl) ?_
  refine RL.move rfl rfl rfl ?_
  refine RL.move rfl rfl rfl ?_
  refine RL.call rfl rfl Try.call14 rfl (rFrame_spec (i := n) (x := (b.take 200)) (.tail _ (.head _)) (by omega) (by omega) (by omega)) (fun g => ?_)
  refine RL.weak (fun w hw => hw.keepSl) ?_
  refine RL.call rfl rfl Try.call12 rfl (Ctr.boolT (decide_eq_true rfl) (sameB_spec (xs := frameJ n (b.take 200)) (ys := frameJ n (b.take 200)) (.tail _ (.head _)) (.head _) (by have := hfl.1; omega))) (fun _ => ?_)
  refine RL.not (b := true) rfl rfl rfl ?_
  refine RL.nil ?_
  refine NX.seq ?_
  refine TR.condF rfl ?_
  refine TR.skip ?_
  refine NX.seq ?_
  refine TR.seq ?_
  refine TR.region ?_
  refine RL.move rfl rfl rfl ?_
  refine RL.call rfl rfl Try.call15 rfl (records_spec2 (by first | exact ha | exact .tail _ ha | exact .tail _ (.tail _ ha) | exact .tail _ (.tail _ (.tail _ ha)) | exact .tail _ (.tail _ (.tail _ (.tail _ ha))) | exact .tail _ (.tail _ (.tail _ (.tail _ (.tail _ ha)))) | exact .tail _ (.tail _ (.tail _ (.tail _ (.tail _ (.tail _ ha)))))) hxs) (fun x => ?_)
  refine RL.move rfl rfl rfl ?_
  refine RL.buildSlice rfl rfl (wl_bs27_1_0 _ _ _) rfl (fun b1 => ?_)
  refine RL.ofGV rfl rfl (GV.append (j := 1) wl_tl27 wl_ni27 wl_te23 rfl rfl rfl (src_box (i := 0) rfl rfl rfl) (by omega) (by omega)) (fun y => ?_)
  have hq0 : (x.1.ps ++ [((b.take 200), (⟨z.1, z.2⟩ : RdX))]).length ≤ 7 ∧ ∀ p, p ∈ (x.1.ps ++ [((b.take 200), (⟨z.1, z.2⟩ : RdX))]) → p.1.length ≤ 200 ∧ p.1.length ≤ p.2.c := by
    refine ⟨by rw [List.length_append]; have := x.2.1; show _ + 1 ≤ _; omega, fun p hp => ?_⟩
    rcases List.mem_append.1 hp with h | h
    · have := x.2.2 p h; omega
    · rw [List.mem_singleton.1 h]; exact ⟨hol, hzc⟩
  have hql : (x.1.ps ++ [((b.take 200), (⟨z.1, z.2⟩ : RdX))]).length = x.1.ps.length + 1 := by rw [List.length_append]; rfl
  refine RL.sub (E' := [(3, .slice oc rest.length cc), (32, .slice y.1 (x.1.ps ++ [((b.take 200), (⟨z.1, z.2⟩ : RdX))]).length y.2)]) ⟨rfl, by rw [hql]; rfl, trivial⟩ ?_
  refine RL.weak (M' := M) (F' := ArrF y.1 (listV (x.1.ps ++ [((b.take 200), (⟨z.1, z.2⟩ : RdX))])) :: AllB (x.1.ps ++ [((b.take 200), (⟨z.1, z.2⟩ : RdX))]) :: F) (fun w hw => by
    have h9 := (hw.drop 0 rfl).keepSl.allB_snoc (ps := x.1.ps) (p := ((b.take 200), ⟨z.1, z.2⟩)) (.tail _ (.head _)) (.tail _ (.tail _ (.tail _ (.tail _ (.head _)))))
    have e9 : listV (x.1.ps ++ [((b.take 200), (⟨z.1, z.2⟩ : RdX))]) = listV x.1.ps ++ [.slice z.1 (b.take 200).length z.2] := listV_append _ _
    rw [← e9] at h9
    exact h9.facts (fun φ h => by
      rcases List.mem_cons.1 h with e1 | h
      · subst e1; exact .tail _ (.head _)
      rcases List.mem_cons.1 h with e1 | h
      · subst e1; exact .head _
      · exact .tail _ (.tail _ (.tail _ (.tail _ (.tail _ (.tail _ h))))))) ?_
  clear hql
  revert hq0
  generalize (x.1.ps ++ [((b.take 200), (⟨z.1, z.2⟩ : RdX))]) = qs
  generalize y.1 = oy
  generalize y.2 = cy
  intro hq
  refine RL.assign rfl rfl rfl ?_
  refine RL.nil ?_
  refine NX.seq ?_
  refine TR.seq ?_
  refine TR.region ?_
  refine RL.assign rfl rfl rfl ?_
  refine RL.nil ?_
  refine NX.seq ?_
  refine TR.seq ?_
  refine TR.seq ?_
  refine TR.region ?_
  have hlb2 : ∀ y, y ∈ (qs.map Prod.fst) → y.length ≤ 200 := fun y hy => by obtain ⟨p, hp, rfl⟩ := List.mem_map.1 hy; exact (hq.2 p hp).1
  have hlb : ∀ y, y ∈ (qs.map Prod.fst) → y.length ≤ 4611686018427387000 := fun y hy => Nat.le_trans (hlb2 y hy) (by decide)
  refine RL.assign rfl rfl rfl ?_
  refine RL.weak (fun w hw => OwnSl.nil_new 5 1 hw) ?_
  refine RL.nil ?_
  refine NX.seq ?_
  refine TR.block ?_
  refine TR.loopP (ι := IsX) (fun s => s.k ≤ qs.length) (fun s => [(3, .slice oc rest.length cc), (10, .slice oy qs.length cy), (11, .slice s.oa (framesJ 0 ((qs.map Prod.fst).take s.k)).length s.c), (12, I s.k)]) (fun s => OwnSl 5 1 s.oa (framesJ 0 ((qs.map Prod.fst).take s.k)).length s.c (bytesV (framesJ 0 ((qs.map Prod.fst).take s.k))) :: M) (fun _ => ArrF oy (listV qs) :: AllB qs :: F) (fun s => qs.length - s.k) ⟨0, none, 0⟩ (Nat.zero_le _) ⟨rfl, rfl, rfl, rfl, trivial⟩ (fun w hw => hw) (fun s hk => ?_)
  refine TR.seq ?_
  refine TR.seq ?_
  refine TR.region ?_
  refine RL.move rfl rfl rfl ?_
  refine RL.move rfl rfl rfl ?_
  refine RL.lenSlice rfl wl_tl27 rfl rfl ?_
  refine RL.bin rfl rfl rfl BinV.lss rfl ?_
  refine RL.nil ?_
  refine NX.seq ?_
  refine TR.cond rfl (fun h3 => ?_) (fun h3 => ?_)
  · skip
    have hk1 : s.k < qs.length := by have := of_decide_eq_true h3; omega
    have hlk : s.k < (qs.map Prod.fst).length := by rw [List.length_map]; exact hk1
    have hfk := (frameJ_len (i := (s.k : Int)) (x := qs[s.k].1) (by omega) (by omega) (by have := (hq.2 _ (List.getElem_mem hk1)).1; omega)).1
    have hrk := (hq.2 _ (List.getElem_mem hk1)).1
    refine TR.weak (fun w hw => hw.allB_get (.tail _ (.head _)) (List.getElem_mem hk1)) ?_
    refine TR.openP (open_arr (oa := oy) (xs := listV qs) (.tail _ (.head _)) (listV_ne hk1)) (fun pq hpa => ?_)
    refine TR.skip ?_
    refine NX.seq ?_
    refine TR.seq ?_
    refine TR.block ?_
    refine TR.region ?_
    have hnx : framesJ 0 ((qs.map Prod.fst).take (s.k + 1)) = (framesJ 0 ((qs.map Prod.fst).take s.k)) ++ frameJ (s.k : Int) qs[s.k].1 := by rw [framesJ_next hlk, List.getElem_map]
    have hTl := framesJ_bound ((qs.map Prod.fst).take s.k) 0 (by rw [List.length_take, List.length_map]; omega) (fun y hy => hlb2 y (List.mem_of_mem_take hy)) (by decide)
    have hTl2 : (framesJ 0 ((qs.map Prod.fst).take s.k)).length ≤ 240 * 7 := Nat.le_trans hTl (Nat.mul_le_mul_left _ (by rw [List.length_take]; omega))
    refine RL.move rfl rfl rfl ?_
    refine RL.move rfl rfl rfl ?_
    refine RL.move rfl rfl rfl ?_
    refine RL.move rfl rfl rfl ?_
    refine RL.indexAddr rfl wl_tl27 wl_tz23 (congrArg (fun a => some (Value.slice a _ _)) hpa) rfl (by omega) (by omega) rfl ?_
    refine RL.loadF rfl rfl (fun w K hF => run_loadCell1 (j := (s.k : Int).toNat * 1) (v := .slice qs[s.k].2.oa qs[s.k].1.length qs[s.k].2.c) (hF _ (.head _)) wl_ts23 (listV_get hk1)) rfl ?_
    refine RL.call rfl rfl Try.call13 rfl (frame_spec (i := (s.k : Int)) (x := qs[s.k].1) (rd_fact (.tail _ (.head _))) (by omega) (by omega) (by have := (hq.2 _ (List.getElem_mem hk1)).1; omega)) (fun f => ?_)
    refine RL.weak (fun w hw => hw.keepSl) ?_
    refine RL.ofGV rfl rfl (GV.append (j := 0) wl_tl23 wl_ni23 wl_te5 rfl rfl rfl (src_fact (xs := bytesV (frameJ (s.k : Int) qs[s.k].1)) (.head _) (by rw [bytesV_length, Nat.mul_one]) (bytesV_one _)) (by omega) (by omega)) (fun y => ?_)
    refine RL.assign rfl rfl rfl ?_
    refine RL.nil ?_
    refine NX.off ?_
    refine NX.seq ?_
    refine TR.region ?_
    refine RL.move rfl rfl rfl ?_
    refine RL.bin rfl rfl rfl (BinV.add _ rfl (by omega) (by omega)) rfl ?_
    refine RL.assign rfl rfl rfl ?_
    refine RL.nil ?_
    refine NX.roundP ⟨s.k + 1, y.1, y.2⟩ (by show s.k + 1 ≤ _; omega) (by show qs.length - (s.k + 1) < _; omega) ⟨rfl, rfl, ?_, rfl, trivial⟩ (fun w hw => ?_)
    · show some (Value.slice y.1 ((framesJ 0 ((qs.map Prod.fst).take s.k)).length + (frameJ (s.k : Int) qs[s.k].1).length) y.2) = some (Value.slice y.1 (framesJ 0 ((qs.map Prod.fst).take (s.k + 1))).length y.2)
      rw [hnx, List.length_append]
    · show St w (OwnSl 5 1 y.1 (framesJ 0 ((qs.map Prod.fst).take (s.k + 1))).length y.2 (bytesV (framesJ 0 ((qs.map Prod.fst).take (s.k + 1)))) :: M) _
      rw [hnx, List.length_append, bytesV_append]
      exact hw.facts (fun φ h => .tail _ (.tail _ (.tail _ (h))))
  · skip
    have hk2 : s.k = qs.length := by have := of_decide_eq_false h3; omega
    have htk : (qs.map Prod.fst).take s.k = (qs.map Prod.fst) := by rw [hk2]; exact List.take_of_length_le (by rw [List.length_map]; exact Nat.le_refl _)
    rw [htk]
    have hfit : FitJ 0 (qs.map Prod.fst) := ⟨by rw [List.length_map]; omega, hlb⟩
    have hAl := framesJ_bound (qs.map Prod.fst) 0 (by rw [List.length_map]; omega) hlb2 (by decide)
    rw [List.length_map] at hAl
    have hAl2 : (framesJ 0 (qs.map Prod.fst)).length ≤ 240 * 7 := Nat.le_trans hAl (Nat.mul_le_mul_left _ hq.1)
    have hrl : (rest.take 30).length ≤ 30 := by rw [List.length_take]; omega
    refine TR.exit ?_
    refine NX.exitThen ?_
    refine NX.exitThen ?_
    refine NX.exitHere ?_
    refine NX.seq ?_
    refine TR.seq ?_
    refine TR.region ?_
    refine RL.move rfl rfl rfl ?_
    refine RL.lenSlice rfl wl_tl23 rfl rfl ?_
    refine RL.assign rfl rfl rfl ?_
    refine RL.nil ?_
    refine NX.seq ?_
    refine TR.seq ?_
    refine TR.region ?_
    refine RL.move rfl rfl rfl ?_
    refine RL.move rfl rfl rfl ?_
    refine RL.call rfl rfl Try.call11 rfl (few_spec (m := 30) (by first | exact hr | exact .tail _ hr | exact .tail _ (.tail _ hr) | exact .tail _ (.tail _ (.tail _ hr)) | exact .tail _ (.tail _ (.tail _ (.tail _ hr))) | exact .tail _ (.tail _ (.tail _ (.tail _ (.tail _ hr)))) | exact .tail _ (.tail _ (.tail _ (.tail _ (.tail _ (.tail _ hr))))) | exact .tail _ (.tail _ (.tail _ (.tail _ (.tail _ (.tail _ (.tail _ hr)))))) | exact .tail _ (.tail _ (.tail _ (.tail _ (.tail _ (.tail _ (.tail _ (.tail _ hr))))))) | exact .tail _ (.tail _ (.tail _ (.tail _ (.tail _ (.tail _ (.tail _ (.tail _ (.tail _ hr)))))))) | exact .tail _ (.tail _ (.tail _ (.tail _ (.tail _ (.tail _ (.tail _ (.tail _ (.tail _ (.tail _ hr))))))))) | exact .tail _ (.tail _ (.tail _ (.tail _ (.tail _ (.tail _ (.tail _ (.tail _ (.tail _ (.tail _ (.tail _ hr)))))))))) | exact .tail _ (.tail _ (.tail _ (.tail _ (.tail _ (.tail _ (.tail _ (.tail _ (.tail _ (.tail _ (.tail _ (.tail _ hr)))))))))))) hrc (by decide)) (fun v => ?_)
    refine RL.weak (fun w hw => hw.keepSl) ?_
    refine RL.ofGV rfl rfl (GV.append (j := 0) wl_tl23 wl_ni23 wl_te5 rfl rfl rfl (src_fact (xs := bytesV (rest.take 30)) (.head _) (by rw [bytesV_length, Nat.mul_one]) (bytesV_one _)) (by omega) (by omega)) (fun y => ?_)
    refine RL.open1 (fun w hw => ⟨hw.ownLen.2, hw⟩) (fun hyc => ?_)
    refine RL.sub (E' := [(10, .slice oy qs.length cy), (13, I ((framesJ 0 (qs.map Prod.fst)).length : Nat)), (52, .slice y.1 (framesJ 0 (qs.map Prod.fst) ++ rest.take 30).length y.2)]) ⟨rfl, rfl, by rw [List.length_append]; rfl, trivial⟩ ?_
    refine RL.weak (M' := M) (F' := ArrF y.1 (bytesV (framesJ 0 (qs.map Prod.fst) ++ rest.take 30)) :: ArrF oy (listV qs) :: AllB qs :: F) (fun w hw => by
      have h9 := hw.keepSl
      rw [← bytesV_append] at h9
      exact h9.facts (fun φ h => by
        rcases List.mem_cons.1 h with e1 | h
        · subst e1; exact .head _
        · exact .tail _ (.tail _ h))) ?_
    refine RL.assign rfl rfl rfl ?_
    refine RL.nil ?_
    refine NX.seq ?_
    refine TR.seq ?_
    refine TR.region ?_
    refine RL.move rfl rfl rfl ?_
    refine RL.call rfl rfl Try.call16 rfl (scan_spec (b := (framesJ 0 (qs.map Prod.fst) ++ rest.take 30)) (by first | exact .head _ | exact .tail _ (.head _) | exact .tail _ (.tail _ (.head _)) | exact .tail _ (.tail _ (.tail _ (.head _)))) (by rw [List.length_append]; omega) (by rw [List.length_append]; omega)) (fun S1 => ?_)
    refine RL.open1 (fun w hw => ⟨hw.ownLen.2, hw⟩) (fun hsl => ?_)
    refine RL.weak (fun w hw => hw.keepSl) ?_
    refine RL.move rfl rfl rfl ?_
    refine RL.extract rfl rfl rfl rfl ?_
    refine RL.extract rfl rfl rfl rfl ?_
    refine RL.assign rfl rfl rfl ?_
    refine RL.assign rfl rfl rfl ?_
    refine RL.nil ?_
    refine NX.seq ?_
    refine TR.seq ?_
    refine TR.region ?_
    refine RL.move rfl rfl rfl ?_
    refine RL.call rfl rfl Try.call17 rfl (rScan_spec (b := (framesJ 0 (qs.map Prod.fst) ++ rest.take 30)) (by first | exact .head _ | exact .tail _ (.head _) | exact .tail _ (.tail _ (.head _)) | exact .tail _ (.tail _ (.tail _ (.head _))) | exact .tail _ (.tail _ (.tail _ (.tail _ (.head _)))) | exact .tail _ (.tail _ (.tail _ (.tail _ (.tail _ (.head _))))) | exact .tail _ (.tail _ (.tail _ (.tail _ (.tail _ (.tail _ (.head _))))))) (by rw [List.length_append]; omega) (by rw [List.length_append]; omega)) (fun S2 => ?_)
    refine RL.weak (fun w hw => hw.keepSl) ?_
    refine RL.move rfl rfl rfl ?_
    refine RL.extract rfl rfl rfl rfl ?_
    refine RL.extract rfl rfl rfl rfl ?_
    refine RL.assign rfl rfl rfl ?_
    refine RL.assign rfl rfl rfl ?_
    refine RL.nil ?_
    refine NX.seq ?_
    refine TR.seq ?_
    refine TR.region ?_
    have hsc := scanJ_frames (qs.map Prod.fst) 0 (rest.take 30) hfit
    have hend := scan_end (rest := rest.take 30) hfit
    have hmem := map_fst_le (n := 4611686018427387904) S1.2.1 (fun y hy => Nat.le_trans (scanJ_mem hy) (by rw [List.length_append]; omega))
    have hn1 : S1.1.ps.length = (scanJ 0 (framesJ 0 (qs.map Prod.fst) ++ rest.take 30)).length := map_fst_len S1.2.1
    have hn2 := scanJ_len (b := (framesJ 0 (qs.map Prod.fst) ++ rest.take 30)) (i := 0)
    have hn3 : qs.length ≤ (scanJ 0 (framesJ 0 (qs.map Prod.fst) ++ rest.take 30)).length := by rw [hsc, List.length_append, List.length_map]; omega
    rw [List.length_append] at hn2
    refine RL.move rfl rfl rfl ?_
    refine RL.move rfl rfl rfl ?_
    refine RL.bin rfl rfl rfl (BinV.to (d := true) BinV.eql (decide_eq_true rfl)) rfl ?_
    refine RL.move rfl rfl rfl ?_
    refine RL.move rfl rfl rfl ?_
    refine RL.move rfl rfl rfl ?_
    refine RL.call rfl rfl Try.call18 rfl (Ctr.boolT (decide_eq_true (S1.2.1.trans S2.2.1.symm)) (sameL_spec (ps := S1.1.ps) (qs := S2.1.ps) (by first | exact .head _ | exact .tail _ (.head _) | exact .tail _ (.tail _ (.head _)) | exact .tail _ (.tail _ (.tail _ (.head _))) | exact .tail _ (.tail _ (.tail _ (.tail _ (.head _)))) | exact .tail _ (.tail _ (.tail _ (.tail _ (.tail _ (.head _))))) | exact .tail _ (.tail _ (.tail _ (.tail _ (.tail _ (.tail _ (.head _)))))) | exact .tail _ (.tail _ (.tail _ (.tail _ (.tail _ (.tail _ (.tail _ (.head _))))))) | exact .tail _ (.tail _ (.tail _ (.tail _ (.tail _ (.tail _ (.tail _ (.tail _ (.head _)))))))) | exact .tail _ (.tail _ (.tail _ (.tail _ (.tail _ (.tail _ (.tail _ (.tail _ (.tail _ (.head _))))))))) | exact .tail _ (.tail _ (.tail _ (.tail _ (.tail _ (.tail _ (.tail _ (.tail _ (.tail _ (.tail _ (.head _)))))))))) | exact .tail _ (.tail _ (.tail _ (.tail _ (.tail _ (.tail _ (.tail _ (.tail _ (.tail _ (.tail _ (.tail _ (.head _))))))))))) | exact .tail _ (.tail _ (.tail _ (.tail _ (.tail _ (.tail _ (.tail _ (.tail _ (.tail _ (.tail _ (.tail _ (.tail _ (.head _)))))))))))) | exact .tail _ (.tail _ (.tail _ (.tail _ (.tail _ (.tail _ (.tail _ (.tail _ (.tail _ (.tail _ (.tail _ (.tail _ (.tail _ (.head _))))))))))))) | exact .tail _ (.tail _ (.tail _ (.tail _ (.tail _ (.tail _ (.tail _ (.tail _ (.tail _ (.tail _ (.tail _ (.tail _ (.tail _ (.tail _ (.head _))))))))))))))) (by first | exact .head _ | exact .tail _ (.head _) | exact .tail _ (.tail _ (.head _)) | exact .tail _ (.tail _ (.tail _ (.head _))) | exact .tail _ (.tail _ (.tail _ (.tail _ (.head _)))) | exact .tail _ (.tail _ (.tail _ (.tail _ (.tail _ (.head _))))) | exact .tail _ (.tail _ (.tail _ (.tail _ (.tail _ (.tail _ (.head _)))))) | exact .tail _ (.tail _ (.tail _ (.tail _ (.tail _ (.tail _ (.tail _ (.head _))))))) | exact .tail _ (.tail _ (.tail _ (.tail _ (.tail _ (.tail _ (.tail _ (.tail _ (.head _)))))))) | exact .tail _ (.tail _ (.tail _ (.tail _ (.tail _ (.tail _ (.tail _ (.tail _ (.tail _ (.head _))))))))) | exact .tail _ (.tail _ (.tail _ (.tail _ (.tail _ (.tail _ (.tail _ (.tail _ (.tail _ (.tail _ (.head _)))))))))) | exact .tail _ (.tail _ (.tail _ (.tail _ (.tail _ (.tail _ (.tail _ (.tail _ (.tail _ (.tail _ (.tail _ (.head _))))))))))) | exact .tail _ (.tail _ (.tail _ (.tail _ (.tail _ (.tail _ (.tail _ (.tail _ (.tail _ (.tail _ (.tail _ (.tail _ (.head _)))))))))))) | exact .tail _ (.tail _ (.tail _ (.tail _ (.tail _ (.tail _ (.tail _ (.tail _ (.tail _ (.tail _ (.tail _ (.tail _ (.tail _ (.head _))))))))))))) | exact .tail _ (.tail _ (.tail _ (.tail _ (.tail _ (.tail _ (.tail _ (.tail _ (.tail _ (.tail _ (.tail _ (.tail _ (.tail _ (.tail _ (.head _))))))))))))))) (by first | exact .head _ | exact .tail _ (.head _) | exact .tail _ (.tail _ (.head _)) | exact .tail _ (.tail _ (.tail _ (.head _))) | exact .tail _ (.tail _ (.tail _ (.tail _ (.head _)))) | exact .tail _ (.tail _ (.tail _ (.tail _ (.tail _ (.head _))))) | exact .tail _ (.tail _ (.tail _ (.tail _ (.tail _ (.tail _ (.head _)))))) | exact .tail _ (.tail _ (.tail _ (.tail _ (.tail _ (.tail _ (.tail _ (.head _))))))) | exact .tail _ (.tail _ (.tail _ (.tail _ (.tail _ (.tail _ (.tail _ (.tail _ (.head _)))))))) | exact .tail _ (.tail _ (.tail _ (.tail _ (.tail _ (.tail _ (.tail _ (.tail _ (.tail _ (.head _))))))))) | exact .tail _ (.tail _ (.tail _ (.tail _ (.tail _ (.tail _ (.tail _ (.tail _ (.tail _ (.tail _ (.head _)))))))))) | exact .tail _ (.tail _ (.tail _ (.tail _ (.tail _ (.tail _ (.tail _ (.tail _ (.tail _ (.tail _ (.tail _ (.head _))))))))))) | exact .tail _ (.tail _ (.tail _ (.tail _ (.tail _ (.tail _ (.tail _ (.tail _ (.tail _ (.tail _ (.tail _ (.tail _ (.head _)))))))))))) | exact .tail _ (.tail _ (.tail _ (.tail _ (.tail _ (.tail _ (.tail _ (.tail _ (.tail _ (.tail _ (.tail _ (.tail _ (.tail _ (.head _))))))))))))) | exact .tail _ (.tail _ (.tail _ (.tail _ (.tail _ (.tail _ (.tail _ (.tail _ (.tail _ (.tail _ (.tail _ (.tail _ (.tail _ (.tail _ (.head _))))))))))))))) (by first | exact .head _ | exact .tail _ (.head _) | exact .tail _ (.tail _ (.head _)) | exact .tail _ (.tail _ (.tail _ (.head _))) | exact .tail _ (.tail _ (.tail _ (.tail _ (.head _)))) | exact .tail _ (.tail _ (.tail _ (.tail _ (.tail _ (.head _))))) | exact .tail _ (.tail _ (.tail _ (.tail _ (.tail _ (.tail _ (.head _)))))) | exact .tail _ (.tail _ (.tail _ (.tail _ (.tail _ (.tail _ (.tail _ (.head _))))))) | exact .tail _ (.tail _ (.tail _ (.tail _ (.tail _ (.tail _ (.tail _ (.tail _ (.head _)))))))) | exact .tail _ (.tail _ (.tail _ (.tail _ (.tail _ (.tail _ (.tail _ (.tail _ (.tail _ (.head _))))))))) | exact .tail _ (.tail _ (.tail _ (.tail _ (.tail _ (.tail _ (.tail _ (.tail _ (.tail _ (.tail _ (.head _)))))))))) | exact .tail _ (.tail _ (.tail _ (.tail _ (.tail _ (.tail _ (.tail _ (.tail _ (.tail _ (.tail _ (.tail _ (.head _))))))))))) | exact .tail _ (.tail _ (.tail _ (.tail _ (.tail _ (.tail _ (.tail _ (.tail _ (.tail _ (.tail _ (.tail _ (.tail _ (.head _)))))))))))) | exact .tail _ (.tail _ (.tail _ (.tail _ (.tail _ (.tail _ (.tail _ (.tail _ (.tail _ (.tail _ (.tail _ (.tail _ (.tail _ (.head _))))))))))))) | exact .tail _ (.tail _ (.tail _ (.tail _ (.tail _ (.tail _ (.tail _ (.tail _ (.tail _ (.tail _ (.tail _ (.tail _ (.tail _ (.tail _ (.head _))))))))))))))) hmem (by omega))) (fun _ => ?_)
    refine RL.pickT rfl rfl rfl rfl ?_
    refine RL.move rfl rfl rfl ?_
    refine RL.move rfl rfl rfl ?_
    refine RL.move rfl rfl rfl ?_
    refine RL.bin rfl rfl rfl (BinV.to (d := true) BinV.geq (decide_eq_true (by omega))) rfl ?_
    refine RL.pickT rfl rfl rfl rfl ?_
    refine RL.move rfl rfl rfl ?_
    refine RL.move rfl rfl rfl ?_
    refine RL.lenSlice rfl wl_tl27 rfl rfl ?_
    refine RL.move rfl rfl rfl ?_
    refine RL.lenSlice rfl wl_tl27 rfl rfl ?_
    refine RL.bin rfl rfl rfl (BinV.to (d := true) BinV.geq (decide_eq_true (by omega))) rfl ?_
    refine RL.pickT rfl rfl rfl rfl ?_
    refine RL.move rfl rfl rfl ?_
    refine RL.move rfl rfl rfl ?_
    refine RL.move rfl rfl rfl ?_
    refine RL.lenSlice rfl wl_tl27 rfl rfl ?_
    refine RL.sliceToL (k := qs.length) rfl wl_tl27 wl_tz23 rfl rfl (by rw [List.length_take]; omega) hsl (by first | exact .head _ | exact .tail _ (.head _) | exact .tail _ (.tail _ (.head _)) | exact .tail _ (.tail _ (.tail _ (.head _))) | exact .tail _ (.tail _ (.tail _ (.tail _ (.head _)))) | exact .tail _ (.tail _ (.tail _ (.tail _ (.tail _ (.head _))))) | exact .tail _ (.tail _ (.tail _ (.tail _ (.tail _ (.tail _ (.head _)))))) | exact .tail _ (.tail _ (.tail _ (.tail _ (.tail _ (.tail _ (.tail _ (.head _))))))) | exact .tail _ (.tail _ (.tail _ (.tail _ (.tail _ (.tail _ (.tail _ (.tail _ (.head _)))))))) | exact .tail _ (.tail _ (.tail _ (.tail _ (.tail _ (.tail _ (.tail _ (.tail _ (.tail _ (.head _))))))))) | exact .tail _ (.tail _ (.tail _ (.tail _ (.tail _ (.tail _ (.tail _ (.tail _ (.tail _ (.tail _ (.head _)))))))))) | exact .tail _ (.tail _ (.tail _ (.tail _ (.tail _ (.tail _ (.tail _ (.tail _ (.tail _ (.tail _ (.tail _ (.head _))))))))))) | exact .tail _ (.tail _ (.tail _ (.tail _ (.tail _ (.tail _ (.tail _ (.tail _ (.tail _ (.tail _ (.tail _ (.tail _ (.head _)))))))))))) | exact .tail _ (.tail _ (.tail _ (.tail _ (.tail _ (.tail _ (.tail _ (.tail _ (.tail _ (.tail _ (.tail _ (.tail _ (.tail _ (.head _))))))))))))) | exact .tail _ (.tail _ (.tail _ (.tail _ (.tail _ (.tail _ (.tail _ (.tail _ (.tail _ (.tail _ (.tail _ (.tail _ (.tail _ (.tail _ (.head _))))))))))))))) (by first | exact .head _ | exact .tail _ (.head _) | exact .tail _ (.tail _ (.head _)) | exact .tail _ (.tail _ (.tail _ (.head _))) | exact .tail _ (.tail _ (.tail _ (.tail _ (.head _)))) | exact .tail _ (.tail _ (.tail _ (.tail _ (.tail _ (.head _))))) | exact .tail _ (.tail _ (.tail _ (.tail _ (.tail _ (.tail _ (.head _)))))) | exact .tail _ (.tail _ (.tail _ (.tail _ (.tail _ (.tail _ (.tail _ (.head _))))))) | exact .tail _ (.tail _ (.tail _ (.tail _ (.tail _ (.tail _ (.tail _ (.tail _ (.head _)))))))) | exact .tail _ (.tail _ (.tail _ (.tail _ (.tail _ (.tail _ (.tail _ (.tail _ (.tail _ (.head _))))))))) | exact .tail _ (.tail _ (.tail _ (.tail _ (.tail _ (.tail _ (.tail _ (.tail _ (.tail _ (.tail _ (.head _)))))))))) | exact .tail _ (.tail _ (.tail _ (.tail _ (.tail _ (.tail _ (.tail _ (.tail _ (.tail _ (.tail _ (.tail _ (.head _))))))))))) | exact .tail _ (.tail _ (.tail _ (.tail _ (.tail _ (.tail _ (.tail _ (.tail _ (.tail _ (.tail _ (.tail _ (.tail _ (.head _)))))))))))) | exact .tail _ (.tail _ (.tail _ (.tail _ (.tail _ (.tail _ (.tail _ (.tail _ (.tail _ (.tail _ (.tail _ (.tail _ (.tail _ (.head _))))))))))))) | exact .tail _ (.tail _ (.tail _ (.tail _ (.tail _ (.tail _ (.tail _ (.tail _ (.tail _ (.tail _ (.tail _ (.tail _ (.tail _ (.tail _ (.head _))))))))))))))) rfl ?_
    refine RL.move rfl rfl rfl ?_
    refine RL.call rfl rfl Try.call18 rfl (Ctr.boolT (decide_eq_true (by rw [List.map_take, S1.2.1, hsc, ← List.length_map (f := Prod.fst), List.take_left])) (sameL_spec (ps := S1.1.ps.take qs.length) (qs := qs) (by first | exact .head _ | exact .tail _ (.head _) | exact .tail _ (.tail _ (.head _)) | exact .tail _ (.tail _ (.tail _ (.head _))) | exact .tail _ (.tail _ (.tail _ (.tail _ (.head _)))) | exact .tail _ (.tail _ (.tail _ (.tail _ (.tail _ (.head _))))) | exact .tail _ (.tail _ (.tail _ (.tail _ (.tail _ (.tail _ (.head _)))))) | exact .tail _ (.tail _ (.tail _ (.tail _ (.tail _ (.tail _ (.tail _ (.head _))))))) | exact .tail _ (.tail _ (.tail _ (.tail _ (.tail _ (.tail _ (.tail _ (.tail _ (.head _)))))))) | exact .tail _ (.tail _ (.tail _ (.tail _ (.tail _ (.tail _ (.tail _ (.tail _ (.tail _ (.head _))))))))) | exact .tail _ (.tail _ (.tail _ (.tail _ (.tail _ (.tail _ (.tail _ (.tail _ (.tail _ (.tail _ (.head _)))))))))) | exact .tail _ (.tail _ (.tail _ (.tail _ (.tail _ (.tail _ (.tail _ (.tail _ (.tail _ (.tail _ (.tail _ (.head _))))))))))) | exact .tail _ (.tail _ (.tail _ (.tail _ (.tail _ (.tail _ (.tail _ (.tail _ (.tail _ (.tail _ (.tail _ (.tail _ (.head _)))))))))))) | exact .tail _ (.tail _ (.tail _ (.tail _ (.tail _ (.tail _ (.tail _ (.tail _ (.tail _ (.tail _ (.tail _ (.tail _ (.tail _ (.head _))))))))))))) | exact .tail _ (.tail _ (.tail _ (.tail _ (.tail _ (.tail _ (.tail _ (.tail _ (.tail _ (.tail _ (.tail _ (.tail _ (.tail _ (.tail _ (.head _))))))))))))))) (by first | exact .head _ | exact .tail _ (.head _) | exact .tail _ (.tail _ (.head _)) | exact .tail _ (.tail _ (.tail _ (.head _))) | exact .tail _ (.tail _ (.tail _ (.tail _ (.head _)))) | exact .tail _ (.tail _ (.tail _ (.tail _ (.tail _ (.head _))))) | exact .tail _ (.tail _ (.tail _ (.tail _ (.tail _ (.tail _ (.head _)))))) | exact .tail _ (.tail _ (.tail _ (.tail _ (.tail _ (.tail _ (.tail _ (.head _))))))) | exact .tail _ (.tail _ (.tail _ (.tail _ (.tail _ (.tail _ (.tail _ (.tail _ (.head _)))))))) | exact .tail _ (.tail _ (.tail _ (.tail _ (.tail _ (.tail _ (.tail _ (.tail _ (.tail _ (.head _))))))))) | exact .tail _ (.tail _ (.tail _ (.tail _ (.tail _ (.tail _ (.tail _ (.tail _ (.tail _ (.tail _ (.head _)))))))))) | exact .tail _ (.tail _ (.tail _ (.tail _ (.tail _ (.tail _ (.tail _ (.tail _ (.tail _ (.tail _ (.tail _ (.head _))))))))))) | exact .tail _ (.tail _ (.tail _ (.tail _ (.tail _ (.tail _ (.tail _ (.tail _ (.tail _ (.tail _ (.tail _ (.tail _ (.head _)))))))))))) | exact .tail _ (.tail _ (.tail _ (.tail _ (.tail _ (.tail _ (.tail _ (.tail _ (.tail _ (.tail _ (.tail _ (.tail _ (.tail _ (.head _))))))))))))) | exact .tail _ (.tail _ (.tail _ (.tail _ (.tail _ (.tail _ (.tail _ (.tail _ (.tail _ (.tail _ (.tail _ (.tail _ (.tail _ (.tail _ (.head _))))))))))))))) (by first | exact .head _ | exact .tail _ (.head _) | exact .tail _ (.tail _ (.head _)) | exact .tail _ (.tail _ (.tail _ (.head _))) | exact .tail _ (.tail _ (.tail _ (.tail _ (.head _)))) | exact .tail _ (.tail _ (.tail _ (.tail _ (.tail _ (.head _))))) | exact .tail _ (.tail _ (.tail _ (.tail _ (.tail _ (.tail _ (.head _)))))) | exact .tail _ (.tail _ (.tail _ (.tail _ (.tail _ (.tail _ (.tail _ (.head _))))))) | exact .tail _ (.tail _ (.tail _ (.tail _ (.tail _ (.tail _ (.tail _ (.tail _ (.head _)))))))) | exact .tail _ (.tail _ (.tail _ (.tail _ (.tail _ (.tail _ (.tail _ (.tail _ (.tail _ (.head _))))))))) | exact .tail _ (.tail _ (.tail _ (.tail _ (.tail _ (.tail _ (.tail _ (.tail _ (.tail _ (.tail _ (.head _)))))))))) | exact .tail _ (.tail _ (.tail _ (.tail _ (.tail _ (.tail _ (.tail _ (.tail _ (.tail _ (.tail _ (.tail _ (.head _))))))))))) | exact .tail _ (.tail _ (.tail _ (.tail _ (.tail _ (.tail _ (.tail _ (.tail _ (.tail _ (.tail _ (.tail _ (.tail _ (.head _)))))))))))) | exact .tail _ (.tail _ (.tail _ (.tail _ (.tail _ (.tail _ (.tail _ (.tail _ (.tail _ (.tail _ (.tail _ (.tail _ (.tail _ (.head _))))))))))))) | exact .tail _ (.tail _ (.tail _ (.tail _ (.tail _ (.tail _ (.tail _ (.tail _ (.tail _ (.tail _ (.tail _ (.tail _ (.tail _ (.tail _ (.head _))))))))))))))) (by first | exact .head _ | exact .tail _ (.head _) | exact .tail _ (.tail _ (.head _)) | exact .tail _ (.tail _ (.tail _ (.head _))) | exact .tail _ (.tail _ (.tail _ (.tail _ (.head _)))) | exact .tail _ (.tail _ (.tail _ (.tail _ (.tail _ (.head _))))) | exact .tail _ (.tail _ (.tail _ (.tail _ (.tail _ (.tail _ (.head _)))))) | exact .tail _ (.tail _ (.tail _ (.tail _ (.tail _ (.tail _ (.tail _ (.head _))))))) | exact .tail _ (.tail _ (.tail _ (.tail _ (.tail _ (.tail _ (.tail _ (.tail _ (.head _)))))))) | exact .tail _ (.tail _ (.tail _ (.tail _ (.tail _ (.tail _ (.tail _ (.tail _ (.tail _ (.head _))))))))) | exact .tail _ (.tail _ (.tail _ (.tail _ (.tail _ (.tail _ (.tail _ (.tail _ (.tail _ (.tail _ (.head _)))))))))) | exact .tail _ (.tail _ (.tail _ (.tail _ (.tail _ (.tail _ (.tail _ (.tail _ (.tail _ (.tail _ (.tail _ (.head _))))))))))) | exact .tail _ (.tail _ (.tail _ (.tail _ (.tail _ (.tail _ (.tail _ (.tail _ (.tail _ (.tail _ (.tail _ (.tail _ (.head _)))))))))))) | exact .tail _ (.tail _ (.tail _ (.tail _ (.tail _ (.tail _ (.tail _ (.tail _ (.tail _ (.tail _ (.tail _ (.tail _ (.tail _ (.head _))))))))))))) | exact .tail _ (.tail _ (.tail _ (.tail _ (.tail _ (.tail _ (.tail _ (.tail _ (.tail _ (.tail _ (.tail _ (.tail _ (.tail _ (.tail _ (.head _))))))))))))))) (fun p hp => hmem p (List.mem_of_mem_take hp)) (by rw [List.length_take]; omega))) (fun _ => ?_)
    refine RL.pickT rfl rfl rfl rfl ?_
    refine RL.move rfl rfl rfl ?_
    refine RL.call rfl rfl Try.call19 rfl (lives_spec) (fun _ => ?_)
    refine RL.pickT rfl rfl rfl rfl ?_
    refine RL.assign rfl rfl rfl ?_
    refine RL.nil ?_
    refine NX.seq ?_
    refine TR.ret ?_
    exact NX.ret1 () rfl rfl rfl (fun w hw => hw.facts (fun φ h => .tail _ (.tail _ (.tail _ (.tail _ (.tail _ (.tail _ (.tail _ (.tail _ (.tail _ (h)))))))))))

end Go.Proofs.Ytdlpaojkkekdlaa
