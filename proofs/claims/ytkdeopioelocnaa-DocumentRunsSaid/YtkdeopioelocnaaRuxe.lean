/- Lemmas and walks for the proof of RunJ: texts one behind the other. No condition. -/
import Derived.Test.YtkdeopioelocnaaRuxd
set_option linter.unusedVariables false
set_option linter.unusedSimpArgs false
namespace Go.Proofs.Ytkdeopioelocnaa
open Go.GL
set_option linter.unusedVariables false
theorem qt_bs23_1_0 (x00 : Int) (x01 : Option Addr) (x01n x01c : Nat) : BuildSV Try.prog 23 39 1 [(0, .agg #[.int .i64 x00, .slice x01 x01n x01c])] [.int .i64 x00, .slice x01 x01n x01c] := fun w => by kernel_rfl
theorem qt_ni23 : noInt Try.prog 23 = true := by kernel_rfl
theorem qt_ta39 : tyAgg Try.prog 39 2 = true := by kernel_rfl
theorem qt_te39 : tyElem Try.prog 39 2 32 = true := by kernel_rfl
theorem qt_tl23 : tySlice Try.prog 23 39 = true := by kernel_rfl
theorem qt_tz39 : tySize Try.prog 39 2 = true := by kernel_rfl
set_option maxHeartbeats 1000000 in
theorem shuffled_spec {rows : List HeR} {xs : List Int} {oa ox : Option Addr} {ca cx : Nat} {M : List HP} {F : List Fact} (ha : ArrF oa (heC rows) ∈ F) (hR : HeF rows ∈ F) (hx0 : ArrF ox (ints xs) ∈ F) (hxs : IntsOk xs) (hl : rows.length ≤ 1000) : Ctr Try.prog 31 [.slice oa rows.length ca, .slice ox xs.length cx] M F {z : RwX // (∀ r, r ∈ z.l ↔ r ∈ rows) ∧ z.l.length ≤ rows.length + 3} (fun z => .slice z.1.oa z.1.l.length z.1.c) (fun _ => M) (fun z => ArrF z.1.oa (heC z.1.l) :: HeF z.1.l :: F) := by
  refine Ctr.body Try.func31 rfl rfl ?_
  refine TR.seq ?_
  refine TR.region ?_
  refine RL.assign rfl rfl rfl ?_
  refine RL.nil ?_
  refine NX.seq ?_
  refine TR.seq ?_
  refine TR.region ?_
  refine RL.assign rfl rfl rfl ?_
  refine RL.weak (fun w hw => OwnSl.nil_new 39 2 hw) ?_
  refine RL.nil ?_
  refine NX.seq ?_
  refine TR.seq ?_
  refine TR.region ?_
  refine RL.move rfl rfl rfl ?_
  refine RL.move rfl rfl rfl ?_
  refine RL.ofGV rfl rfl (GV.append (j := 0) qt_tl23 qt_ni23 qt_te39 rfl rfl rfl (src_rd (rd_fact ha) (heC_length rows) (heC_one rows)) (by omega) (by omega)) (fun y0 => ?_)
  refine RL.assign rfl rfl rfl ?_
  refine RL.nil ?_
  refine NX.seq ?_
  refine TR.seq ?_
  refine TR.seq ?_
  refine TR.region ?_
  refine RL.assign rfl rfl rfl ?_
  refine RL.nil ?_
  refine NX.seq ?_
  refine TR.block ?_
  refine TR.loopP (ι := RwX) (fun x => x.k ≤ x.l.length ∧ (∀ r, r ∈ x.l ↔ r ∈ rows) ∧ x.l.length = rows.length) (fun x => [(0, .slice oa rows.length ca), (1, .slice ox xs.length cx), (5, .slice x.oa x.l.length x.c), (6, I (x.k : Nat))]) (fun x => OwnSl 39 2 x.oa x.l.length x.c (heC x.l) :: M) (fun x => F) (fun x => x.l.length - x.k) ⟨0, rows, y0.1, y0.2⟩ ⟨Nat.zero_le _, fun r => Iff.rfl, rfl⟩ ⟨rfl, rfl, by show some (Value.slice y0.1 (0 + rows.length) y0.2) = _; rw [Nat.zero_add], rfl, trivial⟩ (fun w hw => (by have h9 : St w (OwnSl 39 2 y0.1 (0 + rows.length) y0.2 ([] ++ heC rows) :: M) F := hw; rw [Nat.zero_add] at h9; exact h9)) (fun x hx => ?_)
  refine TR.seq ?_
  refine TR.seq ?_
  refine TR.region ?_
  refine RL.move rfl rfl rfl ?_
  refine RL.move rfl rfl rfl ?_
  refine RL.lenSlice rfl qt_tl23 rfl rfl ?_
  refine RL.bin rfl rfl rfl BinV.lss rfl ?_
  refine RL.nil ?_
  refine NX.seq ?_
  refine TR.cond rfl (fun h2 => ?_) (fun h2 => ?_)
  · skip
    have hk : x.k < x.l.length := by have := of_decide_eq_true h2; omega
    refine TR.openP (fun w hw => own_at (i := 0) rfl (heC_ne (by omega)) hw) (fun g1 hg1 => ?_)
    refine TR.skip ?_
    refine NX.seq ?_
    refine TR.seq ?_
    refine TR.block ?_
    refine TR.seq ?_
    refine TR.region ?_
    refine RL.move rfl rfl rfl ?_
    refine RL.move rfl rfl rfl ?_
    refine RL.move rfl rfl rfl ?_
    refine RL.move rfl rfl rfl ?_
    refine RL.lenSlice rfl qt_tl23 rfl rfl ?_
    refine RL.move rfl rfl rfl ?_
    refine RL.bin rfl rfl rfl (BinV.sub _ rfl (by omega) (by omega)) rfl ?_
    refine RL.call rfl rfl Try.call24 rfl (pick_spec (m := (x.l.length : Int) - x.k) hx0 hxs (by omega)) (fun rp => ?_)
    obtain ⟨rpv, rph⟩ := rp
    obtain ⟨r, rfl⟩ : ∃ r : Nat, rpv = r := ⟨rpv.toNat, by omega⟩
    dsimp only
    refine RL.bin rfl rfl rfl (BinV.add ((x.k + r : Nat) : Int) (by omega) (by omega) (by omega)) rfl ?_
    refine RL.assign rfl rfl rfl ?_
    refine RL.nil ?_
    refine NX.seq ?_
    refine TR.seq ?_
    obtain ⟨k, hkr, hkl⟩ : ∃ k : Nat, k = x.k + r ∧ k < x.l.length := ⟨_, rfl, by omega⟩
    rw [← hkr]
    refine TR.region ?_
    refine RL.move rfl rfl rfl ?_
    refine RL.move rfl rfl rfl ?_
    refine RL.indexAddr rfl qt_tl23 qt_tz39 (congrArg (fun a => some (Value.slice a _ _)) hg1) rfl (by omega) (by omega) rfl ?_
    refine RL.loadS rfl rfl (own_agg (vs := x.l[x.k].cs) (i := 0) rfl hg1 qt_ta39 (fun j v hj => heC_at1 (l := x.l) (k := x.k) (j := j) hk hj)) rfl ?_
    refine RL.allocA rfl (Try.zeroValue39) rfl (fun b3 => ?_)
    refine RL.storeA 0 rfl rfl rfl rfl qt_tz39 rfl rfl ?_
    refine RL.nil ?_
    refine NX.seq ?_
    refine TR.seq ?_
    refine TR.region ?_
    refine RL.move rfl rfl rfl ?_
    refine RL.move rfl rfl rfl ?_
    refine RL.move rfl rfl rfl ?_
    refine RL.move rfl rfl rfl ?_
    refine RL.indexAddr rfl qt_tl23 qt_tz39 (congrArg (fun a => some (Value.slice a _ _)) hg1) rfl (by omega) (by omega) rfl ?_
    refine RL.loadS rfl rfl (own_agg (vs := x.l[k].cs) (i := 1) rfl hg1 qt_ta39 (fun j v hj => heC_at1 (l := x.l) (k := k) (j := j) hkl hj)) rfl ?_
    refine RL.indexAddr rfl qt_tl23 qt_tz39 (congrArg (fun a => some (Value.slice a _ _)) hg1) rfl (by omega) (by omega) rfl ?_
    refine RL.ofEV rfl rfl (EV.storeO (vs := (x.l[k]).cs) (oa := x.oa) (xs := heC x.l) 1 rfl rfl rfl hg1 qt_tz39 rfl (by show 0 + ((x.k : Nat) : Int).toNat * 2 + 2 ≤ (heC x.l).length; rw [heC_length, Int.toNat_natCast]; omega) rfl) ?_
    rw [heC_setT x.l x.k hk (x.l[k])]
    refine RL.nil ?_
    refine NX.seq ?_
    refine TR.region ?_
    refine RL.move rfl rfl rfl ?_
    refine RL.move rfl rfl rfl ?_
    refine RL.loadA 0 rfl rfl rfl qt_ta39 rfl ?_
    refine RL.indexAddr rfl qt_tl23 qt_tz39 (congrArg (fun a => some (Value.slice a _ _)) hg1) rfl (by omega) (by omega) rfl ?_
    refine RL.ofEV rfl rfl (EV.storeO (vs := (x.l[x.k]).cs) (oa := x.oa) (xs := heC (x.l.set x.k x.l[k])) 1 rfl rfl rfl hg1 qt_tz39 rfl (by show 0 + ((k : Nat) : Int).toNat * 2 + 2 ≤ (heC (x.l.set x.k x.l[k])).length; rw [heC_length, Int.toNat_natCast, List.length_set]; omega) rfl) ?_
    rw [heC_setT (x.l.set x.k x.l[k]) k (by rw [List.length_set]; exact hkl) (x.l[x.k])]
    refine RL.nil ?_
    refine NX.off ?_
    refine NX.seq ?_
    refine TR.region ?_
    refine RL.move rfl rfl rfl ?_
    refine RL.bin rfl rfl rfl (BinV.add _ rfl (by omega) (by omega)) rfl ?_
    refine RL.assign rfl rfl rfl ?_
    refine RL.nil ?_
    refine NX.roundP ⟨x.k + 1, ((x.l.set x.k x.l[k]).set k x.l[x.k]), x.oa, x.c⟩ ⟨by show x.k + 1 ≤ ((x.l.set x.k x.l[k]).set k x.l[x.k]).length; rw [List.length_set, List.length_set]; omega, fun r => (mem_swap hk hkl r).trans (hx.2.1 r), by show ((x.l.set x.k x.l[k]).set k x.l[x.k]).length = _; rw [List.length_set, List.length_set, hx.2.2]⟩ (by show ((x.l.set x.k x.l[k]).set k x.l[x.k]).length - (x.k + 1) < _; rw [List.length_set, List.length_set]; omega) ⟨rfl, rfl, by show some (Value.slice x.oa x.l.length x.c) = some (Value.slice x.oa ((x.l.set x.k x.l[k]).set k x.l[x.k]).length x.c); rw [List.length_set, List.length_set], rfl, trivial⟩ (fun w hw => (by have h9 := (hw.to 2 [1] 0 [] rfl); show St w (OwnSl 39 2 x.oa ((x.l.set x.k x.l[k]).set k x.l[x.k]).length x.c (heC ((x.l.set x.k x.l[k]).set k x.l[x.k])) :: M) F; rw [List.length_set, List.length_set]; exact h9))
  · skip
    refine TR.exit ?_
    refine NX.exitThen ?_
    refine NX.exitThen ?_
    refine NX.exitHere ?_
    refine NX.seq ?_
    refine TR.seq ?_
    refine TR.seq ?_
    refine TR.region ?_
    refine RL.assign rfl rfl rfl ?_
    refine RL.nil ?_
    refine NX.seq ?_
    refine TR.block ?_
    refine TR.loopP (ι := RwX) (fun z => z.k ≤ 3 ∧ (∀ r, r ∈ z.l ↔ r ∈ rows) ∧ z.l.length = rows.length + z.k) (fun z => [(0, .slice oa rows.length ca), (1, .slice ox xs.length cx), (5, .slice z.oa z.l.length z.c), (9, I (z.k : Nat))]) (fun z => OwnSl 39 2 z.oa z.l.length z.c (heC z.l) :: M) (fun z => F) (fun z => 3 - z.k) ⟨0, x.l, x.oa, x.c⟩ ⟨Nat.zero_le _, hx.2.1, hx.2.2⟩ ⟨rfl, rfl, rfl, rfl, trivial⟩ (fun w hw => (hw.to 1 [0] 0 [] rfl)) (fun z hz => ?_)
    refine TR.seq ?_
    refine TR.seq ?_
    refine TR.region ?_
    refine RL.move rfl rfl rfl ?_
    refine RL.move rfl rfl rfl ?_
    refine RL.lenSlice rfl qt_tl23 rfl rfl ?_
    refine RL.bin rfl rfl rfl BinV.lss rfl ?_
    refine RL.move rfl rfl rfl ?_
    refine RL.part (fun h4 => ?_) (fun h4 => ?_)
    · skip
      have hi1 := of_decide_eq_true h4
      refine RL.move rfl rfl rfl ?_
      refine RL.bin rfl rfl rfl BinV.lss rfl ?_
      refine RL.pickT rfl rfl rfl rfl ?_
      refine RL.nil ?_
      refine NX.seq ?_
      refine TR.cond rfl (fun h5 => ?_) (fun h5 => ?_)
      · skip
        have hi2 := of_decide_eq_true h5
        have hzl := hz.2.2
        refine TR.openP (open_arr (oa := oa) (xs := heC rows) ha (heC_ne (by omega))) (fun pr hpr => ?_)
        refine TR.open1 (fun w hw => ⟨(hw.front (i := 0) rfl).ownLen, hw⟩) (fun hol => ?_)
        refine TR.skip ?_
        refine NX.seq ?_
        refine TR.seq ?_
        refine TR.block ?_
        refine TR.seq ?_
        refine TR.region ?_
        refine RL.move rfl rfl rfl ?_
        refine RL.move rfl rfl rfl ?_
        refine RL.lenSlice rfl qt_tl23 rfl rfl ?_
        refine RL.move rfl rfl rfl ?_
        refine RL.bin rfl rfl rfl (BinV.add _ rfl (by omega) (by omega)) rfl ?_
        refine RL.move rfl rfl rfl ?_
        refine RL.lenSlice rfl qt_tl23 rfl rfl ?_
        refine RL.bin rfl rfl rfl (BinV.add _ rfl (by omega) (by omega)) rfl ?_
        refine RL.call rfl rfl Try.call24 rfl (pick_spec (m := (z.l.length : Int) + 1) (.tail _ hx0) hxs (by omega)) (fun rk => ?_)
        obtain ⟨rkv, rkh⟩ := rk
        obtain ⟨k, rfl⟩ : ∃ k : Nat, rkv = k := ⟨rkv.toNat, by omega⟩
        dsimp only
        refine RL.assign rfl rfl rfl ?_
        refine RL.nil ?_
        refine NX.seq ?_
        refine TR.seq ?_
        refine TR.region ?_
        refine RL.assign rfl rfl rfl ?_
        refine RL.weak (fun w hw => OwnSl.nil_new 39 2 hw) ?_
        refine RL.nil ?_
        refine NX.seq ?_
        refine TR.seq ?_
        refine TR.region ?_
        refine RL.move rfl rfl rfl ?_
        refine RL.move rfl rfl rfl ?_
        refine RL.move rfl rfl rfl ?_
        refine RL.sliceLH (l := 0) (h := k) rfl qt_tl23 qt_tz39 rfl (.inl ⟨rfl, rfl⟩) (.inr ⟨_, rfl, rfl⟩) (by omega) (by omega) rfl ?_
        refine RL.ofGV rfl rfl (GV.append (j := 0) qt_tl23 qt_ni23 qt_te39 rfl rfl rfl (src_rd ((rd_own (i := 1) rfl).heTake k (by omega) hol.2) (by rw [heC_length, List.length_take]; omega) (heC_one _)) (by omega) (by omega)) (fun y1 => ?_)
        refine RL.assign rfl rfl rfl ?_
        refine RL.nil ?_
        refine NX.seq ?_
        refine TR.seq ?_
        refine TR.region ?_
        refine RL.move rfl rfl rfl ?_
        refine RL.move rfl rfl rfl ?_
        refine RL.move rfl rfl rfl ?_
        refine RL.move rfl rfl rfl ?_
        refine RL.lenSlice rfl qt_tl23 rfl rfl ?_
        refine RL.bin rfl rfl rfl (BinV.add _ rfl (by omega) (by omega)) rfl ?_
        refine RL.move rfl rfl rfl ?_
        refine RL.bin rfl rfl rfl (BinV.add _ rfl (by omega) (by omega)) rfl ?_
        refine RL.move rfl rfl rfl ?_
        refine RL.lenSlice rfl qt_tl23 rfl rfl ?_
        refine RL.call rfl rfl Try.call24 rfl (pick_spec (m := (rows.length : Int)) (.tail _ hx0) hxs (by omega)) (fun rq => ?_)
        obtain ⟨rqv, rqh⟩ := rq
        obtain ⟨q, rfl⟩ : ∃ q : Nat, rqv = q := ⟨rqv.toNat, by omega⟩
        dsimp only
        have hq : q < rows.length := by omega
        refine RL.indexAddr rfl qt_tl23 qt_tz39 (congrArg (fun a => some (Value.slice a _ _)) hpr) rfl (by omega) (by omega) rfl ?_
        refine RL.loadF rfl rfl (fun w K hF => run_he (hF (CellsF pr.1 pr.2 (heC rows)) (.head _)) qt_ta39 hq) rfl ?_
        refine RL.buildSlice rfl rfl (qt_bs23_1_0 _ _ _ _) rfl (fun b7 => ?_)
        refine RL.ofGV rfl rfl (GV.append (j := 1) qt_tl23 qt_ni23 qt_te39 rfl rfl rfl (src_box (i := 0) rfl rfl rfl) (by omega) (by omega)) (fun y2 => ?_)
        refine RL.assign rfl rfl rfl ?_
        refine RL.nil ?_
        refine NX.seq ?_
        refine TR.region ?_
        refine RL.move rfl rfl rfl ?_
        refine RL.move rfl rfl rfl ?_
        refine RL.move rfl rfl rfl ?_
        refine RL.sliceLH (l := k) (h := z.l.length) rfl qt_tl23 qt_tz39 rfl (.inr ⟨_, rfl, rfl⟩) (.inl ⟨rfl, rfl⟩) (by omega) hol.2 rfl ?_
        refine RL.ofGV rfl rfl (GV.append (j := 1) qt_tl23 qt_ni23 qt_te39 rfl rfl rfl (src_rd ((rd_own (i := 2) rfl).heDrop k (by omega) hol.2) (by rw [heC_length, List.length_drop]) (heC_one _)) (by omega) (by omega)) (fun y3 => ?_)
        refine RL.assign rfl rfl rfl ?_
        refine RL.nil ?_
        refine NX.off ?_
        refine NX.seq ?_
        refine TR.region ?_
        refine RL.move rfl rfl rfl ?_
        refine RL.bin rfl rfl rfl (BinV.add _ rfl (by omega) (by omega)) rfl ?_
        refine RL.assign rfl rfl rfl ?_
        refine RL.nil ?_
        refine NX.roundP ⟨z.k + 1, (z.l.take k ++ [rows[q]] ++ z.l.drop k), y3.1, y3.2⟩ ⟨by show z.k + 1 ≤ 3; omega, fun r => (mem_mid (l := z.l)).trans ⟨fun h => h.elim (hz.2.1 r).1 (fun e => e ▸ List.getElem_mem hq), fun h => .inl ((hz.2.1 r).2 h)⟩, by show (z.l.take k ++ [rows[q]] ++ z.l.drop k).length = _; rw [mid_len (by omega)]; show z.l.length + 1 = rows.length + (z.k + 1); omega⟩ (by show 3 - (z.k + 1) < _; omega) ⟨rfl, rfl, by show some (Value.slice y3.1 (0 + (k - 0) + 1 + (z.l.length - k)) y3.2) = some (Value.slice y3.1 (z.l.take k ++ [rows[q]] ++ z.l.drop k).length y3.2); rw [mid_len (by omega)]; congr 2; omega, rfl, trivial⟩ (fun w hw => (by have h9 := (hw.to 3 [1] 1 [] rfl); show St w (OwnSl 39 2 y3.1 (z.l.take k ++ [rows[q]] ++ z.l.drop k).length y3.2 (heC (z.l.take k ++ [rows[q]] ++ z.l.drop k)) :: M) F; rw [heC_append, heC_append, mid_len (by omega)]; have e9 : 0 + (k - 0) + 1 + (z.l.length - k) = z.l.length + 1 := (by omega); rw [← e9]; exact h9))
      · skip
        refine TR.exit ?_
        refine NX.exitThen ?_
        refine NX.exitThen ?_
        refine NX.exitHere ?_
        refine NX.seq ?_
        refine TR.seq ?_
        refine TR.region ?_
        refine RL.move rfl rfl rfl ?_
        refine RL.assign rfl rfl rfl ?_
        refine RL.nil ?_
        refine NX.seq ?_
        refine TR.ret ?_
        refine NX.ret1 (⟨⟨z.k, z.l, z.oa, z.c⟩, hz.2.1, by have := hz.1; have := hz.2.2; show z.l.length ≤ _; omega⟩ : {z : RwX // (∀ r, r ∈ z.l ↔ r ∈ rows) ∧ z.l.length ≤ rows.length + 3}) rfl rfl rfl (fun w hw => ?_)
        have h9 := ((hw.to 1 [0] 0 [] rfl) : St w _ F)
        exact (h9.keepSl.derive (ψ := HeF z.l) (fun K hf => HeF.sub (hf (HeF rows) (.tail _ hR)) (fun r hr => (hz.2.1 r).1 hr))).facts (fun φ h => by rcases List.mem_cons.1 h with e | h; exact e ▸ .tail _ (.head _); rcases List.mem_cons.1 h with e | h; exact e ▸ .head _; exact .tail _ (.tail _ h))
    · skip
      refine RL.skip rfl rfl rfl ?_
      refine RL.skip rfl rfl rfl ?_
      refine RL.pickF rfl rfl rfl rfl ?_
      refine RL.nil ?_
      refine NX.seq ?_
      refine TR.condF rfl ?_
      refine TR.exit ?_
      refine NX.exitThen ?_
      refine NX.exitThen ?_
      refine NX.exitHere ?_
      refine NX.seq ?_
      refine TR.seq ?_
      refine TR.region ?_
      refine RL.move rfl rfl rfl ?_
      refine RL.assign rfl rfl rfl ?_
      refine RL.nil ?_
      refine NX.seq ?_
      refine TR.ret ?_
      refine NX.ret1 (⟨⟨z.k, z.l, z.oa, z.c⟩, hz.2.1, by have := hz.1; have := hz.2.2; show z.l.length ≤ _; omega⟩ : {z : RwX // (∀ r, r ∈ z.l ↔ r ∈ rows) ∧ z.l.length ≤ rows.length + 3}) rfl rfl rfl (fun w hw => ?_)
      have h9 := ((hw.to 1 [0] 0 [] rfl) : St w _ F)
      exact (h9.keepSl.derive (ψ := HeF z.l) (fun K hf => HeF.sub (hf (HeF rows) (.tail _ hR)) (fun r hr => (hz.2.1 r).1 hr))).facts (fun φ h => by rcases List.mem_cons.1 h with e | h; exact e ▸ .tail _ (.head _); rcases List.mem_cons.1 h with e | h; exact e ▸ .head _; exact .tail _ (.tail _ h))
end Go.Proofs.Ytkdeopioelocnaa

namespace Go.GL
set_option linter.unusedVariables false
abbrev insA (c : UInt8) : List PE := [⟨⟨0, 0⟩, ⟨0, 0⟩, [c]⟩]
def vOf (n : Int) (dn : Bool) (i : Nat) : Int := if dn = true then 1 + n - i else 2 + i
structure HdI (n : Int) (dn : Bool) (k : Nat) (h : Hs) : Prop where
  first : h.first = 0
  hist : h.hist = [([], [])]
  all : ∀ p, p ∈ h.held → p.2 = insA 97 ∧ 2 ≤ p.1 ∧ p.1 ≤ n + 1
  old : ∀ j : Nat, k ≤ j → (j : Int) < n → ∀ p, p ∈ h.held → p.1 ≠ vOf n dn j
theorem vOf_in {n : Int} {dn : Bool} {k : Nat} (h : (k : Int) < n) : 2 ≤ vOf n dn k ∧ vOf n dn k ≤ n + 1 := by
  unfold vOf; split <;> omega
theorem vOf_inj {n : Int} {dn : Bool} {j k : Nat} (h : vOf n dn j = vOf n dn k) : j = k := by
  unfold vOf at h; split at h <;> omega
theorem HdI.v {n : Int} {dn : Bool} {k : Nat} {h : Hs} (r : HdI n dn k h) : h.v = 0 := by unfold Hs.v; rw [r.first, r.hist]; rfl
theorem HdI.new {n : Int} {dn : Bool} : HdI n dn 0 ⟨0, [([], [])], []⟩ := ⟨rfl, rfl, fun p hp => absurd hp (by simp), fun j _ _ p hp => absurd hp (by simp)⟩
theorem HdI.skip {n : Int} {dn : Bool} {k : Nat} {h : Hs} (r : HdI n dn k h) : HdI n dn (k + 1) h := ⟨r.first, r.hist, r.all, fun j hj => r.old j (by omega)⟩
theorem hGet_is_none : ∀ {l : Hd} {k : Int}, (∀ p, p ∈ l → p.1 ≠ k) → hGet l k = none
  | [], k, _ => rfl
  | p :: l, k, h => by rw [hGet, if_neg (h p (.head _))]; exact hGet_is_none fun q hq => h q (.tail _ hq)
theorem HdI.get {n : Int} {dn : Bool} {k : Nat} {h : Hs} (r : HdI n dn k h) (hk : (k : Int) < n) : hGet h.held (vOf n dn k) = none := hGet_is_none (r.old k (Nat.le_refl _) hk)
theorem HdI.more {n : Int} {dn : Bool} {k : Nat} {h : Hs} (r : HdI n dn k h) (hk : (k : Int) < n) : HdI n dn (k + 1) { h with held := h.held ++ [(vOf n dn k, insA 97)] } := by
  refine ⟨r.first, r.hist, fun p hp => ?_, fun j hj hjn p hp => ?_⟩
  · rcases List.mem_append.1 hp with hp | hp
    · exact r.all p hp
    · rw [List.mem_singleton.1 hp]; exact ⟨rfl, vOf_in hk⟩
  · rcases List.mem_append.1 hp with hp | hp
    · exact r.old j (by omega) hjn p hp
    · rw [List.mem_singleton.1 hp]; exact fun e => by have := vOf_inj e; omega
end Go.GL

namespace Go.GL
set_option linter.unusedVariables false
def HeOk (r : HeR) : Prop := r.l.length ≤ 1000 ∧ txsP r.l ≤ 100100 ∧ I64 r.k
theorem app_v {h : Hs} {l : List PE} (e : (appH h l).1 = 0) : (appH h l).2.v = h.v + 1 ∧ (appH h l).2.first = h.first := by
  unfold appH at e ⊢
  split at e
  · rename_i h1; exact absurd e h1
  · rename_i h1
    rw [if_neg h1]
    unfold becH at e ⊢
    split at e
    · rename_i h2; exact absurd e h2
    · rename_i h2
      split at e
      · exact absurd (show (4 : Int) = 0 from e) (by decide)
      · rename_i h3
        rw [if_neg h2, if_neg h3]
        exact ⟨(tx_of h _ _).2, rfl⟩
theorem ChOk.all : ∀ {cs : List Cg} {h : Hs}, ChOk h cs → ∀ c, c ∈ cs → c.2.length ≤ 64 ∧ txsP c.2 ≤ 100000 ∧ h.v < c.1 ∧ c.1 ≤ h.v + cs.length
  | [], _, _, c, hc => absurd hc (by simp)
  | d :: cs, h, ⟨⟨h1, h2, h3, h4⟩, h5⟩, c, hc => by
    have hv := (app_v h4).1
    rcases List.mem_cons.1 hc with rfl | hc
    · exact ⟨h2, h3, by omega, by rw [List.length_cons]; omega⟩
    · obtain ⟨g1, g2, g3, g4⟩ := ChOk.all h5 c hc
      exact ⟨g1, g2, by omega, by rw [List.length_cons]; omega⟩
theorem ChOk.he {t : List UInt8} {rows : List HeR} (h : ChOk ⟨0, [(t, [])], []⟩ (rows.map HeR.p)) (hl : rows.length ≤ 8) : ∀ r, r ∈ rows → HeOk r := fun r hr => by
  obtain ⟨h1, h2, h3, h4⟩ := ChOk.all h r.p (List.mem_map.2 ⟨r, hr, rfl⟩)
  have h1 : r.l.length ≤ 64 := h1
  have h2 : txsP r.l ≤ 100000 := h2
  have h3 : (0 : Int) + 1 - 1 < r.k := h3
  rw [List.length_map] at h4
  have h4 : r.k ≤ (0 : Int) + 1 - 1 + (rows.length : Int) := h4
  exact ⟨by omega, by omega, by omega, by omega⟩
theorem ChOk.at : ∀ {cs : List Cg} {h : Hs} {j : Nat}, ChOk h cs → (hj : j < cs.length) → cs[j].1 = (endH h (cs.take j)).v + 1 ∧ (endH h (cs.take j)).v = h.v + j ∧ (appH (endH h (cs.take j)) cs[j].2).1 = 0 ∧ endH h (cs.take (j + 1)) = (appH (endH h (cs.take j)) cs[j].2).2
  | d :: cs, h, 0, ⟨⟨h1, h2, h3, h4⟩, h5⟩, _ => ⟨h1, by show h.v = h.v + ((0 : Nat) : Int); omega, h4, rfl⟩
  | d :: cs, h, j + 1, ⟨⟨h1, h2, h3, h4⟩, h5⟩, hj => by
    obtain ⟨g1, g2, g3, g4⟩ := ChOk.at (j := j) h5 (by simpa using hj)
    have hv := (app_v h4).1
    exact ⟨g1, by show (endH (appH h d.2).2 (cs.take j)).v = _; rw [g2, hv]; omega, g3, g4⟩
theorem ChOk.endv {cs : List Cg} {h : Hs} (hc : ChOk h cs) : (endH h cs).v = h.v + cs.length := by
  induction cs generalizing h with
  | nil => show h.v = h.v + ((0 : Nat) : Int); omega
  | cons d cs ih =>
    obtain ⟨⟨h1, h2, h3, h4⟩, h5⟩ := hc
    show (endH (appH h d.2).2 cs).v = _
    rw [ih h5, (app_v h4).1, List.length_cons]; omega
structure OrI (h0 : Hs) (cs : List Cg) (j : Nat) (h : Hs) : Prop where
  jl : j ≤ cs.length
  eq : h = { endH h0 (cs.take j) with held := h.held }
  sub : ∀ p, p ∈ h.held → p ∈ cs ∧ h0.v + j < p.1
  nd : (h.held.map Prod.fst).Nodup
theorem OrI.v {h0 : Hs} {cs : List Cg} {j : Nat} {h : Hs} (hc : ChOk h0 cs) (r : OrI h0 cs j h) : h.v = h0.v + j := by
  rw [r.eq]
  show (endH h0 (cs.take j)).v = _
  rcases Nat.lt_or_ge j cs.length with hj | hj
  · exact (hc.at hj).2.1
  · have : j = cs.length := by have := r.jl; omega
    subst this
    rw [List.take_length, hc.endv]
structure OrW (h0 : Hs) (cs come : List Cg) (j : Nat) (h : Hs) : Prop where
  i : OrI h0 cs j h
  gap : ∀ p, p ∈ h.held → p.1 ≠ h0.v + j + 1
  come : ∀ c, c ∈ come → c.1 ≤ h0.v + j ∨ c.1 ∈ h.held.map Prod.fst
theorem OrW.new {h0 : Hs} {cs : List Cg} (hh : h0.held = []) : OrW h0 cs [] 0 h0 := by
  refine ⟨⟨Nat.zero_le _, rfl, fun p hp => ?_, by rw [hh]; exact List.nodup_nil⟩, fun p hp => ?_, fun c hc => absurd hc (by simp)⟩
  · rw [hh] at hp; exact absurd hp (by simp)
  · rw [hh] at hp; exact absurd hp (by simp)
theorem OrW.next {h0 : Hs} {cs : List Cg} (hc : ChOk h0 cs) (h00 : 0 ≤ h0.v) (hbig : h0.v + cs.length ≤ 1099511627776) (hh : h0.held = []) {j : Nat} (hj : j < cs.length) :
    recvH (endH h0 (cs.take j)) cs[j].1 cs[j].2 = ((1, 0), endH h0 (cs.take (j + 1))) := by
  obtain ⟨g1, g2, g3, g4⟩ := hc.at hj
  obtain ⟨a1, a2, a3, a4⟩ := hc.all _ (List.getElem_mem hj)
  have hheld : ∀ (l : List Cg) (h : Hs), h.held = [] → (endH h l).held = [] := by
    intro l
    induction l with
    | nil => intro h e; exact e
    | cons d l ih => intro h e; exact ih _ (by rw [appH_held, e])
  have e0 := hheld (cs.take j) h0 hh
  have e1 := hheld (cs.take (j + 1)) h0 hh
  unfold recvH
  rw [if_neg (by omega), if_neg (by omega), if_neg (by rw [e0, g1]; simp [hGet]; omega), if_neg (by omega), if_neg (by rw [g3]; simp), ← g4, drainH_none (by rw [e1]; rfl)]
end Go.GL

namespace Go.GL
set_option linter.unusedVariables false
def HeS (r : HeR) : Prop := r.l.length ≤ 64 ∧ txsP r.l ≤ 100000 ∧ -1000 ≤ r.k ∧ r.k ≤ 1000
theorem HeS.ok {r : HeR} (h : HeS r) : HeOk r := ⟨by have := h.1; omega, by have := h.2.1; omega, by have := h.2.2.1; omega, by have := h.2.2.2; omega⟩
theorem ChOk.hs {t : List UInt8} {rows : List HeR} (h : ChOk ⟨0, [(t, [])], []⟩ (rows.map HeR.p)) (hl : rows.length ≤ 8) : ∀ r, r ∈ rows → HeS r := fun r hr => by
  obtain ⟨h1, h2, h3, h4⟩ := ChOk.all h r.p (List.mem_map.2 ⟨r, hr, rfl⟩)
  have h1 : r.l.length ≤ 64 := h1
  have h2 : txsP r.l ≤ 100000 := h2
  have h3 : (0 : Int) + 1 - 1 < r.k := h3
  rw [List.length_map] at h4
  have h4 : r.k ≤ (0 : Int) + 1 - 1 + (rows.length : Int) := h4
  exact ⟨by omega, by omega, by omega, by omega⟩
theorem HeS.spoilV {r : HeR} (h : HeS r) {k : Int} (hk : I64 k) : HeOk { r with k := k } := ⟨by have := h.1; show r.l.length ≤ _; omega, by have := h.2.1; show txsP r.l ≤ _; omega, hk⟩
theorem txsP_append (a b : List PE) : txsP (a ++ b) = txsP a + txsP b := by unfold txsP; rw [List.map_append, List.sum_append]
theorem HeS.spoilL {r : HeR} (h : HeS r) {oa : Option Addr} {c : Nat} (x : PE) (hx : x.x.length ≤ 100) : HeOk ⟨r.k, r.l ++ [x], oa, c⟩ := by
  have h1 : txsP [x] = x.x.length := by simp [txsP]
  obtain ⟨a1, a2, a3, a4⟩ := h
  refine ⟨?_, ?_, by show _ ≤ r.k; omega, by show r.k ≤ _; omega⟩
  · show (r.l ++ [x]).length ≤ _
    rw [List.length_append, List.length_singleton]; omega
  · show txsP (r.l ++ [x]) ≤ _
    rw [txsP_append]; omega
theorem set_all {p : HeR → Prop} {l : List HeR} {i : Nat} {r : HeR} (h : ∀ x, x ∈ l → p x) (hr : p r) : ∀ x, x ∈ l.set i r → p x := fun x hx => by
  rcases List.mem_or_eq_of_mem_set hx with h1 | h1
  · exact h x h1
  · exact h1 ▸ hr
theorem heC_split (l : List HeR) (k : Nat) (h : k < l.length) : heC l = (heC l).take (k * 2) ++ l[k].cs ++ (heC l).drop (k * 2 + 2) := by
  conv => lhs; rw [← List.set_getElem_self h]
  exact heC_set h _
theorem heC_setK (l : List HeR) (k : Nat) (h : k < l.length) (v : Int) : (heC l).take (0 + ((k : Nat) : Int).toNat * 2 + 0) ++ [I v] ++ (heC l).drop (0 + ((k : Nat) : Int).toNat * 2 + 0 + ([I v] : List Value).length) = heC (l.set k { l[k] with k := v }) := by
  have hl : ((heC l).take (k * 2)).length = k * 2 := by rw [List.length_take, heC_length]; omega
  rw [heC_set h, Nat.zero_add, Int.toNat_natCast]
  conv => lhs; rw [heC_split l k h]
  generalize (heC l).take (k * 2) = A at *
  generalize (heC l).drop (k * 2 + 2) = B
  rw [← hl]
  simp [List.drop_append, HeR.cs]
theorem heC_setL (l : List HeR) (k : Nat) (h : k < l.length) (pl : List PE) (oa : Option Addr) (c : Nat) : (heC l).take (0 + ((k : Nat) : Int).toNat * 2 + 1) ++ [.slice oa pl.length c] ++ (heC l).drop (0 + ((k : Nat) : Int).toNat * 2 + 1 + ([.slice oa pl.length c] : List Value).length) = heC (l.set k ⟨l[k].k, pl, oa, c⟩) := by
  have hl : ((heC l).take (k * 2)).length = k * 2 := by rw [List.length_take, heC_length]; omega
  rw [heC_set h, Nat.zero_add, Int.toNat_natCast]
  conv => lhs; rw [heC_split l k h]
  generalize (heC l).take (k * 2) = A at *
  generalize (heC l).drop (k * 2 + 2) = B
  rw [← hl]
  simp [List.take_append, List.drop_append, HeR.cs]
  rw [List.take_of_length_le (l := A) (by omega), List.drop_of_length_le (l := A) (by omega), show A.length + 1 + 1 - A.length = 2 from by omega]; rfl
theorem HeF.set {l : List HeR} {r : HeR} {i : Nat} {w : World} {K : List Nat} (h : (HeF l).p w K) (hr : ArrAt w K r.oa (peC r.l)) : (HeF (l.set i r)).p w K := set_all (p := fun h => ArrAt w K h.oa (peC h.l)) h hr
theorem i64_div {x : Int} (h : I64 x) : I64 (x.tdiv 3) := by
  obtain ⟨h0, h1⟩ := h
  rcases Int.le_total 0 x with hx | hx
  · rw [Int.tdiv_eq_ediv_of_nonneg hx]; exact ⟨by omega, by omega⟩
  · have e : x.tdiv 3 = -((-x).tdiv 3) := by rw [Int.neg_tdiv, Int.neg_neg]
    rw [e, Int.tdiv_eq_ediv_of_nonneg (by omega)]; exact ⟨by omega, by omega⟩
end Go.GL

namespace Go.Proofs.Ytkdeopioelocnaa
open Go.GL
set_option linter.unusedVariables false
theorem qw_bs23_1_0 (x00 : Int) (x01 : Option Addr) (x01n x01c : Nat) : BuildSV Try.prog 23 39 1 [(0, .agg #[.int .i64 x00, .slice x01 x01n x01c])] [.int .i64 x00, .slice x01 x01n x01c] := fun w => by kernel_rfl
theorem qw_bs28_1_0 (x000 : Int) (x001 : Int) (x010 : Int) (x011 : Int) (x02 : List UInt8) : BuildSV Try.prog 28 63 1 [(0, .agg #[.int .i64 x000, .int .i64 x001, .int .i64 x010, .int .i64 x011, S x02])] [.int .i64 x000, .int .i64 x001, .int .i64 x010, .int .i64 x011, S x02] := fun w => by kernel_rfl
theorem qw_bv39_0_1 (x0 : Int) (x1 : Option Addr) (x1n x1c : Nat) : BuildV Try.prog 39 [(0, .int .i64 x0), (1, .slice x1 x1n x1c)] (.agg #[.int .i64 x0, .slice x1 x1n x1c]) := fun w => by kernel_rfl
theorem qw_bv63_0_1_2 (x00 : Int) (x01 : Int) (x10 : Int) (x11 : Int) (x2 : List UInt8) : BuildV Try.prog 63 [(0, .agg #[.int .i64 x00, .int .i64 x01]), (1, .agg #[.int .i64 x10, .int .i64 x11]), (2, S x2)] (.agg #[.int .i64 x00, .int .i64 x01, .int .i64 x10, .int .i64 x11, S x2]) := fun w => by kernel_rfl
theorem qw_ni23 : noInt Try.prog 23 = true := by kernel_rfl
theorem qw_ni28 : noInt Try.prog 28 = true := by kernel_rfl
theorem qw_ta61 : tyAgg Try.prog 61 2 = true := by kernel_rfl
theorem qw_te39 : tyElem Try.prog 39 2 32 = true := by kernel_rfl
theorem qw_te63 : tyElem Try.prog 63 5 48 = true := by kernel_rfl
theorem qw_tf39_0 : fieldOff Try.prog 39 0 0 = true := by kernel_rfl
theorem qw_tf39_1 : fieldOff Try.prog 39 1 1 = true := by kernel_rfl
theorem qw_tl23 : tySlice Try.prog 23 39 = true := by kernel_rfl
theorem qw_tl28 : tySlice Try.prog 28 63 = true := by kernel_rfl
theorem qw_ts28 : tyScalar Try.prog 28 = true := by kernel_rfl
theorem qw_ts3 : tyScalar Try.prog 3 = true := by kernel_rfl
theorem qw_tstr9 : tyStr Try.prog 9 = true := by kernel_rfl
theorem qw_tz28 : tySize Try.prog 28 1 = true := by kernel_rfl
theorem qw_tz3 : tySize Try.prog 3 1 = true := by kernel_rfl
theorem qw_tz39 : tySize Try.prog 39 2 = true := by kernel_rfl
theorem short_spec {l : List UInt8} {n : Nat} {M : List HP} {F : List Fact} : Ctr Try.prog 40 [S l, I (n : Nat)] M F Unit (fun _ => S (l.take n)) (fun _ => M) (fun _ => F) := by
  refine Ctr.body Try.func40 rfl rfl ?_
  refine TR.seq ?_
  refine TR.region ?_
  refine RL.assign rfl rfl rfl ?_
  refine RL.nil ?_
  refine NX.seq ?_
  refine TR.seq ?_
  refine TR.seq ?_
  refine TR.region ?_
  refine RL.move rfl rfl rfl ?_
  refine RL.lenStr rfl qw_tstr9 rfl rfl ?_
  refine RL.move rfl rfl rfl ?_
  refine RL.bin rfl rfl rfl BinV.gtr rfl ?_
  refine RL.nil ?_
  refine NX.seq ?_
  refine TR.cond rfl (fun h1 => ?_) (fun h1 => ?_)
  · skip
    have hb : n < l.length := by have := of_decide_eq_true h1; omega
    refine TR.seq ?_
    refine TR.region ?_
    refine RL.move rfl rfl rfl ?_
    refine RL.move rfl rfl rfl ?_
    refine RL.sliceSto rfl qw_tstr9 rfl rfl  (by omega) (by omega) rfl ?_
    refine RL.assign rfl rfl rfl ?_
    refine RL.nil ?_
    refine NX.seq ?_
    refine TR.ret ?_
    refine NX.retThen ?_
    exact NX.ret1 () rfl rfl (by rw [Int.toNat_natCast]) (fun w hw => hw)
  · skip
    have hb : l.length ≤ n := by have := of_decide_eq_false h1; omega
    refine TR.skip ?_
    refine NX.seq ?_
    refine TR.seq ?_
    refine TR.region ?_
    refine RL.move rfl rfl rfl ?_
    refine RL.assign rfl rfl rfl ?_
    refine RL.nil ?_
    refine NX.seq ?_
    refine TR.ret ?_
    exact NX.ret1 () rfl rfl (by rw [List.take_of_length_le hb]) (fun w hw => hw)
theorem bound_spec {v : Int} {m : Nat} {M : List HP} {F : List Fact} (hv : I64 v) (hm : m ≤ 1000) : Ctr Try.prog 70 [I v, I (m : Nat)] M F {r : Int // -(m : Int) ≤ r ∧ r ≤ m} (fun r => I r.1) (fun _ => M) (fun _ => F) := by
  refine Ctr.body Try.func70 rfl rfl ?_
  refine TR.seq ?_
  refine TR.region ?_
  refine RL.assign rfl rfl rfl ?_
  refine RL.nil ?_
  refine NX.seq ?_
  refine TR.seq ?_
  refine TR.region ?_
  refine RL.move rfl rfl rfl ?_
  refine RL.move rfl rfl rfl ?_
  refine RL.bin rfl rfl rfl (BinV.mul (2 * (m : Int)) rfl (by omega) (by omega)) rfl ?_
  refine RL.bin rfl rfl rfl (BinV.add _ rfl (by omega) (by omega)) rfl ?_
  refine RL.call rfl rfl Try.call34 rfl (around_spec (n := v) (m := 2 * (m : Int) + 1) (by omega) hv.1 hv.2) (fun r => ?_)
  have hr := r.2
  refine RL.move rfl rfl rfl ?_
  refine RL.bin rfl rfl rfl (BinV.sub _ rfl (by omega) (by omega)) rfl ?_
  refine RL.assign rfl rfl rfl ?_
  refine RL.nil ?_
  refine NX.seq ?_
  refine TR.ret ?_
  exact NX.ret1 (⟨r.1 - m, by omega, by omega⟩ : {r : Int // -(m : Int) ≤ r ∧ r ≤ m}) rfl rfl rfl (fun w hw => hw)
set_option maxHeartbeats 1000000 in
theorem spoilt_spec {rows : List HeR} {at0 how pl pu : Int} {oa : Option Addr} {ca : Nat} {M : List HP} {F : List Fact} (ha : ArrF oa (heC rows) ∈ F) (hR : HeF rows ∈ F) (hS : ∀ r, r ∈ rows → HeS r) (hl : rows.length ≤ 1000) (hat : I64 at0) (hhow : I64 how) : Ctr Try.prog 37 [.slice oa rows.length ca, I at0, I how, .agg #[I pl, I pu]] M F {z : RwX // (∀ r, r ∈ z.l → HeOk r) ∧ z.l.length ≤ rows.length + 1} (fun z => .slice z.1.oa z.1.l.length z.1.c) (fun _ => M) (fun z => ArrF z.1.oa (heC z.1.l) :: HeF z.1.l :: F) := by
  refine Ctr.body Try.func37 rfl rfl ?_
  refine TR.seq ?_
  refine TR.region ?_
  refine RL.boxA rfl rfl rfl (fun b1 => ?_)
  refine RL.assign rfl rfl rfl ?_
  refine RL.nil ?_
  refine NX.seq ?_
  refine TR.seq ?_
  refine TR.region ?_
  refine RL.assign rfl rfl rfl ?_
  refine RL.weak (fun w hw => OwnSl.nil_new 39 2 hw) ?_
  refine RL.nil ?_
  refine NX.seq ?_
  refine TR.seq ?_
  refine TR.region ?_
  refine RL.move rfl rfl rfl ?_
  refine RL.move rfl rfl rfl ?_
  refine RL.ofGV rfl rfl (GV.append (j := 0) qw_tl23 qw_ni23 qw_te39 rfl rfl rfl (src_rd (rd_fact ha) (heC_length rows) (heC_one rows)) (by omega) (by omega)) (fun y => ?_)
  rw [Nat.zero_add, List.nil_append]
  refine RL.assign rfl rfl rfl ?_
  refine RL.nil ?_
  refine NX.seq ?_
  refine TR.seq ?_
  refine TR.seq ?_
  refine TR.region ?_
  refine RL.move rfl rfl rfl ?_
  refine RL.lenSlice rfl qw_tl23 rfl rfl ?_
  refine RL.bin rfl rfl rfl BinV.eql rfl ?_
  refine RL.nil ?_
  refine NX.seq ?_
  refine TR.cond rfl (fun h3 => ?_) (fun h3 => ?_)
  · skip
    have hr0 := of_decide_eq_true h3
    refine TR.seq ?_
    refine TR.region ?_
    refine RL.move rfl rfl rfl ?_
    refine RL.loadA 1 rfl rfl rfl qw_ta61 rfl ?_
    refine RL.loadA 1 rfl rfl rfl qw_ta61 rfl ?_
    refine RL.build rfl rfl (qw_bv63_0_1_2 _ _ _ _ _) rfl ?_
    refine RL.buildSlice rfl rfl (qw_bs28_1_0 _ _ _ _ _) rfl (fun b4 => ?_)
    refine RL.weak (fun w hw => hw.boxArr) ?_
    refine RL.build rfl rfl (qw_bv39_0_1 _ _ _ _) rfl ?_
    refine RL.buildSlice rfl rfl (qw_bs23_1_0 _ _ _ _) rfl (fun b5 => ?_)
    refine RL.weak (fun w hw => hw.boxArr) ?_
    refine RL.assign rfl rfl rfl ?_
    refine RL.nil ?_
    refine NX.seq ?_
    refine TR.ret ?_
    refine NX.retThen ?_
    refine NX.ret1 (⟨⟨0, [⟨how, [(⟨⟨pl, pu⟩, ⟨pl, pu⟩, [113]⟩ : PE)], some ⟨b4, 0, none⟩, 1⟩], some ⟨b5, 0, none⟩, 1⟩, fun r hr => by rw [List.mem_singleton.1 hr]; exact ⟨by show 1 ≤ 1000; omega, by simp [txsP], hhow⟩, by show 1 ≤ rows.length + 1; omega⟩ : {z : RwX // (∀ r, r ∈ z.l → HeOk r) ∧ z.l.length ≤ rows.length + 1}) rfl rfl rfl (fun w hw => ?_)
    have h9 := (hw.to 2 [] 2 [0, 1] rfl)
    exact (h9.derive (ψ := HeF [⟨how, [(⟨⟨pl, pu⟩, ⟨pl, pu⟩, [113]⟩ : PE)], some ⟨b4, 0, none⟩, 1⟩]) (fun K hf r hr => by rw [List.mem_singleton.1 hr]; exact hf _ (.tail _ (.head _)))).facts (fun φ h => by rcases List.mem_cons.1 h with e | h; exact e ▸ .tail _ (.head _); rcases List.mem_cons.1 h with e | h; exact e ▸ .head _; exact .tail _ (.tail _ (.tail _ h)))
  · skip
    have hr0 := of_decide_eq_false h3
    refine TR.skip ?_
    refine NX.seq ?_
    refine TR.seq ?_
    refine TR.region ?_
    refine RL.move rfl rfl rfl ?_
    refine RL.move rfl rfl rfl ?_
    refine RL.lenSlice rfl qw_tl23 rfl rfl ?_
    refine RL.call rfl rfl Try.call34 rfl (around_spec (n := at0) (m := (rows.length : Int)) (by omega) hat.1 hat.2) (fun ri => ?_)
    obtain ⟨rv, rh⟩ := ri
    obtain ⟨i, rfl⟩ : ∃ i : Nat, rv = i := ⟨rv.toNat, by omega⟩
    dsimp only
    have hi0 := rh.2
    have hi : i < rows.length := by omega
    have hk9 := (hS _ (List.getElem_mem hi)).2.2
    have hk8 := (hS _ (List.getElem_mem hi)).1
    refine RL.openP (fun w hw => own_at (i := 0) rfl (heC_ne (l := rows) (by omega)) hw) (fun g1 hg1 => ?_)
    refine RL.assign rfl rfl rfl ?_
    refine RL.nil ?_
    refine NX.seq ?_
    refine TR.seq ?_
    refine TR.seq ?_
    refine TR.region ?_
    refine RL.move rfl rfl rfl ?_
    refine RL.call rfl rfl Try.call34 rfl (around_spec (n := how) (m := 3) (by decide) hhow.1 hhow.2) (fun rc => ?_)
    refine RL.nil ?_
    refine NX.seq ?_
    refine TR.block ?_
    refine TR.seq ?_
    refine TR.region ?_
    refine RL.bin rfl rfl rfl BinV.eql rfl ?_
    refine RL.assign rfl rfl rfl ?_
    refine RL.nil ?_
    refine NX.seq ?_
    refine TR.cond rfl (fun h6 => ?_) (fun h6 => ?_)
    · skip
      refine TR.sub (E' := [(2, _), (8, _), (9, _), (10, _)]) ⟨rfl, rfl, rfl, rfl, trivial⟩ ?_
      refine TR.draw mixed ?_
      apply AR.more [(0, _), (1, _), (2, _), (3, _), (4, _), (5, _), (6, _), (7, _), (8, _)]
      refine AR.eff [0, 1, 2, 3, 4, 5, 6, 7, 8] 9 [0, 1, 2, 3, 4, 5, 6, 7, 8, 9, 10, 11, 12, 13] ⟨QOne.yes rfl rfl rfl (PV.move rfl), QOne.yes rfl rfl rfl (PV.move rfl), QOne.yes rfl rfl rfl (PV.move rfl), QOne.yes rfl rfl rfl (PV.move rfl), QOne.yes rfl rfl rfl (PV.indexAddr qw_tl23 qw_tz39 (congrArg (fun a => some (Value.slice a _ _)) hg1) rfl (by omega) (by omega)), QOne.yes rfl rfl rfl (PV.fieldAddr qw_tf39_0 rfl), QOne.yes rfl rfl rfl (PV.loadS rfl (own_one (i := 0) rfl hg1 qw_ts3 (show (heC rows)[0 + ((i : Nat) : Int).toNat * 2 + 0]? = some (I rows[i].k) from heC_at1 hi rfl))), QOne.yes rfl rfl rfl (PV.move rfl), QOne.yes rfl rfl rfl (PV.bin rfl rfl (BinV.quo (by decide) (how.tdiv 3) rfl (i64_div hhow).1 (i64_div hhow).2)), trivial⟩ rfl rfl rfl rfl rfl rfl rfl (EV.call rfl Try.call70 (bound_spec (v := how.tdiv 3) (m := 20) (i64_div hhow) (by decide))) (fun bb => ?_)
      refine AR.done [8, 7] rfl ?_
      apply AR.more [(10, _), (11, _), (12, _)]
      refine AR.eff [0, 1, 2, 3, 4, 5, 6, 10, 11, 12] 13 [0, 1, 2, 3, 4, 5, 6, 7, 8, 9, 10, 11, 12, 13] ⟨QOne.yes rfl rfl rfl (PV.move rfl), QOne.yes rfl rfl rfl (PV.move rfl), QOne.yes rfl rfl rfl (PV.move rfl), QOne.yes rfl rfl rfl (PV.move rfl), QOne.yes rfl rfl rfl (PV.indexAddr qw_tl23 qw_tz39 (congrArg (fun a => some (Value.slice a _ _)) hg1) rfl (by omega) (by omega)), QOne.yes rfl rfl rfl (PV.fieldAddr qw_tf39_0 rfl), QOne.yes rfl rfl rfl (PV.loadS rfl (own_one (i := 0) rfl hg1 qw_ts3 (show (heC rows)[0 + ((i : Nat) : Int).toNat * 2 + 0]? = some (I rows[i].k) from heC_at1 hi rfl))), QOne.yes rfl rfl rfl (PV.bin rfl rfl (BinV.add (rows[i].k + bb.1) rfl (by omega) (by omega))), QOne.yes rfl rfl rfl (PV.indexAddr qw_tl23 qw_tz39 (congrArg (fun a => some (Value.slice a _ _)) hg1) rfl (by omega) (by omega)), QOne.yes rfl rfl rfl (PV.fieldAddr qw_tf39_0 rfl), trivial⟩ rfl rfl rfl rfl rfl rfl rfl (EV.storeO (vs := [I (rows[i].k + bb.1)]) (oa := y.1) (xs := heC rows) 0 rfl rfl rfl hg1 qw_tz3 rfl (by show 0 + ((i : Nat) : Int).toNat * 2 + 0 + 1 ≤ (heC rows).length; rw [heC_length, Int.toNat_natCast]; omega) rfl) (fun _ => ?_)
      refine AR.done [12, 10, 0, 1, 2, 3, 4, 5, 6, 11] rfl ?_
      refine AR.last [] [0, 1, 2, 3, 4, 5, 6, 7, 8, 9, 10, 11, 12, 13] trivial rfl rfl rfl ?_
      refine NX.sub (E' := [(8, _), (9, _)]) ⟨rfl, rfl, trivial⟩ ?_
      rw [heC_setK rows i hi (rows[i].k + bb.1)]
      refine NX.off ?_
      refine NX.seq ?_
      refine TR.seq ?_
      refine TR.region ?_
      refine RL.move rfl rfl rfl ?_
      refine RL.assign rfl rfl rfl ?_
      refine RL.nil ?_
      refine NX.seq ?_
      refine TR.ret ?_
      refine NX.ret1 (⟨⟨0, rows.set i { rows[i] with k := rows[i].k + bb.1 }, y.1, y.2⟩, set_all (p := HeOk) (fun x hx => (hS x hx).ok) ((hS _ (List.getElem_mem hi)).spoilV ⟨by have := (hS _ (List.getElem_mem hi)).2.2; omega, by have := (hS _ (List.getElem_mem hi)).2.2; omega⟩), by show (rows.set i _).length ≤ _; rw [List.length_set]; omega⟩ : {z : RwX // (∀ r, r ∈ z.l → HeOk r) ∧ z.l.length ≤ rows.length + 1}) rfl rfl (by show Value.slice y.1 rows.length y.2 = Value.slice y.1 (rows.set i _).length y.2; rw [List.length_set]) (fun w hw => ?_)
      have h9 := ((hw.to 2 [0] 0 [] rfl) : St w _ _).keepSl
      exact (h9.derive (ψ := HeF (rows.set i { rows[i] with k := rows[i].k + bb.1 })) (fun K hf => HeF.set (hf (HeF rows) (.tail _ hR)) ((hf (HeF rows) (.tail _ hR)) rows[i] (List.getElem_mem hi)))).facts (fun φ h => by rcases List.mem_cons.1 h with e | h; exact e ▸ .tail _ (.head _); rcases List.mem_cons.1 h with e | h; exact e ▸ .head _; exact .tail _ (.tail _ h))
    · skip
      refine TR.seq ?_
      refine TR.region ?_
      refine RL.bin rfl rfl rfl BinV.eql rfl ?_
      refine RL.assign rfl rfl rfl ?_
      refine RL.nil ?_
      refine NX.seq ?_
      refine TR.cond rfl (fun h7 => ?_) (fun h7 => ?_)
      · skip
        refine TR.region ?_
        refine RL.move rfl rfl rfl ?_
        refine RL.move rfl rfl rfl ?_
        refine RL.move rfl rfl rfl ?_
        refine RL.indexAddr rfl qw_tl23 qw_tz39 (congrArg (fun a => some (Value.slice a _ _)) hg1) rfl (by omega) (by omega) rfl ?_
        refine RL.fieldAddr rfl qw_tf39_0 rfl rfl ?_
        refine RL.ofEV rfl rfl (EV.storeO (vs := [I how]) (oa := y.1) (xs := heC rows) 0 rfl rfl rfl hg1 qw_tz3 rfl (by show 0 + ((i : Nat) : Int).toNat * 2 + 0 + 1 ≤ (heC rows).length; rw [heC_length, Int.toNat_natCast]; omega) rfl) ?_
        rw [heC_setK rows i hi how]
        refine RL.nil ?_
        refine NX.off ?_
        refine NX.seq ?_
        refine TR.seq ?_
        refine TR.region ?_
        refine RL.move rfl rfl rfl ?_
        refine RL.assign rfl rfl rfl ?_
        refine RL.nil ?_
        refine NX.seq ?_
        refine TR.ret ?_
        refine NX.ret1 (⟨⟨0, rows.set i { rows[i] with k := how }, y.1, y.2⟩, set_all (p := HeOk) (fun x hx => (hS x hx).ok) ((hS _ (List.getElem_mem hi)).spoilV hhow), by show (rows.set i _).length ≤ _; rw [List.length_set]; omega⟩ : {z : RwX // (∀ r, r ∈ z.l → HeOk r) ∧ z.l.length ≤ rows.length + 1}) rfl rfl (by show Value.slice y.1 rows.length y.2 = Value.slice y.1 (rows.set i _).length y.2; rw [List.length_set]) (fun w hw => ?_)
        have h9 := ((hw.to 2 [0] 0 [] rfl) : St w _ _).keepSl
        exact (h9.derive (ψ := HeF (rows.set i { rows[i] with k := how })) (fun K hf => HeF.set (hf (HeF rows) (.tail _ hR)) ((hf (HeF rows) (.tail _ hR)) rows[i] (List.getElem_mem hi)))).facts (fun φ h => by rcases List.mem_cons.1 h with e | h; exact e ▸ .tail _ (.head _); rcases List.mem_cons.1 h with e | h; exact e ▸ .head _; exact .tail _ (.tail _ h))
      · skip
        refine TR.seq ?_
        refine TR.region ?_
        refine RL.assign rfl rfl rfl ?_
        refine RL.weak (fun w hw => OwnSl.nil_new 63 5 hw) ?_
        refine RL.nil ?_
        refine NX.seq ?_
        refine TR.seq ?_
        refine TR.weak (fun w hw => hw.derive (ψ := ArrF rows[i].oa (peC rows[i].l)) (fun K hf => hf (HeF rows) hR _ (List.getElem_mem hi))) ?_
        refine TR.region ?_
        refine RL.move rfl rfl rfl ?_
        refine RL.move rfl rfl rfl ?_
        refine RL.move rfl rfl rfl ?_
        refine RL.indexAddr rfl qw_tl23 qw_tz39 (congrArg (fun a => some (Value.slice a _ _)) hg1) rfl (by omega) (by omega) rfl ?_
        refine RL.fieldAddr rfl qw_tf39_1 rfl rfl ?_
        refine RL.loadS rfl rfl (own_one (i := 1) rfl hg1 qw_ts28 (show (heC rows)[0 + ((i : Nat) : Int).toNat * 2 + 1]? = some (.slice rows[i].oa rows[i].l.length rows[i].c) from heC_at1 hi rfl)) rfl ?_
        refine RL.ofGV rfl rfl (GV.append (j := 0) qw_tl28 qw_ni28 qw_te63 rfl rfl rfl (src_rd (rd_fact (.head _)) (peC_length _) (peC_one _)) (by omega) (by omega)) (fun y8 => ?_)
        rw [show 0 + rows[i].l.length = rows[i].l.length from Nat.zero_add _, List.nil_append]
        refine RL.assign rfl rfl rfl ?_
        refine RL.nil ?_
        refine NX.seq ?_
        refine TR.region ?_
        refine RL.move rfl rfl rfl ?_
        refine RL.move rfl rfl rfl ?_
        refine RL.move rfl rfl rfl ?_
        refine RL.loadA 2 rfl rfl rfl qw_ta61 rfl ?_
        refine RL.loadA 2 rfl rfl rfl qw_ta61 rfl ?_
        refine RL.build rfl rfl (qw_bv63_0_1_2 _ _ _ _ _) rfl ?_
        refine RL.buildSlice rfl rfl (qw_bs28_1_0 _ _ _ _ _) rfl (fun b9 => ?_)
        refine RL.ofGV rfl rfl (GV.append (j := 1) qw_tl28 qw_ni28 qw_te63 rfl rfl rfl (src_box (i := 0) rfl rfl rfl) (by omega) (by omega)) (fun ye => ?_)
        have e1 : peC rows[i].l ++ [I pl, I pu, I pl, I pu, S [113]] = peC (rows[i].l ++ [(⟨⟨pl, pu⟩, ⟨pl, pu⟩, [113]⟩ : PE)]) := by rw [peC_append]; rfl
        have e2 : rows[i].l.length + 1 = (rows[i].l ++ [(⟨⟨pl, pu⟩, ⟨pl, pu⟩, [113]⟩ : PE)]).length := by rw [List.length_append]; rfl
        rw [e2]
        refine RL.weak (fun w hw => St.keepSl (by have h9 := hw.front (i := 1) rfl; rw [e1] at h9; exact h9)) ?_
        refine RL.indexAddr rfl qw_tl23 qw_tz39 (congrArg (fun a => some (Value.slice a _ _)) hg1) rfl (by omega) (by omega) rfl ?_
        refine RL.fieldAddr rfl qw_tf39_1 rfl rfl ?_
        refine RL.ofEV rfl rfl (EV.storeO (vs := [.slice ye.1 (rows[i].l ++ [(⟨⟨pl, pu⟩, ⟨pl, pu⟩, [113]⟩ : PE)]).length ye.2]) (oa := y.1) (xs := heC rows) 1 rfl rfl rfl hg1 qw_tz28 rfl (by show 0 + ((i : Nat) : Int).toNat * 2 + 1 + 1 ≤ (heC rows).length; rw [heC_length, Int.toNat_natCast]; omega) rfl) ?_
        rw [heC_setL rows i hi (rows[i].l ++ [(⟨⟨pl, pu⟩, ⟨pl, pu⟩, [113]⟩ : PE)]) ye.1 ye.2]
        refine RL.nil ?_
        refine NX.off ?_
        refine NX.seq ?_
        refine TR.seq ?_
        refine TR.region ?_
        refine RL.move rfl rfl rfl ?_
        refine RL.assign rfl rfl rfl ?_
        refine RL.nil ?_
        refine NX.seq ?_
        refine TR.ret ?_
        refine NX.ret1 (⟨⟨0, rows.set i (⟨rows[i].k, rows[i].l ++ [(⟨⟨pl, pu⟩, ⟨pl, pu⟩, [113]⟩ : PE)], ye.1, ye.2⟩ : HeR), y.1, y.2⟩, set_all (p := HeOk) (fun x hx => (hS x hx).ok) ((hS _ (List.getElem_mem hi)).spoilL (⟨⟨pl, pu⟩, ⟨pl, pu⟩, [113]⟩ : PE) (by simp)), by show (rows.set i _).length ≤ _; rw [List.length_set]; omega⟩ : {z : RwX // (∀ r, r ∈ z.l → HeOk r) ∧ z.l.length ≤ rows.length + 1}) rfl rfl (by show Value.slice y.1 rows.length y.2 = Value.slice y.1 (rows.set i _).length y.2; rw [List.length_set]) (fun w hw => ?_)
        have h9 := ((hw.to 3 [1] 2 [0] rfl) : St w _ _).keepSl
        exact (h9.derive (ψ := HeF (rows.set i (⟨rows[i].k, rows[i].l ++ [(⟨⟨pl, pu⟩, ⟨pl, pu⟩, [113]⟩ : PE)], ye.1, ye.2⟩ : HeR))) (fun K hf => HeF.set (hf (HeF rows) (.tail _ (.tail _ hR))) (hf _ (.tail _ (.head _))))).facts (fun φ h => by rcases List.mem_cons.1 h with e | h; exact e ▸ .tail _ (.head _); rcases List.mem_cons.1 h with e | h; exact e ▸ .head _; exact .tail _ (.tail _ (.tail _ h)))
end Go.Proofs.Ytkdeopioelocnaa

namespace Go.Proofs.Ytkdeopioelocnaa
open Go.GL
set_option linter.unusedVariables false
theorem qu_tl22 : tySlice Try.prog 22 3 = true := by kernel_rfl
theorem qu_ts3 : tyScalar Try.prog 3 = true := by kernel_rfl
theorem qu_tz3 : tySize Try.prog 3 1 = true := by kernel_rfl
theorem sameInts_spec {xs ys : List Int} {oa ob : Option Addr} {ca cb : Nat} {M : List HP} {F : List Fact} (ha : ArrF oa (ints xs) ∈ F) (hb : ArrF ob (ints ys) ∈ F) (hxl : xs.length ≤ 4611686018427387904) : Ctr Try.prog 36 [.slice oa xs.length ca, .slice ob ys.length cb] M F Unit (fun _ => .bool (decide (xs = ys))) (fun _ => M) (fun _ => F) := by
  refine Ctr.body Try.func36 rfl rfl ?_
  refine TR.seq ?_
  refine TR.region ?_
  refine RL.assign rfl rfl rfl ?_
  refine RL.nil ?_
  refine NX.seq ?_
  refine TR.seq ?_
  refine TR.seq ?_
  refine TR.region ?_
  refine RL.move rfl rfl rfl ?_
  refine RL.lenSlice rfl qu_tl22 rfl rfl ?_
  refine RL.move rfl rfl rfl ?_
  refine RL.lenSlice rfl qu_tl22 rfl rfl ?_
  refine RL.bin rfl rfl rfl BinV.neq rfl ?_
  refine RL.nil ?_
  refine NX.seq ?_
  refine TR.cond rfl (fun h1 => ?_) (fun h1 => ?_)
  · skip
    have hlen : ¬ xs.length = ys.length := by have := of_decide_eq_true h1; omega
    refine TR.seq ?_
    refine TR.region ?_
    refine RL.assign rfl rfl rfl ?_
    refine RL.nil ?_
    refine NX.seq ?_
    refine TR.ret ?_
    refine NX.retThen ?_
    refine NX.ret1 () rfl rfl (congrArg Value.bool (Eq.symm (decide_eq_false (fun e => hlen (congrArg _ e))))) (fun w hw => hw)
  · skip
    have hlen : xs.length = ys.length := by have := of_decide_eq_false h1; omega
    refine TR.skip ?_
    refine NX.seq ?_
    refine TR.seq ?_
    refine TR.seq ?_
    refine TR.region ?_
    refine RL.assign rfl rfl rfl ?_
    refine RL.nil ?_
    refine NX.seq ?_
    refine TR.block ?_
    refine TR.loopP (ι := Nat) (fun k => k ≤ xs.length ∧ xs.take k = ys.take k) (fun k => [(0, .slice oa xs.length ca), (1, .slice ob ys.length cb), (5, I k)]) (fun _ => M) (fun _ => F) (fun k => xs.length - k) 0 ⟨Nat.zero_le _, rfl⟩ ⟨rfl, rfl, rfl, trivial⟩ (fun w hw => hw) (fun k hk => ?_)
    refine TR.seq ?_
    refine TR.seq ?_
    refine TR.region ?_
    refine RL.move rfl rfl rfl ?_
    refine RL.move rfl rfl rfl ?_
    refine RL.lenSlice rfl qu_tl22 rfl rfl ?_
    refine RL.bin rfl rfl rfl BinV.lss rfl ?_
    refine RL.nil ?_
    refine NX.seq ?_
    refine TR.cond rfl (fun h2 => ?_) (fun h2 => ?_)
    · skip
      have hk1 : k < xs.length := by simpa using h2
      have hk2 : k < ys.length := by omega
      refine TR.openP (open_arr ha (ints_ne (by omega))) (fun x hx => ?_)
      refine TR.openP (open_arr (.tail _ hb) (ints_ne (by omega))) (fun y hy => ?_)
      subst hx hy
      refine TR.skip ?_
      refine NX.seq ?_
      refine TR.seq ?_
      refine TR.block ?_
      refine TR.seq ?_
      refine TR.sub (E' := [(0, _), (1, _), (5, _), (11, _), (12, _), (13, _), (14, _)]) ⟨rfl, rfl, rfl, rfl, rfl, rfl, rfl, trivial⟩ ?_
      refine TR.draw mixed ?_
      apply AR.more [(0, _), (1, _), (2, _), (3, _), (4, _), (5, _), (6, _), (7, _), (8, _)]
      refine AR.last [0, 1, 2, 3, 4, 5, 6, 7, 8] [0, 1, 2, 3, 4, 5, 6, 7, 8] ⟨QOne.yes rfl rfl rfl (PV.move rfl), QOne.yes rfl rfl rfl (PV.move rfl), QOne.yes rfl rfl rfl (PV.indexAddr qu_tl22 qu_tz3 rfl rfl (by omega) (by omega)), QOne.yes rfl rfl rfl (PV.loadF rfl (fun w K hF => run_loadCell1 (j := (k : Int).toNat * 1) (v := I xs[k]) (hF _ (.tail _ (.head _))) qu_ts3 (by simp [hk1]))), QOne.yes rfl rfl rfl (PV.move rfl), QOne.yes rfl rfl rfl (PV.move rfl), QOne.yes rfl rfl rfl (PV.indexAddr qu_tl22 qu_tz3 rfl rfl (by omega) (by omega)), QOne.yes rfl rfl rfl (PV.loadF rfl (fun w K hF => run_loadCell1 (j := (k : Int).toNat * 1) (v := I ys[k]) (hF _ (.head _)) qu_ts3 (by simp [hk2]))), QOne.yes rfl rfl rfl (PV.bin rfl rfl BinV.neq), trivial⟩ rfl rfl rfl ?_
      refine NX.sub (E' := [(0, _), (1, _), (5, _), (11, _), (12, _), (13, _), (14, _), (17, _), (18, _), (19, _), (20, _), (21, _), (22, _), (23, _), (24, _), (25, _)]) ⟨rfl, rfl, rfl, rfl, rfl, rfl, rfl, rfl, rfl, rfl, rfl, rfl, rfl, rfl, rfl, rfl, trivial⟩ ?_
      refine NX.seq ?_
      refine TR.cond rfl (fun h3 => ?_) (fun h3 => ?_)
      · skip
        refine TR.seq ?_
        refine TR.region ?_
        refine RL.assign rfl rfl rfl ?_
        refine RL.nil ?_
        refine NX.seq ?_
        refine TR.ret ?_
        refine NX.retBlock ?_
        refine NX.retThen ?_
        refine NX.retThen ?_
        refine NX.retBlock ?_
        refine NX.retThen ?_
        refine NX.ret1 () rfl rfl (congrArg Value.bool (Eq.symm (decide_eq_false (take_succ_ne hk1 hk2 (by simpa using h3))))) (fun w hw => ?_)
        exact hw.facts (fun φ h => .tail _ (.tail _ (h)))
      · skip
        refine TR.skip ?_
        refine NX.off ?_
        refine NX.seq ?_
        refine TR.region ?_
        refine RL.move rfl rfl rfl ?_
        refine RL.bin rfl rfl rfl (BinV.add _ rfl (by omega) (by omega)) rfl ?_
        refine RL.assign rfl rfl rfl ?_
        refine RL.nil ?_
        refine NX.roundP (k + 1) ⟨by omega, take_step hk.2 hk1 hk2 (by simpa using h3)⟩ (by omega) ⟨rfl, rfl, rfl, trivial⟩ (fun w hw => ?_)
        exact hw.facts (fun φ h => .tail _ (.tail _ (h)))
    · skip
      refine TR.exit ?_
      refine NX.exitThen ?_
      refine NX.exitThen ?_
      refine NX.exitHere ?_
      refine NX.seq ?_
      refine TR.seq ?_
      refine TR.region ?_
      refine RL.assign rfl rfl rfl ?_
      refine RL.nil ?_
      refine NX.seq ?_
      refine TR.ret ?_
      refine NX.ret1 () rfl rfl (congrArg Value.bool (Eq.symm (decide_eq_true (take_all_eq hk.2 (by simpa using h2) hlen)))) (fun w hw => hw)
end Go.Proofs.Ytkdeopioelocnaa

namespace Go.Proofs.Ytkdeopioelocnaa
open Go.GL
set_option linter.unusedVariables false
end Go.Proofs.Ytkdeopioelocnaa

namespace Go.Proofs.Ytkdeopioelocnaa
open Go.GL
set_option linter.unusedVariables false
theorem ra_bs22_1_0 (x0 : Int) : BuildSV Try.prog 22 3 1 [(0, .int .i64 x0)] [.int .i64 x0] := fun w => by kernel_rfl
theorem ra_bs26_1_0 (x00 : Int) (x01 : Int) (x02 : List UInt8) : BuildSV Try.prog 26 78 1 [(0, .agg #[.int .i64 x00, .int .i64 x01, S x02])] [.int .i64 x00, .int .i64 x01, S x02] := fun w => by kernel_rfl
theorem ra_bv78_0_1_2 (x0 : Int) (x1 : Int) (x2 : List UInt8) : BuildV Try.prog 78 [(0, .int .i64 x0), (1, .int .i64 x1), (2, S x2)] (.agg #[.int .i64 x0, .int .i64 x1, S x2]) := fun w => by kernel_rfl
theorem ra_ni22 : noInt Try.prog 22 = true := by kernel_rfl
theorem ra_ni26 : noInt Try.prog 26 = true := by kernel_rfl
theorem ra_ta61 : tyAgg Try.prog 61 2 = true := by kernel_rfl
theorem ra_te3 : tyElem Try.prog 3 1 8 = true := by kernel_rfl
theorem ra_te78 : tyElem Try.prog 78 3 32 = true := by kernel_rfl
theorem ra_tf61_0 : fieldOff Try.prog 61 0 0 = true := by kernel_rfl
theorem ra_tf61_1 : fieldOff Try.prog 61 1 1 = true := by kernel_rfl
theorem ra_tf63_0 : fieldOff Try.prog 63 0 0 = true := by kernel_rfl
theorem ra_tf63_1 : fieldOff Try.prog 63 1 2 = true := by kernel_rfl
theorem ra_tf63_2 : fieldOff Try.prog 63 2 4 = true := by kernel_rfl
theorem ra_tl22 : tySlice Try.prog 22 3 = true := by kernel_rfl
theorem ra_tl26 : tySlice Try.prog 26 78 = true := by kernel_rfl
theorem ra_tl28 : tySlice Try.prog 28 63 = true := by kernel_rfl
theorem ra_ts3 : tyScalar Try.prog 3 = true := by kernel_rfl
theorem ra_ts9 : tyScalar Try.prog 9 = true := by kernel_rfl
theorem ra_tstr9 : tyStr Try.prog 9 = true := by kernel_rfl
theorem ra_tz3 : tySize Try.prog 3 1 = true := by kernel_rfl
theorem ra_tz63 : tySize Try.prog 63 5 = true := by kernel_rfl
theorem rlines_spec {tx : List UInt8} {M : List HP} {F : List Fact} (hl : tx.length ≤ 1099511627776) : Ctr Try.prog 104 [S tx] M F (Option Addr × Nat) (fun z => .slice z.1 (linesL tx).length z.2) (fun _ => M) (fun z => ArrF z.1 (ints (linesL tx)) :: F) := by
  refine Ctr.body Try.func104 rfl rfl ?_
  refine TR.seq ?_
  refine TR.region ?_
  refine RL.assign rfl rfl rfl ?_
  refine RL.nil ?_
  refine NX.seq ?_
  refine TR.seq ?_
  refine TR.region ?_
  refine RL.buildSlice rfl rfl (ra_bs22_1_0 _) rfl (fun b1 => ?_)
  refine RL.weak (fun w hw => St.boxSl (n := 1) (size := 1) rfl (by decide) hw) ?_
  refine RL.assign rfl rfl rfl ?_
  refine RL.nil ?_
  refine NX.seq ?_
  refine TR.seq ?_
  refine TR.seq ?_
  refine TR.region ?_
  refine RL.assign rfl rfl rfl ?_
  refine RL.nil ?_
  refine NX.seq ?_
  refine TR.block ?_
  refine TR.loopP (ι := PbX) (fun x => x.k ≤ tx.length) (fun x => [(0, S tx), (3, .slice x.oa (linesL (tx.take x.k)).length x.c), (4, I (x.k : Nat))]) (fun x => OwnSl 3 1 x.oa (linesL (tx.take x.k)).length x.c (ints (linesL (tx.take x.k))) :: M) (fun x => F) (fun x => tx.length - x.k) ⟨0, [], some ⟨b1, 0, none⟩, 1⟩ (Nat.zero_le _) ⟨rfl, rfl, rfl, trivial⟩ (fun w hw => (hw.to 1 [0] 0 [] rfl)) (fun x hx => ?_)
  refine TR.seq ?_
  refine TR.seq ?_
  refine TR.region ?_
  refine RL.move rfl rfl rfl ?_
  refine RL.move rfl rfl rfl ?_
  refine RL.lenStr rfl ra_tstr9 rfl rfl ?_
  refine RL.bin rfl rfl rfl BinV.lss rfl ?_
  refine RL.nil ?_
  refine NX.seq ?_
  refine TR.cond rfl (fun h2 => ?_) (fun h2 => ?_)
  · skip
    have hk : x.k < tx.length := by have := of_decide_eq_true h2; omega
    have hst := lines_step hk
    have hll := lines_len (tx.take x.k)
    rw [List.length_take] at hll
    refine TR.skip ?_
    refine NX.seq ?_
    refine TR.seq ?_
    refine TR.block ?_
    refine TR.seq ?_
    refine TR.region ?_
    refine RL.move rfl rfl rfl ?_
    refine RL.move rfl rfl rfl ?_
    refine RL.indexS rfl ra_tstr9 rfl rfl (by omega) (List.getElem?_eq_getElem (show ((x.k : Nat) : Int).toNat < tx.length by omega)) rfl ?_
    refine RL.bin rfl rfl rfl BinV.eql rfl ?_
    refine RL.nil ?_
    refine NX.seq ?_
    refine TR.cond rfl (fun h3 => ?_) (fun h3 => ?_)
    · skip
      have h10 : tx[x.k].toNat = 10 := by have := of_decide_eq_true h3; simp only [Int.toNat_natCast] at this; omega
      rw [if_pos h10] at hst
      refine TR.region ?_
      refine RL.move rfl rfl rfl ?_
      refine RL.move rfl rfl rfl ?_
      refine RL.bin rfl rfl rfl (BinV.add ((x.k + 1 : Nat) : Int) (by omega) (by omega) (by omega)) rfl ?_
      refine RL.buildSlice rfl rfl (ra_bs22_1_0 _) rfl (fun b4 => ?_)
      refine RL.ofGV rfl rfl (GV.append (j := 1) ra_tl22 ra_ni22 ra_te3 rfl rfl rfl (src_box (i := 0) rfl rfl rfl) (by omega) (by omega)) (fun y => ?_)
      refine RL.assign rfl rfl rfl ?_
      refine RL.nil ?_
      refine NX.off ?_
      refine NX.seq ?_
      refine TR.region ?_
      refine RL.move rfl rfl rfl ?_
      refine RL.bin rfl rfl rfl (BinV.add _ rfl (by omega) (by omega)) rfl ?_
      refine RL.assign rfl rfl rfl ?_
      refine RL.nil ?_
      refine NX.roundP ⟨x.k + 1, [], y.1, y.2⟩ hk (by show _ - (x.k + 1) < _ - x.k; omega) ⟨rfl, ?_, rfl, trivial⟩ (fun w hw => ?_)
      · show some (Value.slice y.1 ((linesL (tx.take x.k)).length + 1) y.2) = some (Value.slice y.1 (linesL (tx.take (x.k + 1))).length y.2)
        rw [hst, List.length_append]; rfl
      · have h9 := (hw.to 2 [1] 0 [] rfl)
        show St w (OwnSl 3 1 y.1 (linesL (tx.take (x.k + 1))).length y.2 (ints (linesL (tx.take (x.k + 1)))) :: M) F
        rw [hst, List.length_append, show ∀ a b : List Int, ints (a ++ b) = ints a ++ ints b from fun a b => List.map_append]
        exact h9
    · skip
      have h10 : ¬ tx[x.k].toNat = 10 := by have := of_decide_eq_false h3; simp only [Int.toNat_natCast] at this; omega
      rw [if_neg h10, List.append_nil] at hst
      refine TR.skip ?_
      refine NX.off ?_
      refine NX.seq ?_
      refine TR.region ?_
      refine RL.move rfl rfl rfl ?_
      refine RL.bin rfl rfl rfl (BinV.add _ rfl (by omega) (by omega)) rfl ?_
      refine RL.assign rfl rfl rfl ?_
      refine RL.nil ?_
      refine NX.roundP ⟨x.k + 1, [], x.oa, x.c⟩ hk (by show _ - (x.k + 1) < _ - x.k; omega) ⟨rfl, ?_, rfl, trivial⟩ (fun w hw => ?_)
      · show some (Value.slice x.oa (linesL (tx.take x.k)).length x.c) = some (Value.slice x.oa (linesL (tx.take (x.k + 1))).length x.c)
        rw [hst]
      · have h9 := (hw.to 1 [0] 0 [] rfl)
        show St w (OwnSl 3 1 x.oa (linesL (tx.take (x.k + 1))).length x.c (ints (linesL (tx.take (x.k + 1)))) :: M) F
        rw [hst]
        exact h9
  · skip
    have hk2 : x.k = tx.length := by have := of_decide_eq_false h2; have := hx; omega
    refine TR.exit ?_
    refine NX.exitThen ?_
    refine NX.exitThen ?_
    refine NX.exitHere ?_
    refine NX.seq ?_
    refine TR.seq ?_
    refine TR.region ?_
    refine RL.move rfl rfl rfl ?_
    refine RL.assign rfl rfl rfl ?_
    refine RL.nil ?_
    refine NX.seq ?_
    refine TR.ret ?_
    rw [hk2, List.take_length]
    exact NX.ret1 (x.oa, x.c) rfl rfl rfl (fun w hw => ((hw.to 1 [0] 0 [] rfl) : St w _ _).keepSl)
set_option maxHeartbeats 1000000 in
theorem roffset_spec {tx : List UInt8} {q : Po} {M : List HP} {F : List Fact} (hl : tx.length ≤ 1099511627776) : Ctr Try.prog 94 [S tx, .agg (q.c).toArray] M F Unit (fun _ => .tuple #[I (offM tx q).1, I (offM tx q).2]) (fun _ => M) (fun _ => F) := by
  refine Ctr.body Try.func94 rfl rfl ?_
  refine TR.seq ?_
  refine TR.region ?_
  refine RL.boxA rfl rfl rfl (fun b1 => ?_)
  refine RL.assign rfl rfl rfl ?_
  refine RL.assign rfl rfl rfl ?_
  refine RL.nil ?_
  refine NX.seq ?_
  refine TR.seq ?_
  refine TR.region ?_
  refine RL.move rfl rfl rfl ?_
  refine RL.call rfl rfl Try.call104 rfl (rlines_spec hl) (fun z => ?_)
  refine RL.assign rfl rfl rfl ?_
  refine RL.nil ?_
  refine NX.seq ?_
  refine TR.seq ?_
  refine TR.seq ?_
  refine TR.region ?_
  refine RL.fieldAddr rfl ra_tf61_0 rfl rfl ?_
  refine RL.load1 0 rfl ra_ts3 rfl rfl rfl rfl ?_
  refine RL.bin rfl rfl rfl BinV.lss rfl ?_
  refine RL.move rfl rfl rfl ?_
  refine RL.part (fun h2 => ?_) (fun h2 => ?_)
  · skip
    have hbad : q.l < 0 ∨ q.u < 0 ∨ ((linesL tx).length : Int) ≤ q.l := .inl (of_decide_eq_true h2)
    refine RL.skip rfl rfl rfl ?_
    refine RL.skip rfl rfl rfl ?_
    refine RL.skip rfl rfl rfl ?_
    refine RL.pickT rfl rfl rfl rfl ?_
    refine RL.move rfl rfl rfl ?_
    refine RL.skip rfl rfl rfl ?_
    refine RL.skip rfl rfl rfl ?_
    refine RL.skip rfl rfl rfl ?_
    refine RL.skip rfl rfl rfl ?_
    refine RL.skip rfl rfl rfl ?_
    refine RL.pickT rfl rfl rfl rfl ?_
    refine RL.nil ?_
    refine NX.seq ?_
    refine TR.condT rfl ?_
    refine TR.seq ?_
    refine TR.region ?_
    refine RL.assign rfl rfl rfl ?_
    refine RL.assign rfl rfl rfl ?_
    refine RL.nil ?_
    refine NX.seq ?_
    refine TR.ret ?_
    refine NX.retThen ?_
    exact NX.ret2 () rfl rfl rfl (by rw [show offM tx q = (0, 5) from (off_ref tx q).trans (if_pos hbad)]) (fun w hw => (hw.to 1 [] 1 [] rfl))
  · skip
    have hb1 := of_decide_eq_false h2
    refine RL.fieldAddr rfl ra_tf61_1 rfl rfl ?_
    refine RL.load1 0 rfl ra_ts3 rfl rfl rfl rfl ?_
    refine RL.bin rfl rfl rfl BinV.lss rfl ?_
    refine RL.pickF rfl rfl rfl rfl ?_
    refine RL.move rfl rfl rfl ?_
    refine RL.part (fun h3 => ?_) (fun h3 => ?_)
    · skip
      have hbad : q.l < 0 ∨ q.u < 0 ∨ ((linesL tx).length : Int) ≤ q.l := .inr (.inl (of_decide_eq_true h3))
      refine RL.skip rfl rfl rfl ?_
      refine RL.skip rfl rfl rfl ?_
      refine RL.skip rfl rfl rfl ?_
      refine RL.skip rfl rfl rfl ?_
      refine RL.skip rfl rfl rfl ?_
      refine RL.pickT rfl rfl rfl rfl ?_
      refine RL.nil ?_
      refine NX.seq ?_
      refine TR.condT rfl ?_
      refine TR.seq ?_
      refine TR.region ?_
      refine RL.assign rfl rfl rfl ?_
      refine RL.assign rfl rfl rfl ?_
      refine RL.nil ?_
      refine NX.seq ?_
      refine TR.ret ?_
      refine NX.retThen ?_
      exact NX.ret2 () rfl rfl rfl (by rw [show offM tx q = (0, 5) from (off_ref tx q).trans (if_pos hbad)]) (fun w hw => (hw.to 1 [] 1 [] rfl))
    · skip
      have hb2 := of_decide_eq_false h3
      refine RL.fieldAddr rfl ra_tf61_0 rfl rfl ?_
      refine RL.load1 0 rfl ra_ts3 rfl rfl rfl rfl ?_
      refine RL.move rfl rfl rfl ?_
      refine RL.lenSlice rfl ra_tl22 rfl rfl ?_
      refine RL.bin rfl rfl rfl BinV.geq rfl ?_
      refine RL.pickF rfl rfl rfl rfl ?_
      refine RL.nil ?_
      refine NX.seq ?_
      refine TR.cond rfl (fun h4 => ?_) (fun h4 => ?_)
      · skip
        have hbad : q.l < 0 ∨ q.u < 0 ∨ ((linesL tx).length : Int) ≤ q.l := .inr (.inr (by have := of_decide_eq_true h4; omega))
        refine TR.seq ?_
        refine TR.region ?_
        refine RL.assign rfl rfl rfl ?_
        refine RL.assign rfl rfl rfl ?_
        refine RL.nil ?_
        refine NX.seq ?_
        refine TR.ret ?_
        refine NX.retThen ?_
        exact NX.ret2 () rfl rfl rfl (by rw [show offM tx q = (0, 5) from (off_ref tx q).trans (if_pos hbad)]) (fun w hw => (hw.to 1 [] 1 [] rfl))
      · skip
        have hb3 : q.l < ((linesL tx).length : Int) := by have := of_decide_eq_false h4; omega
        have hok : ¬ (q.l < 0 ∨ q.u < 0 ∨ ((linesL tx).length : Int) ≤ q.l) := by omega
        have hoff := (off_ref tx q).trans (if_neg hok)
        obtain ⟨g1, g2, g3, _, _⟩ := line_at (s := tx) (j := q.l.toNat) (by omega)
        have hlt := lines_len tx
        obtain ⟨a, ha⟩ : ∃ n : Nat, (linesL tx).getD q.l.toNat 0 = n := ⟨((linesL tx).getD q.l.toNat 0).toNat, by omega⟩
        obtain ⟨e, he⟩ : ∃ n : Nat, lineEnd tx q.l.toNat = n := ⟨(lineEnd tx q.l.toNat).toNat, by omega⟩
        rw [ha] at g1 g2; rw [he] at g2 g3
        rw [ha, he] at hoff
        have hsl : (cutI tx (a : Int) (e : Int)).length = e - a := by unfold cutI; rw [List.length_drop, List.length_take]; omega
        refine TR.openP (open_arr (oa := z.1) (xs := ints (linesL tx)) (.head _) (ints_ne (by omega))) (fun pl hpl => ?_)
        refine TR.skip ?_
        refine NX.seq ?_
        refine TR.seq ?_
        refine TR.region ?_
        refine RL.move rfl rfl rfl ?_
        refine RL.lenStr rfl ra_tstr9 rfl rfl ?_
        refine RL.assign rfl rfl rfl ?_
        refine RL.nil ?_
        refine NX.seq ?_
        refine TR.cut (ι := Unit) (fun _ => [(0, S tx), (3, .pointer (some ⟨b1, 0, none⟩)), (6, .slice z.1 (linesL tx).length z.2), (7, I (e : Nat))]) (fun _ => Box b1 61 q.c :: M) (fun _ => CellsF pl.1 pl.2 (ints (linesL tx)) :: ArrF z.1 (ints (linesL tx)) :: F) ?_ (fun _ => ?_)
        · skip
          refine TR.seq ?_
          refine TR.region ?_
          refine RL.fieldAddr rfl ra_tf61_0 rfl rfl ?_
          refine RL.load1 0 rfl ra_ts3 rfl rfl rfl rfl ?_
          refine RL.bin rfl rfl rfl (BinV.add _ rfl (by omega) (by omega)) rfl ?_
          refine RL.move rfl rfl rfl ?_
          refine RL.lenSlice rfl ra_tl22 rfl rfl ?_
          refine RL.bin rfl rfl rfl BinV.lss rfl ?_
          refine RL.nil ?_
          refine NX.seq ?_
          refine TR.cond rfl (fun h5 => ?_) (fun h5 => ?_)
          · skip
            have h34 := of_decide_eq_true h5
            have he7 : (linesL tx).getD (q.l + 1).toNat 0 = (e : Int) + 1 := by
              rw [← he]; unfold lineEnd; rw [if_pos (by omega), show (q.l + 1).toNat = q.l.toNat + 1 from by omega]; omega
            refine TR.region ?_
            refine RL.move rfl rfl rfl ?_
            refine RL.fieldAddr rfl ra_tf61_0 rfl rfl ?_
            refine RL.load1 0 rfl ra_ts3 rfl rfl rfl rfl ?_
            refine RL.bin rfl rfl rfl (BinV.add _ rfl (by omega) (by omega)) rfl ?_
            refine RL.indexAddr rfl ra_tl22 ra_tz3 (congrArg (fun a => some (Value.slice a _ _)) hpl) rfl (by omega) (by omega) rfl ?_
            refine RL.loadF rfl rfl (fun w K hF => run_loadCell1 (j := (q.l + 1).toNat * 1) (v := I ((e : Int) + 1)) (hF (CellsF pl.1 pl.2 (ints (linesL tx))) (.head _)) ra_ts3 (by rw [Nat.mul_one, ← he7]; exact ints_getD (by omega))) rfl ?_
            refine RL.bin rfl rfl rfl (BinV.sub (e : Int) (by omega) (by omega) (by omega)) rfl ?_
            refine RL.assign rfl rfl rfl ?_
            refine RL.nil ?_
            exact NX.meet () ⟨rfl, rfl, rfl, rfl, trivial⟩ (fun w hw => (hw.to 1 [0] 2 [0, 1] rfl))
          · skip
            have h34 := of_decide_eq_false h5
            have he7 : (e : Int) = (tx.length : Int) := by
              rw [← he]; unfold lineEnd; rw [if_neg (by omega)]
            refine TR.skip ?_
            exact NX.meet () ⟨rfl, rfl, rfl, congrArg (fun z => some (I z)) he7.symm, trivial⟩ (fun w hw => (hw.to 1 [0] 2 [0, 1] rfl))
        refine TR.seq ?_
        refine TR.seq ?_
        refine TR.sub (E' := [(0, _), (3, _), (6, _), (7, _)]) ⟨rfl, rfl, rfl, rfl, trivial⟩ ?_
        refine TR.draw mixed ?_
        apply AR.more [(0, _), (1, _), (2, _), (3, _), (4, _), (5, _), (6, _), (7, _), (8, _), (9, _)]
        refine AR.eff [0, 1, 2, 3, 4, 5, 6, 7, 8, 9] 10 [0, 1, 2, 3, 4, 5, 6, 7, 8, 9, 10, 11] ⟨QOne.yes rfl rfl rfl (PV.fieldAddr ra_tf61_1 rfl), QOne.yes rfl rfl rfl (PV.load1 0 ra_ts3 rfl rfl rfl), QOne.yes rfl rfl rfl (PV.move rfl), QOne.yes rfl rfl rfl (PV.move rfl), QOne.yes rfl rfl rfl (PV.fieldAddr ra_tf61_0 rfl), QOne.yes rfl rfl rfl (PV.load1 0 ra_ts3 rfl rfl rfl), QOne.yes rfl rfl rfl (PV.indexAddr ra_tl22 ra_tz3 (congrArg (fun a => some (Value.slice a _ _)) hpl) rfl (by omega) (by omega)), QOne.yes rfl rfl rfl (PV.loadF rfl (fun w K hF => run_loadCell1 (j := q.l.toNat * 1) (v := I (a : Int)) (hF (CellsF pl.1 pl.2 (ints (linesL tx))) (.head _)) ra_ts3 (by rw [Nat.mul_one, ← ha]; exact ints_getD (by omega)))), QOne.yes rfl rfl rfl (PV.move rfl), QOne.yes rfl rfl rfl (PV.sliceS ra_tstr9 rfl rfl rfl (by omega) (by omega) (by omega)), trivial⟩ rfl rfl rfl rfl rfl rfl rfl (EV.call rfl Try.call76 (unitsr_spec (tx := (cutI tx (a : Int) (e : Int))) (by rw [hsl]; omega))) (fun _ => ?_)
        refine AR.done [9, 2, 7, 8, 6, 3, 5, 4] rfl ?_
        apply AR.more [(11, _)]
        refine AR.last [0, 1, 11] [0, 1, 2, 3, 4, 5, 6, 7, 8, 9, 10, 11] ⟨QOne.yes rfl rfl rfl (PV.fieldAddr ra_tf61_1 rfl), QOne.yes rfl rfl rfl (PV.load1 0 ra_ts3 rfl rfl rfl), QOne.yes rfl rfl rfl (PV.bin rfl rfl BinV.gtr), trivial⟩ rfl rfl rfl ?_
        refine NX.sub (E' := [(0, _), (3, _), (6, _), (7, _), (53, _)]) ⟨rfl, rfl, rfl, rfl, rfl, trivial⟩ ?_
        refine NX.seq ?_
        refine TR.cond rfl (fun h6 => ?_) (fun h6 => ?_)
        · skip
          have hfar := of_decide_eq_true h6
          refine TR.seq ?_
          refine TR.region ?_
          refine RL.assign rfl rfl rfl ?_
          refine RL.assign rfl rfl rfl ?_
          refine RL.nil ?_
          refine NX.seq ?_
          refine TR.ret ?_
          refine NX.retThen ?_
          exact NX.ret2 () rfl rfl rfl (by rw [hoff.trans (if_pos hfar)]) (fun w hw => (hw.to 1 [] 2 [] rfl))
        · skip
          have hoff2 := hoff.trans (if_neg (of_decide_eq_false h6))
          have hbl := bords_len _ (l := (cutI tx (a : Int) (e : Int))) (i := 0) (Nat.le_refl _)
          refine TR.skip ?_
          refine NX.seq ?_
          refine TR.seq ?_
          refine TR.region ?_
          refine RL.move rfl rfl rfl ?_
          refine RL.move rfl rfl rfl ?_
          refine RL.fieldAddr rfl ra_tf61_0 rfl rfl ?_
          refine RL.load1 0 rfl ra_ts3 rfl rfl rfl rfl ?_
          refine RL.indexAddr rfl ra_tl22 ra_tz3 (congrArg (fun a => some (Value.slice a _ _)) hpl) rfl (by omega) (by omega) rfl ?_
          refine RL.loadF rfl rfl (fun w K hF => run_loadCell1 (j := q.l.toNat * 1) (v := I (a : Int)) (hF (CellsF pl.1 pl.2 (ints (linesL tx))) (.head _)) ra_ts3 (by rw [Nat.mul_one, ← ha]; exact ints_getD (by omega))) rfl ?_
          refine RL.move rfl rfl rfl ?_
          refine RL.sliceS rfl ra_tstr9 rfl rfl rfl (by omega) (by omega) (by omega) rfl ?_
          refine RL.call rfl rfl Try.call75 rfl (borders_spec (tx := (cutI tx (a : Int) (e : Int))) (by rw [hsl]; omega)) (fun zb => ?_)
          refine RL.assign rfl rfl rfl ?_
          refine RL.nil ?_
          refine NX.seq ?_
          refine TR.seq ?_
          refine TR.seq ?_
          refine TR.region ?_
          refine RL.assign rfl rfl rfl ?_
          refine RL.nil ?_
          refine NX.seq ?_
          refine TR.block ?_
          refine TR.loopP (ι := Nat) (fun k => k ≤ (bords (cutI tx (a : Int) (e : Int)) 0).length ∧ ∀ j, j < k → ∀ (h : j < (bords (cutI tx (a : Int) (e : Int)) 0).length), decide (unitsL ((cutI tx (a : Int) (e : Int)).take ((bords (cutI tx (a : Int) (e : Int)) 0)[j]).toNat) = q.u) = false) (fun k => [(0, S tx), (3, .pointer (some ⟨b1, 0, none⟩)), (6, .slice z.1 (linesL tx).length z.2), (7, I (e : Nat)), (8, .slice zb.1 (bords (cutI tx (a : Int) (e : Int)) 0).length zb.2), (9, I (k : Nat))]) (fun k => Box b1 61 q.c :: M) (fun k => ArrF zb.1 (ints (bords (cutI tx (a : Int) (e : Int)) 0)) :: CellsF pl.1 pl.2 (ints (linesL tx)) :: F) (fun k => (bords (cutI tx (a : Int) (e : Int)) 0).length - k) 0 ⟨Nat.zero_le _, fun j h => absurd h (Nat.not_lt_zero j)⟩ ⟨rfl, rfl, rfl, rfl, rfl, rfl, trivial⟩ (fun w hw => (hw.to 1 [0] 3 [0, 1] rfl)) (fun k hx => ?_)
          refine TR.seq ?_
          refine TR.seq ?_
          refine TR.region ?_
          refine RL.move rfl rfl rfl ?_
          refine RL.move rfl rfl rfl ?_
          refine RL.lenSlice rfl ra_tl22 rfl rfl ?_
          refine RL.bin rfl rfl rfl BinV.lss rfl ?_
          refine RL.nil ?_
          refine NX.seq ?_
          refine TR.cond rfl (fun h7 => ?_) (fun h7 => ?_)
          · skip
            have hkb : k < (bords (cutI tx (a : Int) (e : Int)) 0).length := by have := of_decide_eq_true h7; omega
            have hbi := bords_in _ (Nat.le_refl _) (List.getElem_mem hkb)
            rw [hsl] at hbi
            have hst := seg_take (s := tx) (a := a) (e := e) hbi.1 (by omega)
            have hk2 : ∀ j (h : j < k), decide (unitsL ((cutI tx (a : Int) (e : Int)).take ((bords (cutI tx (a : Int) (e : Int)) 0)[j]).toNat) = q.u) = false := fun j h => hx.2 j h (by omega)
            refine TR.openP (open_arr (oa := zb.1) (xs := ints (bords (cutI tx (a : Int) (e : Int)) 0)) (.head _) (ints_ne (bords_ne _ _))) (fun pb hpb => ?_)
            refine TR.skip ?_
            refine NX.seq ?_
            refine TR.seq ?_
            refine TR.block ?_
            refine TR.seq ?_
            refine TR.sub (E' := [(0, _), (3, _), (6, _), (7, _), (8, _), (9, _), (63, _), (64, _), (65, _), (66, _)]) ⟨rfl, rfl, rfl, rfl, rfl, rfl, rfl, rfl, rfl, rfl, trivial⟩ ?_
            refine TR.draw mixed ?_
            apply AR.more [(0, _), (1, _), (2, _), (3, _), (4, _), (5, _), (6, _), (7, _), (8, _), (9, _), (10, _), (11, _), (12, _), (13, _), (14, _), (15, _), (16, _), (18, _), (19, _)]
            refine AR.eff [0, 1, 2, 3, 4, 5, 6, 7, 8, 9, 10, 11, 12, 13, 14, 15, 16, 18, 19] 17 [0, 1, 2, 3, 4, 5, 6, 7, 8, 9, 10, 11, 12, 13, 14, 15, 16, 17, 18, 19, 20] ⟨QOne.yes rfl rfl rfl (PV.move rfl), QOne.yes rfl rfl rfl (PV.move rfl), QOne.yes rfl rfl rfl (PV.fieldAddr ra_tf61_0 rfl), QOne.yes rfl rfl rfl (PV.load1 0 ra_ts3 rfl rfl rfl), QOne.yes rfl rfl rfl (PV.indexAddr ra_tl22 ra_tz3 (congrArg (fun a => some (Value.slice a _ _)) hpl) rfl (by omega) (by omega)), QOne.yes rfl rfl rfl (PV.loadF rfl (fun w K hF => run_loadCell1 (j := q.l.toNat * 1) (v := I (a : Int)) (hF (CellsF pl.1 pl.2 (ints (linesL tx))) (.tail _ (.tail _ (.head _)))) ra_ts3 (by rw [Nat.mul_one, ← ha]; exact ints_getD (by omega)))), QOne.yes rfl rfl rfl (PV.move rfl), QOne.yes rfl rfl rfl (PV.fieldAddr ra_tf61_0 rfl), QOne.yes rfl rfl rfl (PV.load1 0 ra_ts3 rfl rfl rfl), QOne.yes rfl rfl rfl (PV.indexAddr ra_tl22 ra_tz3 (congrArg (fun a => some (Value.slice a _ _)) hpl) rfl (by omega) (by omega)), QOne.yes rfl rfl rfl (PV.loadF rfl (fun w K hF => run_loadCell1 (j := q.l.toNat * 1) (v := I (a : Int)) (hF (CellsF pl.1 pl.2 (ints (linesL tx))) (.tail _ (.tail _ (.head _)))) ra_ts3 (by rw [Nat.mul_one, ← ha]; exact ints_getD (by omega)))), QOne.yes rfl rfl rfl (PV.move rfl), QOne.yes rfl rfl rfl (PV.move rfl), QOne.yes rfl rfl rfl (PV.indexAddr ra_tl22 ra_tz3 (congrArg (fun a => some (Value.slice a _ _)) hpb) rfl (by omega) (by omega)), QOne.yes rfl rfl rfl (PV.loadF rfl (fun w K hF => run_loadCell1 (j := ((k : Nat) : Int).toNat * 1) (v := I (bords (cutI tx (a : Int) (e : Int)) 0)[k]) (hF (CellsF pb.1 pb.2 (ints (bords (cutI tx (a : Int) (e : Int)) 0))) (.head _)) ra_ts3 (by rw [Nat.mul_one, Int.toNat_natCast]; exact ints_get hkb))), QOne.yes rfl rfl rfl (PV.bin rfl rfl (BinV.add _ rfl (by omega) (by omega))), QOne.yes rfl rfl rfl (PV.sliceS ra_tstr9 rfl rfl rfl (by omega) (by omega) (by omega)), QOne.yes rfl rfl rfl (PV.fieldAddr ra_tf61_1 rfl), QOne.yes rfl rfl rfl (PV.load1 0 ra_ts3 rfl rfl rfl), trivial⟩ rfl rfl rfl rfl rfl rfl rfl (EV.call rfl Try.call76 (unitsr_spec (tx := (tx.take ((a : Int) + (bords (cutI tx (a : Int) (e : Int)) 0)[k]).toNat).drop ((a : Int)).toNat) (by rw [List.length_drop, List.length_take]; omega))) (fun _ => ?_)
            refine AR.done [16, 0, 5, 15, 10, 14, 4, 1, 3, 13, 9, 6, 8, 11, 12, 2, 7] rfl ?_
            apply AR.more [(20, _)]
            refine AR.last [18, 19, 20] [0, 1, 2, 3, 4, 5, 6, 7, 8, 9, 10, 11, 12, 13, 14, 15, 16, 17, 18, 19, 20] ⟨QOne.yes rfl rfl rfl (PV.fieldAddr ra_tf61_1 rfl), QOne.yes rfl rfl rfl (PV.load1 0 ra_ts3 rfl rfl rfl), QOne.yes rfl rfl rfl (PV.bin rfl rfl BinV.eql), trivial⟩ rfl rfl rfl ?_
            refine NX.sub (E' := [(0, _), (3, _), (6, _), (7, _), (8, _), (9, _), (63, _), (64, _), (65, _), (66, _), (69, _), (70, _), (71, _), (72, _), (73, _), (74, _), (75, _), (76, _), (77, _), (78, _), (79, _), (80, _), (81, _), (82, _), (83, _), (84, _), (85, _), (86, _), (87, _), (88, _), (89, _)]) ⟨rfl, rfl, rfl, rfl, rfl, rfl, rfl, rfl, rfl, rfl, rfl, rfl, rfl, rfl, rfl, rfl, rfl, rfl, rfl, rfl, rfl, rfl, rfl, rfl, rfl, rfl, rfl, rfl, rfl, rfl, rfl, trivial⟩ ?_
            refine NX.seq ?_
            refine TR.cond rfl (fun h8 => ?_) (fun h8 => ?_)
            · skip
              have hit : unitsL ((cutI tx (a : Int) (e : Int)).take ((bords (cutI tx (a : Int) (e : Int)) 0)[k]).toNat) = q.u := by have := of_decide_eq_true h8; rw [hst] at this; exact this
              refine TR.seq ?_
              refine TR.sub (E' := [(0, _), (3, _), (6, _), (7, _), (8, _), (9, _), (63, _), (64, _), (65, _), (66, _), (69, _), (70, _), (71, _), (72, _), (73, _), (74, _), (75, _), (76, _), (77, _), (78, _), (79, _), (80, _), (81, _), (82, _), (83, _), (84, _), (85, _), (86, _), (87, _), (88, _), (89, _)]) ⟨rfl, rfl, rfl, rfl, rfl, rfl, rfl, rfl, rfl, rfl, rfl, rfl, rfl, rfl, rfl, rfl, rfl, rfl, rfl, rfl, rfl, rfl, rfl, rfl, rfl, rfl, rfl, rfl, rfl, rfl, rfl, trivial⟩ ?_
              refine TR.draw mixed ?_
              apply AR.more [(0, _), (1, _), (2, _), (3, _), (4, _), (5, _), (6, _), (7, _), (8, _), (9, _), (10, _), (11, _)]
              refine AR.last [0, 1, 2, 3, 4, 5, 6, 7, 8, 9, 10, 11] [0, 1, 2, 3, 4, 5, 6, 7, 8, 9, 10, 11] ⟨QOne.yes rfl rfl rfl (PV.move rfl), QOne.yes rfl rfl rfl (PV.fieldAddr ra_tf61_0 rfl), QOne.yes rfl rfl rfl (PV.load1 0 ra_ts3 rfl rfl rfl), QOne.yes rfl rfl rfl (PV.indexAddr ra_tl22 ra_tz3 (congrArg (fun a => some (Value.slice a _ _)) hpl) rfl (by omega) (by omega)), QOne.yes rfl rfl rfl (PV.loadF rfl (fun w K hF => run_loadCell1 (j := q.l.toNat * 1) (v := I (a : Int)) (hF (CellsF pl.1 pl.2 (ints (linesL tx))) (.tail _ (.tail _ (.head _)))) ra_ts3 (by rw [Nat.mul_one, ← ha]; exact ints_getD (by omega)))), QOne.yes rfl rfl rfl (PV.move rfl), QOne.yes rfl rfl rfl (PV.move rfl), QOne.yes rfl rfl rfl (PV.indexAddr ra_tl22 ra_tz3 (congrArg (fun a => some (Value.slice a _ _)) hpb) rfl (by omega) (by omega)), QOne.yes rfl rfl rfl (PV.loadF rfl (fun w K hF => run_loadCell1 (j := ((k : Nat) : Int).toNat * 1) (v := I (bords (cutI tx (a : Int) (e : Int)) 0)[k]) (hF (CellsF pb.1 pb.2 (ints (bords (cutI tx (a : Int) (e : Int)) 0))) (.head _)) ra_ts3 (by rw [Nat.mul_one, Int.toNat_natCast]; exact ints_get hkb))), QOne.yes rfl rfl rfl (PV.bin rfl rfl (BinV.add _ rfl (by omega) (by omega))), QOne.yes rfl rfl rfl (PV.assign rfl), QOne.yes rfl rfl rfl (PV.assign rfl), trivial⟩ rfl rfl rfl ?_
              refine NX.sub (E' := [(0, _), (3, _), (4, _), (5, _), (6, _), (7, _), (8, _), (9, _), (63, _), (64, _), (65, _), (66, _), (69, _), (70, _), (71, _), (72, _), (73, _), (74, _), (75, _), (76, _), (77, _), (78, _), (79, _), (80, _), (81, _), (82, _), (83, _), (84, _), (85, _), (86, _), (87, _), (88, _), (89, _), (90, _), (91, _), (92, _), (93, _), (94, _), (95, _), (96, _), (97, _), (98, _), (99, _)]) ⟨rfl, rfl, rfl, rfl, rfl, rfl, rfl, rfl, rfl, rfl, rfl, rfl, rfl, rfl, rfl, rfl, rfl, rfl, rfl, rfl, rfl, rfl, rfl, rfl, rfl, rfl, rfl, rfl, rfl, rfl, rfl, rfl, rfl, rfl, rfl, rfl, rfl, rfl, rfl, rfl, rfl, rfl, rfl, trivial⟩ ?_
              refine NX.seq ?_
              refine TR.ret ?_
              refine NX.retBlock ?_
              refine NX.retThen ?_
              refine NX.retThen ?_
              refine NX.retBlock ?_
              refine NX.retThen ?_
              exact NX.ret2 () rfl rfl rfl (by rw [hoff2, find_at hkb hk2 (decide_eq_true hit)]) (fun w hw => (hw.to 1 [] 3 [] rfl))
            · skip
              have hno : ¬ unitsL ((cutI tx (a : Int) (e : Int)).take ((bords (cutI tx (a : Int) (e : Int)) 0)[k]).toNat) = q.u := by have := of_decide_eq_false h8; rw [hst] at this; exact this
              refine TR.skip ?_
              refine NX.off ?_
              refine NX.seq ?_
              refine TR.region ?_
              refine RL.move rfl rfl rfl ?_
              refine RL.bin rfl rfl rfl (BinV.add _ rfl (by omega) (by omega)) rfl ?_
              refine RL.assign rfl rfl rfl ?_
              refine RL.nil ?_
              refine NX.roundP (k + 1) ⟨hkb, fun j hj h => by rcases Nat.lt_succ_iff_lt_or_eq.1 hj with h5 | rfl; exact hk2 j h5; exact decide_eq_false hno⟩ (by omega) ⟨rfl, rfl, rfl, rfl, rfl, rfl, trivial⟩ (fun w hw => (hw.to 1 [0] 3 [1, 2] rfl))
          · skip
            have hkb : k = (bords (cutI tx (a : Int) (e : Int)) 0).length := by have := of_decide_eq_false h7; have := hx.1; omega
            refine TR.exit ?_
            refine NX.exitThen ?_
            refine NX.exitThen ?_
            refine NX.exitHere ?_
            refine NX.seq ?_
            refine TR.seq ?_
            refine TR.region ?_
            refine RL.assign rfl rfl rfl ?_
            refine RL.assign rfl rfl rfl ?_
            refine RL.nil ?_
            refine NX.seq ?_
            refine TR.ret ?_
            exact NX.ret2 () rfl rfl rfl (by rw [hoff2, find_no (fun j hj => hx.2 j (by omega) hj)]) (fun w hw => (hw.to 1 [] 2 [] rfl))
theorem rbytes_spec {tx : List UInt8} {l : List PE} {oa : Option Addr} {ca : Nat} {M : List HP} {F : List Fact} (ha : ArrF oa (peC l) ∈ F) (hl : tx.length ≤ 1099511627776) (hll : l.length ≤ 4611686018427387904) : Ctr Try.prog 82 [S tx, .slice oa l.length ca] M F RdX (fun z => .tuple #[.slice z.oa (posM tx l).1.length z.c, I (posM tx l).2]) (fun _ => M) (fun z => ArrF z.oa (edC (posM tx l).1) :: F) := by
  refine Ctr.body Try.func82 rfl rfl ?_
  refine TR.seq ?_
  refine TR.region ?_
  refine RL.assign rfl rfl rfl ?_
  refine RL.assign rfl rfl rfl ?_
  refine RL.nil ?_
  refine NX.seq ?_
  refine TR.seq ?_
  refine TR.seq ?_
  refine TR.region ?_
  refine RL.move rfl rfl rfl ?_
  refine RL.lenSlice rfl ra_tl28 rfl rfl ?_
  refine RL.bin rfl rfl rfl BinV.gtr rfl ?_
  refine RL.nil ?_
  refine NX.seq ?_
  refine TR.cond rfl (fun h1 => ?_) (fun h1 => ?_)
  · skip
    have hbig : 64 < l.length := by have := of_decide_eq_true h1; omega
    refine TR.seq ?_
    refine TR.region ?_
    refine RL.assign rfl rfl rfl ?_
    refine RL.assign rfl rfl rfl ?_
    refine RL.nil ?_
    refine NX.seq ?_
    refine TR.ret ?_
    refine NX.retThen ?_
    have hpm : posM tx l = ([], 4) := if_pos hbig
    refine NX.ret2 (⟨none, 0⟩ : RdX) rfl rfl rfl (by rw [hpm]; rfl) (fun w hw => ?_)
    rw [hpm]
    exact ((hw.to 0 [] 0 [] rfl) : St w M F).arr0
  · skip
    have hbig : ¬ 64 < l.length := by have := of_decide_eq_false h1; omega
    refine TR.skip ?_
    refine NX.seq ?_
    refine TR.seq ?_
    refine TR.region ?_
    refine RL.assign rfl rfl rfl ?_
    refine RL.weak (fun w hw => OwnSl.nil_new 78 3 hw) ?_
    refine RL.nil ?_
    refine NX.seq ?_
    refine TR.seq ?_
    refine TR.seq ?_
    refine TR.region ?_
    refine RL.assign rfl rfl rfl ?_
    refine RL.nil ?_
    refine NX.seq ?_
    refine TR.block ?_
    refine TR.loopP (ι := PbX) (fun x => x.k ≤ l.length ∧ posGo tx (l.drop x.k) x.es = posGo tx l [] ∧ x.es.length = x.k) (fun x => [(0, S tx), (1, .slice oa l.length ca), (6, .slice x.oa x.es.length x.c), (7, I (x.k : Nat))]) (fun x => OwnSl 78 3 x.oa x.es.length x.c (edC x.es) :: M) (fun x => F) (fun x => l.length - x.k) ⟨0, [], none, 0⟩ ⟨Nat.zero_le _, rfl, rfl⟩ ⟨rfl, rfl, rfl, rfl, trivial⟩ (fun w hw => (hw.to 1 [0] 0 [] rfl)) (fun x hx => ?_)
    refine TR.seq ?_
    refine TR.seq ?_
    refine TR.region ?_
    refine RL.move rfl rfl rfl ?_
    refine RL.move rfl rfl rfl ?_
    refine RL.lenSlice rfl ra_tl28 rfl rfl ?_
    refine RL.bin rfl rfl rfl BinV.lss rfl ?_
    refine RL.nil ?_
    refine NX.seq ?_
    refine TR.cond rfl (fun h2 => ?_) (fun h2 => ?_)
    · skip
      have hk : x.k < l.length := by have := of_decide_eq_true h2; omega
      have hdk := List.drop_eq_getElem_cons hk
      have ho1 := offM_in tx l[x.k].s
      have ho2 := offM_in tx l[x.k].e
      refine TR.openP (open_arr (oa := oa) (xs := peC l) ha (fun e => by have h8 := peC_length l; rw [e] at h8; simp at h8; omega)) (fun pq hpq => ?_)
      refine TR.skip ?_
      refine NX.seq ?_
      refine TR.seq ?_
      refine TR.block ?_
      refine TR.seq ?_
      refine TR.region ?_
      refine RL.move rfl rfl rfl ?_
      refine RL.move rfl rfl rfl ?_
      refine RL.move rfl rfl rfl ?_
      refine RL.indexAddr rfl ra_tl28 ra_tz63 (congrArg (fun a => some (Value.slice a _ _)) hpq) rfl (by omega) (by omega) rfl ?_
      refine RL.fieldAddr rfl ra_tf63_0 rfl rfl ?_
      refine RL.loadF rfl rfl (fun w K hF => run_pos (q := l[x.k].s) (f := 0) (hF (CellsF pq.1 pq.2 (peC l)) (.head _)) ra_ta61 hk rfl rfl) rfl ?_
      refine RL.call rfl rfl Try.call94 rfl (roffset_spec (q := l[x.k].s) hl) (fun _ => ?_)
      refine RL.move rfl rfl rfl ?_
      refine RL.extract rfl rfl rfl rfl ?_
      refine RL.extract rfl rfl rfl rfl ?_
      refine RL.assign rfl rfl rfl ?_
      refine RL.assign rfl rfl rfl ?_
      refine RL.nil ?_
      refine NX.seq ?_
      refine TR.seq ?_
      refine TR.seq ?_
      refine TR.region ?_
      refine RL.move rfl rfl rfl ?_
      refine RL.bin rfl rfl rfl BinV.neq rfl ?_
      refine RL.nil ?_
      refine NX.seq ?_
      refine TR.cond rfl (fun h3 => ?_) (fun h3 => ?_)
      · skip
        have hs : (offM tx l[x.k].s).2 ≠ 0 := of_decide_eq_true h3
        refine TR.seq ?_
        refine TR.region ?_
        refine RL.move rfl rfl rfl ?_
        refine RL.assign rfl rfl rfl ?_
        refine RL.assign rfl rfl rfl ?_
        refine RL.nil ?_
        refine NX.seq ?_
        refine TR.ret ?_
        refine NX.retThen ?_
        refine NX.retBlock ?_
        refine NX.retThen ?_
        refine NX.retThen ?_
        refine NX.retBlock ?_
        refine NX.retThen ?_
        have hpm : posM tx l = ([], (offM tx l[x.k].s).2) := (if_neg hbig).trans (by rw [← hx.2.1, hdk, posGo_cons, firstNZ, if_neg hs, if_pos hs])
        refine NX.ret2 (⟨none, 0⟩ : RdX) rfl rfl rfl (by rw [hpm]; rfl) (fun w hw => ?_)
        rw [hpm]
        exact ((hw.to 1 [] 1 [] rfl) : St w M F).arr0
      · skip
        have hs2 : (offM tx l[x.k].s).2 = 0 := Decidable.not_not.1 (of_decide_eq_false h3)
        refine TR.skip ?_
        refine NX.seq ?_
        refine TR.seq ?_
        refine TR.region ?_
        refine RL.move rfl rfl rfl ?_
        refine RL.move rfl rfl rfl ?_
        refine RL.move rfl rfl rfl ?_
        refine RL.indexAddr rfl ra_tl28 ra_tz63 (congrArg (fun a => some (Value.slice a _ _)) hpq) rfl (by omega) (by omega) rfl ?_
        refine RL.fieldAddr rfl ra_tf63_1 rfl rfl ?_
        refine RL.loadF rfl rfl (fun w K hF => run_pos (q := l[x.k].e) (f := 2) (hF (CellsF pq.1 pq.2 (peC l)) (.head _)) ra_ta61 hk rfl rfl) rfl ?_
        refine RL.call rfl rfl Try.call94 rfl (roffset_spec (q := l[x.k].e) hl) (fun _ => ?_)
        refine RL.move rfl rfl rfl ?_
        refine RL.extract rfl rfl rfl rfl ?_
        refine RL.extract rfl rfl rfl rfl ?_
        refine RL.assign rfl rfl rfl ?_
        refine RL.assign rfl rfl rfl ?_
        refine RL.nil ?_
        refine NX.seq ?_
        refine TR.seq ?_
        refine TR.seq ?_
        refine TR.region ?_
        refine RL.move rfl rfl rfl ?_
        refine RL.bin rfl rfl rfl BinV.neq rfl ?_
        refine RL.nil ?_
        refine NX.seq ?_
        refine TR.cond rfl (fun h4 => ?_) (fun h4 => ?_)
        · skip
          have he : (offM tx l[x.k].e).2 ≠ 0 := of_decide_eq_true h4
          refine TR.seq ?_
          refine TR.region ?_
          refine RL.move rfl rfl rfl ?_
          refine RL.assign rfl rfl rfl ?_
          refine RL.assign rfl rfl rfl ?_
          refine RL.nil ?_
          refine NX.seq ?_
          refine TR.ret ?_
          refine NX.retThen ?_
          refine NX.retBlock ?_
          refine NX.retThen ?_
          refine NX.retThen ?_
          refine NX.retBlock ?_
          refine NX.retThen ?_
          have hpm : posM tx l = ([], (offM tx l[x.k].e).2) := (if_neg hbig).trans (by rw [← hx.2.1, hdk, posGo_cons, firstNZ, if_pos hs2, firstNZ, if_neg he, if_pos he])
          refine NX.ret2 (⟨none, 0⟩ : RdX) rfl rfl rfl (by rw [hpm]; rfl) (fun w hw => ?_)
          rw [hpm]
          exact ((hw.to 1 [] 1 [] rfl) : St w M F).arr0
        · skip
          have he2 : (offM tx l[x.k].e).2 = 0 := Decidable.not_not.1 (of_decide_eq_false h4)
          refine TR.skip ?_
          refine NX.seq ?_
          refine TR.seq ?_
          refine TR.seq ?_
          refine TR.region ?_
          refine RL.move rfl rfl rfl ?_
          refine RL.move rfl rfl rfl ?_
          refine RL.bin rfl rfl rfl BinV.lss rfl ?_
          refine RL.nil ?_
          refine NX.seq ?_
          refine TR.cond rfl (fun h5 => ?_) (fun h5 => ?_)
          · skip
            have hlt : (offM tx l[x.k].e).1 < (offM tx l[x.k].s).1 := of_decide_eq_true h5
            refine TR.seq ?_
            refine TR.region ?_
            refine RL.assign rfl rfl rfl ?_
            refine RL.assign rfl rfl rfl ?_
            refine RL.nil ?_
            refine NX.seq ?_
            refine TR.ret ?_
            refine NX.retThen ?_
            refine NX.retBlock ?_
            refine NX.retThen ?_
            refine NX.retThen ?_
            refine NX.retBlock ?_
            refine NX.retThen ?_
            have hpm : posM tx l = ([], 1) := (if_neg hbig).trans (by rw [← hx.2.1, hdk, posGo_cons, firstNZ, if_pos hs2, firstNZ, if_pos he2, if_neg (by simp [firstNZ]), if_pos hlt])
            refine NX.ret2 (⟨none, 0⟩ : RdX) rfl rfl rfl (by rw [hpm]; rfl) (fun w hw => ?_)
            rw [hpm]
            exact ((hw.to 1 [] 1 [] rfl) : St w M F).arr0
          · skip
            have hlt : ¬ (offM tx l[x.k].e).1 < (offM tx l[x.k].s).1 := of_decide_eq_false h5
            refine TR.skip ?_
            refine NX.seq ?_
            refine TR.region ?_
            refine RL.move rfl rfl rfl ?_
            refine RL.move rfl rfl rfl ?_
            refine RL.move rfl rfl rfl ?_
            refine RL.move rfl rfl rfl ?_
            refine RL.move rfl rfl rfl ?_
            refine RL.indexAddr rfl ra_tl28 ra_tz63 (congrArg (fun a => some (Value.slice a _ _)) hpq) rfl (by omega) (by omega) rfl ?_
            refine RL.fieldAddr rfl ra_tf63_2 rfl rfl ?_
            refine RL.loadF rfl rfl (fun w K hF => run_loadCell1 (j := ((x.k : Nat) : Int).toNat * 5 + 4) (v := S l[x.k].x) (hF (CellsF pq.1 pq.2 (peC l)) (.head _)) ra_ts9 (by rw [Int.toNat_natCast]; exact peC_at hk rfl)) rfl ?_
            refine RL.build rfl rfl (ra_bv78_0_1_2 _ _ _) rfl ?_
            refine RL.buildSlice rfl rfl (ra_bs26_1_0 _ _ _) rfl (fun b6 => ?_)
            refine RL.ofGV rfl rfl (GV.append (j := 1) ra_tl26 ra_ni26 ra_te78 rfl rfl rfl (src_box (i := 0) rfl rfl rfl) (by omega) (by omega)) (fun y => ?_)
            refine RL.assign rfl rfl rfl ?_
            refine RL.nil ?_
            refine NX.off ?_
            refine NX.seq ?_
            refine TR.region ?_
            refine RL.move rfl rfl rfl ?_
            refine RL.bin rfl rfl rfl (BinV.add _ rfl (by omega) (by omega)) rfl ?_
            refine RL.assign rfl rfl rfl ?_
            refine RL.nil ?_
            refine NX.roundP ⟨x.k + 1, x.es ++ [⟨(offM tx l[x.k].s).1, (offM tx l[x.k].e).1, l[x.k].x⟩], y.1, y.2⟩ ⟨hk, by show posGo tx (l.drop (x.k + 1)) _ = _; rw [← hx.2.1, hdk, posGo_cons, firstNZ, if_pos hs2, firstNZ, if_pos he2, if_neg (by simp [firstNZ]), if_neg hlt], by rw [List.length_append]; show x.es.length + 1 = x.k + 1; rw [hx.2.2]⟩ (by show _ - (x.k + 1) < _ - x.k; omega) ⟨rfl, rfl, ?_, rfl, trivial⟩ (fun w hw => ?_)
            · show some (Value.slice y.1 (x.es.length + 1) y.2) = some (Value.slice y.1 (x.es ++ [_]).length y.2)
              rw [List.length_append]; rfl
            · have h9 := (hw.to 2 [1] 1 [] rfl)
              show St w (OwnSl 78 3 y.1 (x.es ++ [_]).length y.2 (edC (x.es ++ [_])) :: M) _
              rw [List.length_append, edC_append]
              exact h9
    · skip
      have hk2 : x.k = l.length := by have := of_decide_eq_false h2; have := hx.1; omega
      refine TR.exit ?_
      refine NX.exitThen ?_
      refine NX.exitThen ?_
      refine NX.exitHere ?_
      refine NX.seq ?_
      refine TR.seq ?_
      refine TR.region ?_
      refine RL.move rfl rfl rfl ?_
      refine RL.assign rfl rfl rfl ?_
      refine RL.assign rfl rfl rfl ?_
      refine RL.nil ?_
      refine NX.seq ?_
      refine TR.ret ?_
      have hpm : posM tx l = (x.es, 0) := (if_neg hbig).trans (by rw [← hx.2.1, hk2, List.drop_length]; rfl)
      refine NX.ret2 (⟨x.oa, x.c⟩ : RdX) rfl rfl rfl (by rw [hpm]) (fun w hw => ?_)
      rw [hpm]
      exact ((hw.to 1 [0] 0 [] rfl) : St w _ _).keepSl
end Go.Proofs.Ytkdeopioelocnaa

namespace Go.GL
set_option linter.unusedVariables false
end Go.GL

namespace Go.GL
set_option linter.unusedVariables false
def upTo (a b : Int) : List Int := (List.range (b - a).toNat).map fun (i : Nat) => a + (i : Int)
theorem upTo_len (a b : Int) : (upTo a b).length = (b - a).toNat := by unfold upTo; rw [List.length_map, List.length_range]
theorem upTo_at {a b : Int} {i : Nat} (h : i < (upTo a b).length) : (upTo a b)[i] = a + i := (List.getElem_map _).trans (by rw [List.getElem_range])
def Gd (acc : List Ed) (o : Int) : Prop := joinL acc = acc ∧ ∀ y, acc.getLast? = some y → y.t < o
theorem Gd.snoc {acc : List Ed} {o : Int} (h : Gd acc o) {e : Ed} (he : e.f = o) {o' : Int} (ho : e.t < o') : Gd (acc ++ [e]) o' := by
  refine ⟨by rw [joinL_snoc, h.1, joinStep_new fun y hy => by have := h.2 y hy; omega], fun y hy => ?_⟩
  rw [List.getLast?_append] at hy
  rw [← Option.some.inj hy]; exact ho
theorem Gd.up {acc : List Ed} {o o' : Int} (h : Gd acc o) (ho : o ≤ o') : Gd acc o' := ⟨h.1, fun y hy => by have := h.2 y hy; omega⟩
def Cov (P : List Pa) (i v : Int) : Prop := ∃ p, p ∈ P ∧ p.n ≤ i ∧ i < p.n + p.s ∧ v = p.o + (i - p.n)
def Desc (P : List Pa) (a : Int) (L : List Int) : Prop := ∀ i (h : i < L.length), (∀ v, Cov P (a + i) v → L[i] = v) ∧ ((∀ v, ¬ Cov P (a + i) v) → L[i] = -1)
theorem Desc.append {P : List Pa} {a b : Int} {L M : List Int} (h1 : Desc P a L) (h2 : Desc P b M) (e : b = a + L.length) : Desc P a (L ++ M) := fun i h => by
  by_cases hi : i < L.length
  · rw [List.getElem_append_left hi]; exact h1 i hi
  · rw [List.getElem_append_right (by omega)]
    rw [List.length_append] at h
    have := h2 (i - L.length) (by omega)
    rw [show b + ((i - L.length : Nat) : Int) = a + i from by omega] at this
    exact this
theorem Desc.neg {P : List Pa} {a : Int} {k : Nat} (h : ∀ i, a ≤ i → i < a + k → ∀ v, ¬ Cov P i v) : Desc P a (List.replicate k (-1)) := fun i hi => by
  rw [List.length_replicate] at hi
  refine ⟨fun v hv => absurd hv (h _ (by omega) (by omega) v), fun _ => by simp⟩
theorem Desc.up {P : List Pa} {a o b : Int} (h : ∀ i, a ≤ i → i < a + (b - o) → Cov P i (o + (i - a)) ∧ ∀ v, Cov P i v → v = o + (i - a)) : Desc P a (upTo o b) := fun i hi => by
  rw [upTo_at hi]
  rw [upTo_len] at hi
  obtain ⟨h1, h2⟩ := h (a + i) (by omega) (by omega)
  refine ⟨fun v hv => ?_, fun hn => absurd h1 (hn _)⟩
  rw [h2 v hv]; omega
theorem Desc.iff {P P' : List Pa} {a : Int} {L : List Int} (h : Desc P' a L) (e : ∀ i, a ≤ i → ∀ v, Cov P i v ↔ Cov P' i v) : Desc P a L := fun i hi => by
  obtain ⟨h1, h2⟩ := h i hi
  exact ⟨fun v hv => h1 v ((e _ (by omega) v).1 hv), fun hn => h2 fun v hv => hn v ((e _ (by omega) v).2 hv)⟩
theorem Desc.eq {P : List Pa} {a : Int} {L M : List Int} (h1 : Desc P a L) (h2 : Desc P a M) (e : L.length = M.length) : L = M := by
  refine List.ext_getElem e fun i hi hj => ?_
  by_cases h : ∃ v, Cov P (a + i) v
  · obtain ⟨v, hv⟩ := h
    rw [(h1 i hi).1 v hv, (h2 i hj).1 v hv]
  · have hn : ∀ v, ¬ Cov P (a + i) v := fun v hv => h ⟨v, hv⟩
    rw [(h1 i hi).2 hn, (h2 i hj).2 hn]
theorem cov_cons {p : Pa} {P : List Pa} {i v : Int} : Cov (p :: P) i v ↔ (p.n ≤ i ∧ i < p.n + p.s ∧ v = p.o + (i - p.n)) ∨ Cov P i v := by
  constructor
  · rintro ⟨q, hq, h⟩
    rcases List.mem_cons.1 hq with rfl | hq
    · exact .inl h
    · exact .inr ⟨q, hq, h⟩
  · rintro (h | ⟨q, hq, h⟩)
    · exact ⟨p, .head _, h⟩
    · exact ⟨q, .tail _ hq, h⟩
theorem cov_far {P : List Pa} {m i v : Int} (h : ∀ p, p ∈ P → m ≤ p.n) (hi : i < m) : ¬ Cov P i v := by
  rintro ⟨q, hq, h1, h2, h3⟩
  have := h q hq
  omega
theorem Desc.step {p : Pa} {ps : List Pa} {a m : Int} {L : List Int} {k : Nat} (hk : a + k = p.n) (hs : 0 ≤ p.s) (hm : p.n + p.s ≤ m) (hf : ∀ q, q ∈ ps → m ≤ q.n) {j : Nat} (hj : m = p.n + p.s + j) (hL : Desc ps m L) : Desc (p :: ps) a (List.replicate k (-1) ++ (upTo p.o (p.o + p.s) ++ (List.replicate j (-1) ++ L))) := by
  refine Desc.append (b := p.n) (Desc.neg fun i h1 h2 v hv => ?_) (Desc.append (b := p.n + p.s) (Desc.up fun i h1 h2 => ?_) (Desc.append (b := m) (Desc.neg fun i h1 h2 v hv => ?_) (hL.iff fun i hi v => ?_) (by rw [List.length_replicate]; omega)) (by rw [upTo_len]; omega)) (by rw [List.length_replicate]; omega)
  · rcases cov_cons.1 hv with h | h
    · omega
    · exact cov_far hf (by omega) h
  · refine ⟨cov_cons.2 (.inl ⟨by omega, by omega, rfl⟩), fun v hv => ?_⟩
    rcases cov_cons.1 hv with h | h
    · exact h.2.2
    · exact absurd h (cov_far hf (by omega))
  · rcases cov_cons.1 hv with h | h
    · omega
    · exact cov_far hf (by omega) h
  · rw [cov_cons]
    exact ⟨fun h => h.resolve_left (by omega), .inr⟩
end Go.GL

namespace Go.Proofs.Ytkdeopioelocnaa
open Go.GL
set_option linter.unusedVariables false
end Go.Proofs.Ytkdeopioelocnaa

namespace Go.Proofs.Ytkdeopioelocnaa
open Go.GL
set_option linter.unusedVariables false
end Go.Proofs.Ytkdeopioelocnaa

namespace Go.Proofs.Ytkdeopioelocnaa
open Go.GL
set_option linter.unusedVariables false
end Go.Proofs.Ytkdeopioelocnaa

namespace Go.GL
set_option linter.unusedVariables false
structure RD where
  f : Int
  rows : List StR
  held : List HeR
def txC (l : List StR) : List Value := l.map fun r => S r.t
def ecC (l : List StR) : List Value := l.map fun r => .slice r.oa r.es.length r.c
theorem txC_len (l : List StR) : (txC l).length = l.length * 1 := by unfold txC; rw [List.length_map, Nat.mul_one]
theorem txC_append (l : List StR) (x : StR) : txC (l ++ [x]) = txC l ++ [S x.t] := by unfold txC; rw [List.map_append]; rfl
theorem ecC_append (l : List StR) (x : StR) : ecC (l ++ [x]) = ecC l ++ [.slice x.oa x.es.length x.c] := by unfold ecC; rw [List.map_append]; rfl
theorem txC_ne {l : List StR} (h : 0 < l.length) : txC l ≠ [] := fun e => by have := congrArg List.length e; rw [txC_len] at this; simp at this; subst this; simp at h
theorem txC_at {l : List StR} {i : Int} {k : Nat} (hi : i = (k : Int)) (h : k < l.length) : (txC l)[0 + i.toNat * 1]? = some (S l[k].t) := by
  subst hi; rw [Nat.zero_add, Int.toNat_natCast, Nat.mul_one]; unfold txC; rw [List.getElem?_map, List.getElem?_eq_getElem h]; rfl
def RdB (T eS eE eC b : Nat) (d : RD) : HP := Ex (ι := (Option Addr × Nat) × (Option Addr × Nat) × (Option Addr × Nat)) fun i =>
  [Box b T [I d.f, .slice i.1.1 d.rows.length i.1.2, .slice i.2.1.1 d.rows.length i.2.1.2, .slice i.2.2.1 d.held.length i.2.2.2], OwnSl eS 1 i.1.1 d.rows.length i.1.2 (txC d.rows), OwnSl eE 1 i.2.1.1 d.rows.length i.2.1.2 (ecC d.rows), OwnSl eC 2 i.2.2.1 d.held.length i.2.2.2 (heC d.held)]
def RdF (d : RD) : Fact := ⟨fun w K => (∀ r, r ∈ d.rows → ArrAt w K r.oa (edC r.es)) ∧ ∀ h, h ∈ d.held → ArrAt w K h.oa (peC h.l), fun h e => ⟨fun r hr => (h.1 r hr).mono e, fun x hx => (h.2 x hx).mono e⟩⟩
theorem St.rdClose {w : World} {M : List HP} {F : List Fact} {T eS eE eC b n1 c1 n2 c2 n3 c3 : Nat} {o1 o2 o3 : Option Addr} {v : Int} {a1 a2 a3 : List Value} {d : RD} (e1 : v = d.f) (e2 : n1 = d.rows.length) (e3 : n2 = d.rows.length) (e4 : n3 = d.held.length) (e5 : a1 = txC d.rows) (e6 : a2 = ecC d.rows) (e7 : a3 = heC d.held)
    (h : St w (Box b T [I v, .slice o1 n1 c1, .slice o2 n2 c2, .slice o3 n3 c3] :: OwnSl eS 1 o1 n1 c1 a1 :: OwnSl eE 1 o2 n2 c2 a2 :: OwnSl eC 2 o3 n3 c3 a3 :: M) F) : St w (RdB T eS eE eC b d :: M) F := by
  subst e1; subst e2; subst e3; subst e4; subst e5; subst e6; subst e7
  exact St.exClose (M0 := fun i : (Option Addr × Nat) × (Option Addr × Nat) × (Option Addr × Nat) => [Box b T [I d.f, .slice i.1.1 d.rows.length i.1.2, .slice i.2.1.1 d.rows.length i.2.1.2, .slice i.2.2.1 d.held.length i.2.2.2], OwnSl eS 1 i.1.1 d.rows.length i.1.2 (txC d.rows), OwnSl eE 1 i.2.1.1 d.rows.length i.2.1.2 (ecC d.rows), OwnSl eC 2 i.2.2.1 d.held.length i.2.2.2 (heC d.held)]) ((o1, c1), (o2, c2), (o3, c3)) h
structure RelR (d : RD) (h : Hs) : Prop where
  ok : HsOk h
  f : d.f = h.first
  rows : d.rows.map (fun r => (r.t, r.es)) = h.hist
  held : d.held.map (fun r => (r.k, r.l)) = h.held
theorem RelR.len {d : RD} {h : Hs} (r : RelR d h) : d.rows.length = h.hist.length ∧ 0 < d.rows.length ∧ d.rows.length ≤ 1099511627777 ∧ h.v = d.f + d.rows.length - 1 ∧ 0 ≤ d.f ∧ d.f ≤ 1099511627776 ∧ d.held.length = h.held.length ∧ d.held.length ≤ 16 := by
  have h1 := congrArg List.length r.rows
  have h2 : 0 < h.hist.length := List.length_pos_iff.2 r.ok.ne
  have h3 := congrArg List.length r.held
  have h4 := r.ok.f0; have h5 := r.ok.v1; have h6 := r.f; have h7 := r.ok.few
  rw [List.length_map] at h1 h3
  have hv : h.v = h.first + h.hist.length - 1 := rfl
  omega
theorem RelR.row {d : RD} {h : Hs} (r : RelR d h) {i : Nat} (hi : i < d.rows.length) : h.hist[i]? = some (d.rows[i].t, d.rows[i].es) := by
  rw [← r.rows, List.getElem?_map, List.getElem?_eq_getElem hi]; rfl
theorem RelR.tx {d : RD} {h : Hs} (r : RelR d h) (hl : d.rows.length - 1 < d.rows.length) : d.rows[d.rows.length - 1].t = h.tx := by
  have h2 := r.row hl
  unfold Hs.tx
  rw [List.getLast?_eq_getElem?, ← r.len.1, h2]
theorem RelR.keys {d : RD} {h : Hs} (r : RelR d h) : (d.held.map HeR.k).Nodup := by
  have h1 := r.ok.keys
  rw [← r.held, List.map_map] at h1
  exact h1
theorem RelR.get {d : RD} {h : Hs} (r : RelR d h) (k : Int) : hGet h.held k = (heFind d.held k).map HeR.l := by rw [← r.held]; exact heFind_h _ _
theorem RelR.of {d : RD} {h h' : Hs} (r : RelR d h) (e : h = h') : RelR d h' := e ▸ r
theorem RelR.grow {d : RD} {h : Hs} (r : RelR d h) {x : StR} (hok : HsOk { h with hist := h.hist ++ [(x.t, x.es)] }) : RelR { d with rows := d.rows ++ [x] } { h with hist := h.hist ++ [(x.t, x.es)] } :=
  ⟨hok, r.f, by show (d.rows ++ [x]).map _ = _; rw [List.map_append, r.rows]; rfl, r.held⟩
theorem RelR.put {d : RD} {h : Hs} (r : RelR d h) {x : HeR} (hok : HsOk { h with held := h.held ++ [(x.k, x.l)] }) : RelR { d with held := d.held ++ [x] } { h with held := h.held ++ [(x.k, x.l)] } :=
  ⟨hok, r.f, r.rows, by show (d.held ++ [x]).map _ = _; rw [List.map_append, r.held]; rfl⟩
theorem RelR.new {tx : List UInt8} {ver : Int} (h1 : tx.length ≤ 4096) (h2 : 0 ≤ ver) (h3 : ver ≤ 1099511627776) : RelR ⟨ver, [⟨tx, [], none, 0⟩], []⟩ ⟨ver, [(tx, [])], []⟩ := by
  have hv : (⟨ver, [(tx, [])], []⟩ : Hs).v = ver := by show ver + 1 - 1 = ver; omega
  refine ⟨⟨h2, by simp, by rw [hv]; exact h3, fun p hp => ?_, List.nodup_nil, fun p hp => absurd hp (by simp), Nat.zero_le _⟩, rfl, rfl, rfl⟩
  rw [List.mem_singleton.1 hp]; exact ⟨h1, Nat.zero_le _, Nat.zero_le _⟩
theorem RdF.grow {w : World} {K : List Nat} {d : RD} {x : StR} (h : (RdF d).p w K) (hx : ArrAt w K x.oa (edC x.es)) : (RdF { d with rows := d.rows ++ [x] }).p w K := ⟨mem_snoc_all h.1 hx, h.2⟩
theorem RdF.put {w : World} {K : List Nat} {d : RD} {x : HeR} (h : (RdF d).p w K) (hx : ArrAt w K x.oa (peC x.l)) : (RdF { d with held := d.held ++ [x] }).p w K := ⟨h.1, mem_snoc_all h.2 hx⟩
def FdR (l : List HeR) (k z : Int) : Prop := (z = -1 ∧ ∀ r, r ∈ l → r.k ≠ k) ∨ ∃ i : Nat, z = i ∧ ∃ h : i < l.length, l[i].k = k
theorem find_key : ∀ {l : List HeR} {k : Int} {i : Nat} (hn : (l.map HeR.k).Nodup) (h : i < l.length), l[i].k = k → heFind l k = some l[i] ∧ heDel l k = l.take i ++ l.drop (i + 1)
  | [], k, i, _, h, _ => absurd h (Nat.not_lt_zero i)
  | x :: l, k, 0, hn, h, e => by
    rw [List.map_cons, List.nodup_cons] at hn
    have e : x.k = k := e
    unfold heFind heDel
    rw [List.find?_cons, List.filter_cons, if_neg (by simpa using e)]
    refine ⟨by simp [e], ?_⟩
    simp only [List.take_zero, List.nil_append, List.drop_succ_cons, List.drop_zero]
    refine List.filter_eq_self.2 fun y hy => ?_
    have : y.k ≠ k := fun e2 => hn.1 (List.mem_map.2 ⟨y, hy, by rw [e2, e]⟩)
    simpa using this
  | x :: l, k, i + 1, hn, h, e => by
    rw [List.map_cons, List.nodup_cons] at hn
    have hi : i < l.length := by simpa using h
    have e : l[i].k = k := e
    obtain ⟨h1, h2⟩ := find_key hn.2 hi e
    have hx : x.k ≠ k := fun e2 => hn.1 (List.mem_map.2 ⟨l[i], List.getElem_mem hi, by rw [e, e2]⟩)
    unfold heFind at h1 ⊢
    unfold heDel at h2 ⊢
    rw [List.find?_cons, List.filter_cons, if_pos (by simpa using hx), h2]
    refine ⟨by simp [hx, h1], rfl⟩
theorem FdR.no {d : RD} {h : Hs} (r : RelR d h) {k z : Int} (hz : FdR d.held k z) (hn : ¬ 0 ≤ z) : hGet h.held k = none := by
  rw [r.get]
  rcases hz with ⟨_, h1⟩ | ⟨i, h1, _⟩
  · have : heFind d.held k = none := List.find?_eq_none.2 fun x hx => by have := h1 x hx; simpa using this
    rw [this]; rfl
  · omega
theorem FdR.yes {d : RD} {h : Hs} (r : RelR d h) {k z : Int} (hz : FdR d.held k z) (hn : 0 ≤ z) : ∃ i : Nat, z = i ∧ ∃ hi : i < d.held.length, d.held[i].k = k ∧ hGet h.held k = some d.held[i].l ∧ heDel d.held k = d.held.take i ++ d.held.drop (i + 1) := by
  rcases hz with ⟨h1, _⟩ | ⟨i, h1, hi, h2⟩
  · omega
  · obtain ⟨h3, h4⟩ := find_key r.keys hi h2
    exact ⟨i, h1, hi, h2, by rw [r.get, h3]; rfl, h4⟩
theorem RelR.del {d : RD} {h : Hs} (r : RelR d h) (k : Int) : RelR { d with held := heDel d.held k } { h with held := hDel h.held k } :=
  ⟨r.ok.del k, r.f, r.rows, by show (heDel d.held k).map _ = _; rw [heDel_h, r.held]⟩
theorem RdF.del {w : World} {K : List Nat} {d : RD} (h : (RdF d).p w K) (k : Int) : (RdF { d with held := heDel d.held k }).p w K := ⟨h.1, fun x hx => h.2 x (List.mem_filter.1 hx).1⟩
structure RrX where
  n : Int
  d : RD
  h : Hs
theorem ins_ok {l : List Int} {v : Int} {k : Nat} (hs : l.Pairwise (· ≤ ·)) (hk : k ≤ l.length) (h0 : ∀ j (h : j < l.length), j < k → l[j] < v) (h1 : ∀ h : k < l.length, v ≤ l[k]) : (l.take k ++ [v] ++ l.drop k).Pairwise (· ≤ ·) ∧ (l.take k ++ [v] ++ l.drop k).Perm (l ++ [v]) := by
  constructor
  · rw [List.append_assoc, List.pairwise_append]
    refine ⟨hs.sublist (List.take_sublist _ _), ?_, ?_⟩
    · rw [List.singleton_append, List.pairwise_cons]
      refine ⟨fun b hb => ?_, hs.sublist (List.drop_sublist _ _)⟩
      obtain ⟨j, hj, rfl⟩ := List.getElem_of_mem hb
      rw [List.length_drop] at hj
      rw [List.getElem_drop]
      have h2 := h1 (by omega)
      rcases Nat.eq_zero_or_pos j with rfl | hp
      · exact h2
      · have := List.pairwise_iff_getElem.1 hs k (k + j) (by omega) (by omega) (by omega)
        omega
    · intro a ha b hb
      obtain ⟨j, hj, rfl⟩ := List.getElem_of_mem ha
      rw [List.length_take] at hj
      rw [List.getElem_take]
      have h2 := h0 j (by omega) (by omega)
      rw [List.singleton_append] at hb
      rcases List.mem_cons.1 hb with rfl | hb
      · omega
      · obtain ⟨i, hi, rfl⟩ := List.getElem_of_mem hb
        rw [List.length_drop] at hi
        rw [List.getElem_drop]
        have := List.pairwise_iff_getElem.1 hs j (k + i) (by omega) (by omega) (by omega)
        exact this
  · rw [List.append_assoc]
    refine List.Perm.trans (List.Perm.append_left _ List.perm_append_comm) ?_
    rw [← List.append_assoc, List.take_append_drop]
theorem srt_is {l k : List Int} (hs : l.Pairwise (· ≤ ·)) (hp : l.Perm k) : l = srt k :=
  List.Perm.eq_of_pairwise (le := fun a b : Int => a ≤ b) (fun a b _ _ h1 h2 => by omega) hs (srt_sorted k) (hp.trans (srt_perm k).symm)
structure VrX where
  k : Nat
  l : List Int
  oa : Option Addr
  c : Nat
theorem Rd.iTake {M : List HP} {F : List Fact} {oa : Option Addr} {cap : Nat} {l : List Int} (r : Rd M F oa (ints l)) (k : Nat) (hk : k ≤ l.length) (hc : l.length ≤ cap) : Rd M F (cutA oa 0 cap 1) (ints (l.take k)) := by
  have h := r.cut (cap := cap) (size := 1) (n := l.length) 0 k (Nat.zero_le _) hk hc (by simp)
  rw [Nat.zero_mul, List.drop_zero, Nat.mul_one] at h
  unfold ints at h ⊢
  rw [List.map_take]; exact h
theorem Rd.iDrop {M : List HP} {F : List Fact} {oa : Option Addr} {cap : Nat} {l : List Int} (r : Rd M F oa (ints l)) (k : Nat) (hk : k ≤ l.length) (hc : l.length ≤ cap) : Rd M F (cutA oa k cap 1) (ints (l.drop k)) := by
  have h := r.cut (cap := cap) (size := 1) (n := l.length) k l.length hk (Nat.le_refl _) hc (by simp)
  rw [List.take_of_length_le (by simp), Nat.mul_one] at h
  unfold ints at h ⊢
  rw [List.map_drop]; exact h
theorem ints_len (l : List Int) : (ints l).length = l.length := by simp
theorem ints_app (a b : List Int) : ints (a ++ b) = ints a ++ ints b := by unfold ints; rw [List.map_append]
theorem own_int {l : List Int} {k : Nat} (h : k < l.length) : (ints l)[0 + ((k : Nat) : Int).toNat * 1]? = some (I l[k]) := by rw [Nat.zero_add, Int.toNat_natCast, Nat.mul_one]; exact ints_get h
theorem mid_ilen {l : List Int} {k : Nat} {v : Int} (h : k ≤ l.length) : (l.take k ++ [v] ++ l.drop k).length = l.length + 1 := by
  rw [List.length_append, List.length_append, List.length_take, List.length_drop, List.length_singleton]; omega
end Go.GL

namespace Go.Proofs.Ytkdeopioelocnaa
open Go.GL
set_option linter.unusedVariables false
theorem re_bs98_1_0 (x0 : List UInt8) : BuildSV Try.prog 98 9 1 [(0, S x0)] [S x0] := fun w => by kernel_rfl
theorem re_bs99_1_0 (x0 : Option Addr) (x0n x0c : Nat) : BuildSV Try.prog 99 26 1 [(0, .slice x0 x0n x0c)] [.slice x0 x0n x0c] := fun w => by kernel_rfl
theorem re_bv101_0_1_2 (x0 : Int) (x1 : Option Addr) (x1n x1c : Nat) (x2 : Option Addr) (x2n x2c : Nat) : BuildV Try.prog 101 [(0, .int .i64 x0), (1, .slice x1 x1n x1c), (2, .slice x2 x2n x2c)] (.agg #[.int .i64 x0, .slice x1 x1n x1c, .slice x2 x2n x2c, .slice none 0 0]) := fun w => by kernel_rfl
theorem re_ni98 : noInt Try.prog 98 = true := by kernel_rfl
theorem re_ni99 : noInt Try.prog 99 = true := by kernel_rfl
theorem re_te26 : tyElem Try.prog 26 1 24 = true := by kernel_rfl
theorem re_te9 : tyElem Try.prog 9 1 16 = true := by kernel_rfl
theorem re_tf101_0 : fieldOff Try.prog 101 0 0 = true := by kernel_rfl
theorem re_tf101_1 : fieldOff Try.prog 101 1 1 = true := by kernel_rfl
theorem re_tf101_2 : fieldOff Try.prog 101 2 2 = true := by kernel_rfl
theorem re_tf101_3 : fieldOff Try.prog 101 3 3 = true := by kernel_rfl
theorem re_tf39_0 : fieldOff Try.prog 39 0 0 = true := by kernel_rfl
theorem re_tl23 : tySlice Try.prog 23 39 = true := by kernel_rfl
theorem re_tl98 : tySlice Try.prog 98 9 = true := by kernel_rfl
theorem re_tl99 : tySlice Try.prog 99 26 = true := by kernel_rfl
theorem re_ts23 : tyScalar Try.prog 23 = true := by kernel_rfl
theorem re_ts3 : tyScalar Try.prog 3 = true := by kernel_rfl
theorem re_ts9 : tyScalar Try.prog 9 = true := by kernel_rfl
theorem re_ts98 : tyScalar Try.prog 98 = true := by kernel_rfl
theorem re_ts99 : tyScalar Try.prog 99 = true := by kernel_rfl
theorem re_tstr9 : tyStr Try.prog 9 = true := by kernel_rfl
theorem re_tz39 : tySize Try.prog 39 2 = true := by kernel_rfl
theorem re_tz9 : tySize Try.prog 9 1 = true := by kernel_rfl
theorem rversion_spec {b : Nat} {d : RD} {h : Hs} {M : List HP} {F : List Fact} (hr : RelR d h) : Ctr Try.prog 58 [.pointer (some ⟨b, 0, none⟩)] (RdB 101 9 26 39 b (d) :: M) F Unit (fun _ => I h.v) (fun _ => RdB 101 9 26 39 b (d) :: M) (fun _ => F) := by
  refine Ctr.body Try.func58 rfl rfl ?_
  refine TR.seq ?_
  refine TR.region ?_
  refine RL.assign rfl rfl rfl ?_
  refine RL.nil ?_
  refine NX.seq ?_
  refine TR.seq ?_
  have hrl := hr.len
  refine TR.open (fun w hw => (St.exOpen (show St w (Ex _ :: _) _ from hw))) (fun ic => ?_)
  refine TR.sub (E' := [(0, _), (2, _)]) ⟨rfl, rfl, trivial⟩ ?_
  refine TR.draw mixed ?_
  apply AR.more [(0, _), (1, _), (2, _), (3, _), (4, _), (5, _), (6, _), (7, _), (8, _), (9, _), (10, _), (11, _)]
  refine AR.last [0, 1, 2, 3, 4, 5, 6, 7, 8, 9, 10, 11] [0, 1, 2, 3, 4, 5, 6, 7, 8, 9, 10, 11] ⟨QOne.yes rfl rfl rfl (PV.move rfl), QOne.yes rfl rfl rfl (PV.nilCheck rfl), QOne.yes rfl rfl rfl (PV.fieldAddr re_tf101_0 rfl), QOne.yes rfl rfl rfl (PV.load1 0 re_ts3 rfl rfl rfl), QOne.yes rfl rfl rfl (PV.move rfl), QOne.yes rfl rfl rfl (PV.nilCheck rfl), QOne.yes rfl rfl rfl (PV.fieldAddr re_tf101_1 rfl), QOne.yes rfl rfl rfl (PV.load1 0 re_ts98 rfl rfl rfl), QOne.yes rfl rfl rfl (PV.lenSlice re_tl98 rfl), QOne.yes rfl rfl rfl (PV.bin rfl rfl (BinV.add (d.f + d.rows.length) rfl (by omega) (by omega))), QOne.yes rfl rfl rfl (PV.bin rfl rfl (BinV.sub (d.f + d.rows.length - 1) rfl (by omega) (by omega))), QOne.yes rfl rfl rfl (PV.assign rfl), trivial⟩ rfl rfl rfl ?_
  refine NX.sub (E' := [(2, _)]) ⟨rfl, trivial⟩ ?_
  refine NX.seq ?_
  refine TR.ret ?_
  exact NX.ret1 () rfl rfl (by rw [hrl.2.2.2.1]) (fun w hw => St.rdClose (d := d) rfl rfl rfl rfl rfl rfl rfl (hw.to 4 [0, 1, 2, 3] 0 [] rfl))
theorem rtext_spec {b : Nat} {d : RD} {h : Hs} {M : List HP} {F : List Fact} (hr : RelR d h) : Ctr Try.prog 25 [.pointer (some ⟨b, 0, none⟩)] (RdB 101 9 26 39 b (d) :: M) F Unit (fun _ => S h.tx) (fun _ => RdB 101 9 26 39 b (d) :: M) (fun _ => F) := by
  refine Ctr.body Try.func25 rfl rfl ?_
  refine TR.seq ?_
  refine TR.region ?_
  refine RL.assign rfl rfl rfl ?_
  refine RL.nil ?_
  refine NX.seq ?_
  refine TR.seq ?_
  have hrl := hr.len
  have hrk : d.rows.length - 1 < d.rows.length := by omega
  refine TR.open (fun w hw => (St.exOpen (show St w (Ex _ :: _) _ from hw))) (fun ic => ?_)
  refine TR.openP (fun w hw => own_at (i := 1) rfl (txC_ne hrl.2.1) hw) (fun gt hgt => ?_)
  refine TR.sub (E' := [(0, _), (2, _)]) ⟨rfl, rfl, trivial⟩ ?_
  refine TR.draw mixed ?_
  apply AR.more [(0, _), (1, _), (2, _), (3, _), (4, _), (5, _), (6, _), (7, _), (8, _), (9, _), (10, _), (11, _), (12, _)]
  refine AR.last [0, 1, 2, 3, 4, 5, 6, 7, 8, 9, 10, 11, 12] [0, 1, 2, 3, 4, 5, 6, 7, 8, 9, 10, 11, 12] ⟨QOne.yes rfl rfl rfl (PV.move rfl), QOne.yes rfl rfl rfl (PV.nilCheck rfl), QOne.yes rfl rfl rfl (PV.fieldAddr re_tf101_1 rfl), QOne.yes rfl rfl rfl (PV.load1 0 re_ts98 rfl rfl rfl), QOne.yes rfl rfl rfl (PV.move rfl), QOne.yes rfl rfl rfl (PV.nilCheck rfl), QOne.yes rfl rfl rfl (PV.fieldAddr re_tf101_1 rfl), QOne.yes rfl rfl rfl (PV.load1 0 re_ts98 rfl rfl rfl), QOne.yes rfl rfl rfl (PV.lenSlice re_tl98 rfl), QOne.yes rfl rfl rfl (PV.bin rfl rfl (BinV.sub ((d.rows.length - 1 : Nat) : Int) (by omega) (by omega) (by omega))), QOne.yes rfl rfl rfl (PV.indexAddr re_tl98 re_tz9 (congrArg (fun a => some (Value.slice a _ _)) hgt) rfl (by omega) (by omega)), QOne.yes rfl rfl rfl (PV.loadS rfl (own_one (i := 1) rfl hgt re_ts9 (show (txC d.rows)[0 + ((d.rows.length - 1 : Nat) : Int).toNat * 1]? = some (S h.tx) from by rw [txC_at rfl hrk, hr.tx hrk]))), QOne.yes rfl rfl rfl (PV.assign rfl), trivial⟩ rfl rfl rfl ?_
  refine NX.sub (E' := [(2, _)]) ⟨rfl, trivial⟩ ?_
  refine NX.seq ?_
  refine TR.ret ?_
  exact NX.ret1 () rfl rfl rfl (fun w hw => St.rdClose (d := d) rfl rfl rfl rfl rfl rfl rfl (hw.to 4 [0, 1, 2, 3] 0 [] rfl))
theorem rfind_spec {k : Int} {b : Nat} {d : RD} {h : Hs} {M : List HP} {F : List Fact} (hr : RelR d h) : Ctr Try.prog 59 [.pointer (some ⟨b, 0, none⟩), I k] (RdB 101 9 26 39 b (d) :: M) F {z : Int // FdR d.held k z} (fun z => I z.1) (fun _ => RdB 101 9 26 39 b (d) :: M) (fun _ => F) := by
  refine Ctr.body Try.func59 rfl rfl ?_
  refine TR.seq ?_
  refine TR.region ?_
  refine RL.assign rfl rfl rfl ?_
  refine RL.nil ?_
  refine NX.seq ?_
  refine TR.seq ?_
  refine TR.seq ?_
  have hrl := hr.len
  refine TR.open (fun w hw => (St.exOpen (show St w (Ex _ :: _) _ from hw))) (fun ic => ?_)
  refine TR.region ?_
  refine RL.assign rfl rfl rfl ?_
  refine RL.nil ?_
  refine NX.seq ?_
  refine TR.block ?_
  refine TR.loopP (ι := Nat) (fun i => i ≤ d.held.length ∧ ∀ r, r ∈ d.held.take i → r.k ≠ k) (fun i => [(0, .pointer (some ⟨b, 0, none⟩)), (1, I k), (5, I (i : Nat))]) (fun i => Box b 101 [I d.f, .slice ic.1.1 d.rows.length ic.1.2, .slice ic.2.1.1 d.rows.length ic.2.1.2, .slice ic.2.2.1 d.held.length ic.2.2.2] :: OwnSl 9 1 ic.1.1 d.rows.length ic.1.2 (txC d.rows) :: OwnSl 26 1 ic.2.1.1 d.rows.length ic.2.1.2 (ecC d.rows) :: OwnSl 39 2 ic.2.2.1 d.held.length ic.2.2.2 (heC d.held) :: M) (fun i => F) (fun i => d.held.length - i) 0 ⟨Nat.zero_le _, fun r hr => absurd hr (by simp)⟩ ⟨rfl, rfl, rfl, trivial⟩ (fun w hw => (hw.to 4 [0, 1, 2, 3] 0 [] rfl)) (fun i hi => ?_)
  refine TR.seq ?_
  refine TR.seq ?_
  refine TR.region ?_
  refine RL.move rfl rfl rfl ?_
  refine RL.move rfl rfl rfl ?_
  refine RL.nilCheck rfl rfl rfl ?_
  refine RL.fieldAddr rfl re_tf101_3 rfl rfl ?_
  refine RL.load1 0 rfl re_ts23 rfl rfl rfl rfl ?_
  refine RL.lenSlice rfl re_tl23 rfl rfl ?_
  refine RL.bin rfl rfl rfl BinV.lss rfl ?_
  refine RL.nil ?_
  refine NX.seq ?_
  refine TR.cond rfl (fun h1 => ?_) (fun h1 => ?_)
  · skip
    have hk1 : i < d.held.length := by have := of_decide_eq_true h1; omega
    refine TR.openP (fun w hw => own_at (i := 3) rfl (heC_ne (by omega)) hw) (fun gh hgh => ?_)
    refine TR.skip ?_
    refine NX.seq ?_
    refine TR.seq ?_
    refine TR.block ?_
    refine TR.seq ?_
    refine TR.region ?_
    refine RL.move rfl rfl rfl ?_
    refine RL.nilCheck rfl rfl rfl ?_
    refine RL.fieldAddr rfl re_tf101_3 rfl rfl ?_
    refine RL.load1 0 rfl re_ts23 rfl rfl rfl rfl ?_
    refine RL.move rfl rfl rfl ?_
    refine RL.indexAddr rfl re_tl23 re_tz39 (congrArg (fun a => some (Value.slice a _ _)) hgh) rfl (by omega) (by omega) rfl ?_
    refine RL.fieldAddr rfl re_tf39_0 rfl rfl ?_
    refine RL.loadS rfl rfl (own_one (i := 3) rfl hgh re_ts3 (show (heC d.held)[0 + ((i : Nat) : Int).toNat * 2 + 0]? = some (I d.held[i].k) from heC_at1 hk1 rfl)) rfl ?_
    refine RL.move rfl rfl rfl ?_
    refine RL.bin rfl rfl rfl BinV.eql rfl ?_
    refine RL.nil ?_
    refine NX.seq ?_
    refine TR.cond rfl (fun h2 => ?_) (fun h2 => ?_)
    · skip
      have he : d.held[i].k = k := of_decide_eq_true h2
      refine TR.seq ?_
      refine TR.region ?_
      refine RL.move rfl rfl rfl ?_
      refine RL.assign rfl rfl rfl ?_
      refine RL.nil ?_
      refine NX.seq ?_
      refine TR.ret ?_
      refine NX.retBlock ?_
      refine NX.retThen ?_
      refine NX.retThen ?_
      refine NX.retBlock ?_
      refine NX.retThen ?_
      exact NX.ret1 (⟨(i : Int), .inr ⟨i, rfl, hk1, he⟩⟩ : {z : Int // FdR d.held k z}) rfl rfl rfl (fun w hw => St.rdClose (d := d) rfl rfl rfl rfl rfl rfl rfl (hw.to 4 [0, 1, 2, 3] 0 [] rfl))
    · skip
      have he : ¬ d.held[i].k = k := of_decide_eq_false h2
      refine TR.skip ?_
      refine NX.off ?_
      refine NX.seq ?_
      refine TR.region ?_
      refine RL.move rfl rfl rfl ?_
      refine RL.bin rfl rfl rfl (BinV.add _ rfl (by omega) (by omega)) rfl ?_
      refine RL.assign rfl rfl rfl ?_
      refine RL.nil ?_
      refine NX.roundP (i + 1) ⟨hk1, by rw [List.take_succ_eq_append_getElem hk1]; exact mem_snoc_all hi.2 he⟩ (by omega) ⟨rfl, rfl, rfl, trivial⟩ (fun w hw => (hw.to 4 [0, 1, 2, 3] 0 [] rfl))
  · skip
    have hk2 : i = d.held.length := by have := of_decide_eq_false h1; have := hi.1; omega
    refine TR.exit ?_
    refine NX.exitThen ?_
    refine NX.exitThen ?_
    refine NX.exitHere ?_
    refine NX.seq ?_
    refine TR.seq ?_
    refine TR.region ?_
    refine RL.assign rfl rfl rfl ?_
    refine RL.nil ?_
    refine NX.seq ?_
    refine TR.ret ?_
    exact NX.ret1 (⟨-1, .inl ⟨rfl, by have h9 := hi.2; rw [hk2, List.take_length] at h9; exact h9⟩⟩ : {z : Int // FdR d.held k z}) rfl rfl rfl (fun w hw => St.rdClose (d := d) rfl rfl rfl rfl rfl rfl rfl (hw.to 4 [0, 1, 2, 3] 0 [] rfl))
set_option maxHeartbeats 1000000 in
theorem rbec_spec {l : List Ed} {oa : Option Addr} {ca : Nat} {b : Nat} {d : RD} {h : Hs} {M : List HP} {F : List Fact} (hr : RelR d h) (hD : RdF d ∈ F) (hl : ArrF oa (edC l) ∈ F) (hll : l.length ≤ 1099511627776) (hb : soundE h.tx.length l = 0 → (applyGo h.tx 0 l).length ≤ 140737488355328) (hv : h.v < 1099511627776) : Ctr Try.prog 61 [.pointer (some ⟨b, 0, none⟩), .slice oa l.length ca] (RdB 101 9 26 39 b (d) :: M) F {q : RD // RelR q (becH h l).2} (fun _ => I (becH h l).1) (fun q => RdB 101 9 26 39 b (q.1) :: M) (fun q => RdF q.1 :: F) := by
  refine Ctr.body Try.func61 rfl rfl ?_
  refine TR.seq ?_
  refine TR.region ?_
  refine RL.assign rfl rfl rfl ?_
  refine RL.nil ?_
  refine NX.seq ?_
  refine TR.seq ?_
  refine TR.region ?_
  refine RL.move rfl rfl rfl ?_
  refine RL.call rfl rfl Try.call25 rfl (rtext_spec hr) (fun _ => ?_)
  refine RL.move rfl rfl rfl ?_
  refine RL.call rfl rfl Try.call44 rfl (rapply_spec (s := h.tx) (es := l) hl (by omega) (by have := hr.ok.tx; omega) hb) (fun _ => ?_)
  refine RL.move rfl rfl rfl ?_
  refine RL.extract rfl rfl rfl rfl ?_
  refine RL.extract rfl rfl rfl rfl ?_
  refine RL.assign rfl rfl rfl ?_
  refine RL.assign rfl rfl rfl ?_
  refine RL.nil ?_
  refine NX.seq ?_
  refine TR.seq ?_
  refine TR.seq ?_
  refine TR.region ?_
  refine RL.move rfl rfl rfl ?_
  refine RL.bin rfl rfl rfl BinV.neq rfl ?_
  refine RL.nil ?_
  refine NX.seq ?_
  refine TR.cond rfl (fun h1 => ?_) (fun h1 => ?_)
  · skip
    have hz : soundE h.tx.length l ≠ 0 := by have h9 := of_decide_eq_true h1; rw [applyE_err] at h9; exact h9
    refine TR.seq ?_
    refine TR.region ?_
    refine RL.move rfl rfl rfl ?_
    refine RL.assign rfl rfl rfl ?_
    refine RL.nil ?_
    refine NX.seq ?_
    refine TR.ret ?_
    refine NX.retThen ?_
    have hbe : becH h l = (soundE h.tx.length l, h) := if_pos hz
    exact NX.ret1 (⟨d, by rw [hbe]; exact hr⟩ : {q : RD // RelR q (becH h l).2}) rfl rfl (by rw [hbe]; show I (applyE h.tx l).2 = I (soundE h.tx.length l); rw [applyE_err]) (fun w hw => (show St w (RdB 101 9 26 39 b (d) :: M) F from (hw.to 1 [0] 0 [] rfl)).derive (ψ := RdF d) (fun K hf => hf _ hD))
  · skip
    have hz0 : soundE h.tx.length l = 0 := by have h9 := Decidable.not_not.1 (of_decide_eq_false h1); rw [applyE_err] at h9; exact h9
    have hz : ¬ soundE h.tx.length l ≠ 0 := fun e => e hz0
    rw [applyE_ok hz0]
    have hb1 := hb hz0
    refine TR.skip ?_
    refine NX.seq ?_
    refine TR.seq ?_
    refine TR.seq ?_
    refine TR.region ?_
    refine RL.move rfl rfl rfl ?_
    refine RL.lenStr rfl re_tstr9 rfl rfl ?_
    refine RL.bin rfl rfl rfl BinV.gtr rfl ?_
    refine RL.nil ?_
    refine NX.seq ?_
    refine TR.cond rfl (fun h2 => ?_) (fun h2 => ?_)
    · skip
      have hbig : 4096 < (applyGo h.tx 0 l).length := by have := of_decide_eq_true h2; omega
      refine TR.seq ?_
      refine TR.region ?_
      refine RL.assign rfl rfl rfl ?_
      refine RL.nil ?_
      refine NX.seq ?_
      refine TR.ret ?_
      refine NX.retThen ?_
      have hbe : becH h l = (4, h) := (if_neg hz).trans (if_pos hbig)
      exact NX.ret1 (⟨d, by rw [hbe]; exact hr⟩ : {q : RD // RelR q (becH h l).2}) rfl rfl (by rw [hbe]) (fun w hw => (show St w (RdB 101 9 26 39 b (d) :: M) F from (hw.to 1 [0] 0 [] rfl)).derive (ψ := RdF d) (fun K hf => hf _ hD))
    · skip
      have hbig : ¬ 4096 < (applyGo h.tx 0 l).length := by have := of_decide_eq_false h2; omega
      refine TR.skip ?_
      refine NX.seq ?_
      refine TR.seq ?_
      have hrl := hr.len
      refine TR.open (fun w hw => (St.exOpen (show St w (Ex _ :: _) _ from hw))) (fun ic => ?_)
      refine TR.region ?_
      refine RL.move rfl rfl rfl ?_
      refine RL.move rfl rfl rfl ?_
      refine RL.nilCheck rfl rfl rfl ?_
      refine RL.fieldAddr rfl re_tf101_1 rfl rfl ?_
      refine RL.load1 0 rfl re_ts98 rfl rfl rfl rfl ?_
      refine RL.move rfl rfl rfl ?_
      refine RL.buildSlice rfl rfl (re_bs98_1_0 _) rfl (fun b3 => ?_)
      refine RL.ofGV rfl rfl (GV.append (j := 2) re_tl98 re_ni98 re_te9 rfl rfl rfl (src_box (i := 0) rfl rfl rfl) (by omega) (by omega)) (fun y1 => ?_)
      refine RL.nilCheck rfl rfl rfl ?_
      refine RL.fieldAddr rfl re_tf101_1 rfl rfl ?_
      refine RL.store1 1 rfl re_ts98 rfl rfl rfl rfl rfl ?_
      refine RL.nil ?_
      refine NX.seq ?_
      refine TR.seq ?_
      refine TR.region ?_
      refine RL.move rfl rfl rfl ?_
      refine RL.move rfl rfl rfl ?_
      refine RL.nilCheck rfl rfl rfl ?_
      refine RL.fieldAddr rfl re_tf101_2 rfl rfl ?_
      refine RL.load1 1 rfl re_ts99 rfl rfl rfl rfl ?_
      refine RL.move rfl rfl rfl ?_
      refine RL.buildSlice rfl rfl (re_bs99_1_0 _ _ _) rfl (fun b5 => ?_)
      refine RL.ofGV rfl rfl (GV.append (j := 4) re_tl99 re_ni99 re_te26 rfl rfl rfl (src_box (i := 0) rfl rfl rfl) (by omega) (by omega)) (fun y2 => ?_)
      refine RL.nilCheck rfl rfl rfl ?_
      refine RL.fieldAddr rfl re_tf101_2 rfl rfl ?_
      refine RL.store1 2 rfl re_ts99 rfl rfl rfl rfl rfl ?_
      refine RL.nil ?_
      refine NX.seq ?_
      refine TR.seq ?_
      refine TR.region ?_
      refine RL.assign rfl rfl rfl ?_
      refine RL.nil ?_
      refine NX.seq ?_
      refine TR.ret ?_
      have hbe : becH h l = (0, { h with hist := h.hist ++ [((applyGo h.tx 0 l), l)] }) := (if_neg hz).trans (if_neg hbig)
      have hbo := (becH_ok (l := l) hr.ok hv).1
      rw [hbe] at hbo
      refine NX.ret1 (⟨({ d with rows := d.rows ++ [(⟨(applyGo h.tx 0 l), l, oa, ca⟩ : StR)] } : RD), by rw [hbe]; exact hr.grow (x := (⟨(applyGo h.tx 0 l), l, oa, ca⟩ : StR)) hbo⟩ : {q : RD // RelR q (becH h l).2}) rfl rfl (by rw [hbe]) (fun w hw => ?_)
      have h9 : St w (RdB 101 9 26 39 b (({ d with rows := d.rows ++ [(⟨(applyGo h.tx 0 l), l, oa, ca⟩ : StR)] } : RD)) :: M) F := St.rdClose (d := ({ d with rows := d.rows ++ [(⟨(applyGo h.tx 0 l), l, oa, ca⟩ : StR)] } : RD)) rfl (by rw [List.length_append]; rfl) (by rw [List.length_append]; rfl) rfl (txC_append _ _).symm (ecC_append _ _).symm rfl (hw.to 6 [2, 3, 4, 5] 0 [] rfl)
      exact h9.derive (ψ := RdF ({ d with rows := d.rows ++ [(⟨(applyGo h.tx 0 l), l, oa, ca⟩ : StR)] } : RD)) (fun K hf => RdF.grow (hf _ hD) (hf _ hl))
theorem rapp_spec {l : List PE} {oa : Option Addr} {ca : Nat} {b : Nat} {d : RD} {h : Hs} {M : List HP} {F : List Fact} (hr : RelR d h) (hD : RdF d ∈ F) (hl : ArrF oa (peC l) ∈ F) (hll : l.length ≤ 1099511627776) (htp : txsP l ≤ 1099511627776) (hv : h.v < 1099511627776) : Ctr Try.prog 60 [.pointer (some ⟨b, 0, none⟩), .slice oa l.length ca] (RdB 101 9 26 39 b (d) :: M) F {q : RD // RelR q (appH h l).2} (fun _ => I (appH h l).1) (fun q => RdB 101 9 26 39 b (q.1) :: M) (fun q => RdF q.1 :: F) := by
  refine Ctr.body Try.func60 rfl rfl ?_
  refine TR.seq ?_
  refine TR.region ?_
  refine RL.assign rfl rfl rfl ?_
  refine RL.nil ?_
  refine NX.seq ?_
  refine TR.seq ?_
  refine TR.region ?_
  refine RL.move rfl rfl rfl ?_
  refine RL.call rfl rfl Try.call25 rfl (rtext_spec hr) (fun _ => ?_)
  refine RL.move rfl rfl rfl ?_
  refine RL.call rfl rfl Try.call82 rfl (rbytes_spec (tx := h.tx) (l := l) hl (by have := hr.ok.tx; omega) (by omega)) (fun zb => ?_)
  refine RL.move rfl rfl rfl ?_
  refine RL.extract rfl rfl rfl rfl ?_
  refine RL.extract rfl rfl rfl rfl ?_
  refine RL.assign rfl rfl rfl ?_
  refine RL.assign rfl rfl rfl ?_
  refine RL.nil ?_
  refine NX.seq ?_
  refine TR.seq ?_
  refine TR.seq ?_
  refine TR.region ?_
  refine RL.move rfl rfl rfl ?_
  refine RL.bin rfl rfl rfl BinV.neq rfl ?_
  refine RL.nil ?_
  refine NX.seq ?_
  refine TR.cond rfl (fun h1 => ?_) (fun h1 => ?_)
  · skip
    have hz : (posM h.tx l).2 ≠ 0 := of_decide_eq_true h1
    refine TR.seq ?_
    refine TR.region ?_
    refine RL.move rfl rfl rfl ?_
    refine RL.assign rfl rfl rfl ?_
    refine RL.nil ?_
    refine NX.seq ?_
    refine TR.ret ?_
    refine NX.retThen ?_
    have hae : appH h l = ((posM h.tx l).2, h) := if_pos hz
    exact NX.ret1 (⟨d, by rw [hae]; exact hr⟩ : {q : RD // RelR q (appH h l).2}) rfl rfl (by rw [hae]; rfl) (fun w hw => (show St w (RdB 101 9 26 39 b (d) :: M) F from (hw.to 1 [0] 1 [] rfl)).derive (ψ := RdF d) (fun K hf => hf _ hD))
  · skip
    have hz : ¬ (posM h.tx l).2 ≠ 0 := of_decide_eq_false h1
    have hpl := posM_len h.tx l
    have htx := hr.ok.tx
    have hb : soundE h.tx.length (posM h.tx l).1 = 0 → (applyGo h.tx 0 (posM h.tx l).1).length ≤ 140737488355328 := fun e => by
      have := apply_le (s := h.tx) (es := (posM h.tx l).1) (q := 0) (soundE_sound1 e)
      have := posM_txs h.tx l
      omega
    refine TR.skip ?_
    refine NX.seq ?_
    refine TR.seq ?_
    refine TR.region ?_
    refine RL.move rfl rfl rfl ?_
    refine RL.move rfl rfl rfl ?_
    refine RL.call rfl rfl Try.call61 rfl (rbec_spec (l := (posM h.tx l).1) hr (.tail _ hD) (.head _) (by omega) hb hv) (fun q => ?_)
    refine RL.assign rfl rfl rfl ?_
    refine RL.nil ?_
    refine NX.seq ?_
    refine TR.ret ?_
    have hae : appH h l = becH h (posM h.tx l).1 := if_neg hz
    refine NX.ret1 (⟨q.1, by rw [hae]; exact q.2⟩ : {q : RD // RelR q (appH h l).2}) rfl rfl (by rw [hae]) (fun w hw => (hw.to 1 [0] 2 [0] rfl))
theorem rnew_spec {tx : List UInt8} {ver : Int} {M : List HP} {F : List Fact} (htx : tx.length ≤ 4096) (hv0 : 0 ≤ ver) (hv1 : ver ≤ 1099511627776) : Ctr Try.prog 22 [S tx, I ver] M F {q : Nat × RD // RelR q.2 ⟨ver, [(tx, [])], []⟩} (fun q => .tuple #[.pointer (some ⟨q.1.1, 0, none⟩), I 0]) (fun q => RdB 101 9 26 39 q.1.1 (q.1.2) :: M) (fun q => RdF q.1.2 :: F) := by
  refine Ctr.body Try.func22 rfl rfl ?_
  refine TR.seq ?_
  refine TR.region ?_
  refine RL.assign rfl rfl rfl ?_
  refine RL.assign rfl rfl rfl ?_
  refine RL.nil ?_
  refine NX.seq ?_
  refine TR.seq ?_
  refine TR.seq ?_
  refine TR.region ?_
  refine RL.move rfl rfl rfl ?_
  refine RL.lenStr rfl re_tstr9 rfl rfl ?_
  refine RL.bin rfl rfl rfl (BinV.to (d := false) BinV.gtr (decide_eq_false (by omega))) rfl ?_
  refine RL.nil ?_
  refine NX.seq ?_
  refine TR.condF rfl ?_
  refine TR.skip ?_
  refine NX.seq ?_
  refine TR.seq ?_
  refine TR.seq ?_
  refine TR.region ?_
  refine RL.move rfl rfl rfl ?_
  refine RL.bin rfl rfl rfl (BinV.to (d := false) BinV.lss (decide_eq_false (by omega))) rfl ?_
  refine RL.move rfl rfl rfl ?_
  refine RL.move rfl rfl rfl ?_
  refine RL.bin rfl rfl rfl (BinV.to (d := false) BinV.gtr (decide_eq_false (by omega))) rfl ?_
  refine RL.pickF rfl rfl rfl rfl ?_
  refine RL.nil ?_
  refine NX.seq ?_
  refine TR.condF rfl ?_
  refine TR.skip ?_
  refine NX.seq ?_
  refine TR.seq ?_
  refine TR.region ?_
  refine RL.move rfl rfl rfl ?_
  refine RL.move rfl rfl rfl ?_
  refine RL.buildSlice rfl rfl (re_bs98_1_0 _) rfl (fun b1 => ?_)
  refine RL.weak (fun w hw => St.boxSl (n := 1) (size := 1) rfl (by decide) hw) ?_
  refine RL.buildSlice rfl rfl (re_bs99_1_0 _ _ _) rfl (fun b2 => ?_)
  refine RL.weak (fun w hw => St.boxSl (n := 1) (size := 1) rfl (by decide) hw) ?_
  refine RL.build rfl rfl (re_bv101_0_1_2 _ _ _ _ _ _ _) rfl ?_
  refine RL.boxA rfl rfl rfl (fun b3 => ?_)
  refine RL.weak (fun w hw => (OwnSl.nil_new 39 2 hw).swap) ?_
  refine RL.assign rfl rfl rfl ?_
  refine RL.assign rfl rfl rfl ?_
  refine RL.nil ?_
  refine NX.seq ?_
  refine TR.ret ?_
  refine NX.ret2 (⟨(b3, ⟨ver, [⟨tx, [], none, 0⟩], []⟩), RelR.new htx hv0 hv1⟩ : {q : Nat × RD // RelR q.2 ⟨ver, [(tx, [])], []⟩}) rfl rfl rfl rfl (fun w hw => ?_)
  have h9 : St w (RdB 101 9 26 39 b3 (⟨ver, [⟨tx, [], none, 0⟩], []⟩) :: M) F := St.rdClose rfl rfl rfl rfl rfl rfl rfl (show St w (_ :: _ :: _ :: _ :: M) F from (hw.to 4 [0, 3, 2, 1] 0 [] rfl))
  exact h9.derive (fun K hf => ⟨fun r hr => by rw [List.mem_singleton.1 hr]; exact .inl rfl, fun x hx => absurd hx (by simp)⟩)
theorem rnew_bad {tx : List UInt8} {ver : Int} {M : List HP} {F : List Fact} (htx : tx.length ≤ 4096) (hb : ver < 0 ∨ 1099511627776 < ver) : Ctr Try.prog 22 [S tx, I ver] M F Unit (fun _ => .tuple #[.pointer none, I 1]) (fun _ => M) (fun _ => F) := by
  refine Ctr.body Try.func22 rfl rfl ?_
  refine TR.seq ?_
  refine TR.region ?_
  refine RL.assign rfl rfl rfl ?_
  refine RL.assign rfl rfl rfl ?_
  refine RL.nil ?_
  refine NX.seq ?_
  refine TR.seq ?_
  refine TR.seq ?_
  refine TR.region ?_
  refine RL.move rfl rfl rfl ?_
  refine RL.lenStr rfl re_tstr9 rfl rfl ?_
  refine RL.bin rfl rfl rfl (BinV.to (d := false) BinV.gtr (decide_eq_false (by omega))) rfl ?_
  refine RL.nil ?_
  refine NX.seq ?_
  refine TR.condF rfl ?_
  refine TR.skip ?_
  refine NX.seq ?_
  refine TR.seq ?_
  refine TR.seq ?_
  refine TR.region ?_
  refine RL.move rfl rfl rfl ?_
  refine RL.bin rfl rfl rfl BinV.lss rfl ?_
  refine RL.move rfl rfl rfl ?_
  refine RL.part (fun h1 => ?_) (fun h1 => ?_)
  · skip
    refine RL.skip rfl rfl rfl ?_
    refine RL.skip rfl rfl rfl ?_
    refine RL.pickT rfl rfl rfl rfl ?_
    refine RL.nil ?_
    refine NX.seq ?_
    refine TR.condT rfl ?_
    refine TR.seq ?_
    refine TR.region ?_
    refine RL.assign rfl rfl rfl ?_
    refine RL.assign rfl rfl rfl ?_
    refine RL.nil ?_
    refine NX.seq ?_
    refine TR.ret ?_
    refine NX.retThen ?_
    exact NX.ret2 () rfl rfl rfl rfl (fun w hw => hw)
  · skip
    have hn0 := of_decide_eq_false h1
    refine RL.move rfl rfl rfl ?_
    refine RL.bin rfl rfl rfl (BinV.to (d := true) BinV.gtr (decide_eq_true (by omega))) rfl ?_
    refine RL.pickF rfl rfl rfl rfl ?_
    refine RL.nil ?_
    refine NX.seq ?_
    refine TR.condT rfl ?_
    refine TR.seq ?_
    refine TR.region ?_
    refine RL.assign rfl rfl rfl ?_
    refine RL.assign rfl rfl rfl ?_
    refine RL.nil ?_
    refine NX.seq ?_
    refine TR.ret ?_
    refine NX.retThen ?_
    exact NX.ret2 () rfl rfl rfl rfl (fun w hw => hw)
end Go.Proofs.Ytkdeopioelocnaa

namespace Go.Proofs.Ytkdeopioelocnaa
open Go.GL
set_option linter.unusedVariables false
theorem rf_bs23_1_0 (x00 : Int) (x01 : Option Addr) (x01n x01c : Nat) : BuildSV Try.prog 23 39 1 [(0, .agg #[.int .i64 x00, .slice x01 x01n x01c])] [.int .i64 x00, .slice x01 x01n x01c] := fun w => by kernel_rfl
theorem rf_ni23 : noInt Try.prog 23 = true := by kernel_rfl
theorem rf_ta39 : tyAgg Try.prog 39 2 = true := by kernel_rfl
theorem rf_te39 : tyElem Try.prog 39 2 32 = true := by kernel_rfl
theorem rf_tf101_3 : fieldOff Try.prog 101 3 3 = true := by kernel_rfl
theorem rf_tf39_0 : fieldOff Try.prog 39 0 0 = true := by kernel_rfl
theorem rf_tf39_1 : fieldOff Try.prog 39 1 1 = true := by kernel_rfl
theorem rf_tl23 : tySlice Try.prog 23 39 = true := by kernel_rfl
theorem rf_tl28 : tySlice Try.prog 28 63 = true := by kernel_rfl
theorem rf_ts23 : tyScalar Try.prog 23 = true := by kernel_rfl
theorem rf_ts28 : tyScalar Try.prog 28 = true := by kernel_rfl
theorem rf_ts3 : tyScalar Try.prog 3 = true := by kernel_rfl
theorem rf_tz39 : tySize Try.prog 39 2 = true := by kernel_rfl
set_option maxHeartbeats 1000000 in
theorem rrecv_spec {ver : Int} {l : List PE} {oa : Option Addr} {ca : Nat} {b : Nat} {d : RD} {h : Hs} {M : List HP} {F : List Fact} (hr : RelR d h) (hD : RdF d ∈ F) (hl : ArrF oa (peC l) ∈ F) (hll : l.length ≤ 1099511627776) (htp : txsP l ≤ 1099511627776) (hver : I64 ver) : Ctr Try.prog 23 [.pointer (some ⟨b, 0, none⟩), .agg #[I ver, .slice oa l.length ca]] (RdB 101 9 26 39 b (d) :: M) F {q : RD // RelR q (recvH h ver l).2} (fun _ => .tuple #[I (recvH h ver l).1.1, I (recvH h ver l).1.2]) (fun q => RdB 101 9 26 39 b (q.1) :: M) (fun q => RdF q.1 :: F) := by
  refine Ctr.body Try.func23 rfl rfl ?_
  refine TR.seq ?_
  refine TR.region ?_
  refine RL.boxA rfl rfl rfl (fun b1 => ?_)
  refine RL.assign rfl rfl rfl ?_
  refine RL.assign rfl rfl rfl ?_
  refine RL.nil ?_
  refine NX.seq ?_
  refine TR.seq ?_
  refine TR.seq ?_
  have hrl := hr.len
  have hv0 := hr.ok.v0
  have hv1x := hr.ok.v1
  refine TR.region ?_
  refine RL.fieldAddr rfl rf_tf39_0 rfl rfl ?_
  refine RL.load1 0 rfl rf_ts3 rfl rfl rfl rfl ?_
  refine RL.bin rfl rfl rfl BinV.lss rfl ?_
  refine RL.move rfl rfl rfl ?_
  refine RL.part (fun h2 => ?_) (fun h2 => ?_)
  · skip
    have hbad : ver < 1 ∨ 1099511627776 < ver := .inl (of_decide_eq_true h2)
    refine RL.skip rfl rfl rfl ?_
    refine RL.skip rfl rfl rfl ?_
    refine RL.skip rfl rfl rfl ?_
    refine RL.pickT rfl rfl rfl rfl ?_
    refine RL.nil ?_
    refine NX.seq ?_
    refine TR.condT rfl ?_
    refine TR.seq ?_
    refine TR.region ?_
    refine RL.assign rfl rfl rfl ?_
    refine RL.assign rfl rfl rfl ?_
    refine RL.nil ?_
    refine NX.seq ?_
    refine TR.ret ?_
    refine NX.retThen ?_
    have hre : recvH h ver l = ((0, 1), h) := if_pos hbad
    exact NX.ret2 (⟨d, by rw [hre]; exact hr⟩ : {q : RD // RelR q (recvH h ver l).2}) rfl rfl rfl (by rw [hre]) (fun w hw => (show St w (RdB 101 9 26 39 b (d) :: M) F from (hw.to 2 [1] 0 [] rfl)).derive (ψ := RdF d) (fun K hf => hf _ hD))
  · skip
    have hb1 := of_decide_eq_false h2
    refine RL.fieldAddr rfl rf_tf39_0 rfl rfl ?_
    refine RL.load1 0 rfl rf_ts3 rfl rfl rfl rfl ?_
    refine RL.bin rfl rfl rfl BinV.gtr rfl ?_
    refine RL.pickF rfl rfl rfl rfl ?_
    refine RL.nil ?_
    refine NX.seq ?_
    refine TR.cond rfl (fun h3 => ?_) (fun h3 => ?_)
    · skip
      have hbad : ver < 1 ∨ 1099511627776 < ver := .inr (of_decide_eq_true h3)
      refine TR.seq ?_
      refine TR.region ?_
      refine RL.assign rfl rfl rfl ?_
      refine RL.assign rfl rfl rfl ?_
      refine RL.nil ?_
      refine NX.seq ?_
      refine TR.ret ?_
      refine NX.retThen ?_
      have hre : recvH h ver l = ((0, 1), h) := if_pos hbad
      exact NX.ret2 (⟨d, by rw [hre]; exact hr⟩ : {q : RD // RelR q (recvH h ver l).2}) rfl rfl rfl (by rw [hre]) (fun w hw => (show St w (RdB 101 9 26 39 b (d) :: M) F from (hw.to 2 [1] 0 [] rfl)).derive (ψ := RdF d) (fun K hf => hf _ hD))
    · skip
      have hc1 : ¬ (ver < 1 ∨ 1099511627776 < ver) := by have := of_decide_eq_false h3; omega
      refine TR.skip ?_
      refine NX.seq ?_
      refine TR.seq ?_
      refine TR.seq ?_
      refine TR.region ?_
      refine RL.fieldAddr rfl rf_tf39_1 rfl rfl ?_
      refine RL.load1 0 rfl rf_ts28 rfl rfl rfl rfl ?_
      refine RL.lenSlice rfl rf_tl28 rfl rfl ?_
      refine RL.bin rfl rfl rfl BinV.gtr rfl ?_
      refine RL.nil ?_
      refine NX.seq ?_
      refine TR.cond rfl (fun h4 => ?_) (fun h4 => ?_)
      · skip
        have hbig : 64 < l.length := by have := of_decide_eq_true h4; omega
        refine TR.seq ?_
        refine TR.region ?_
        refine RL.assign rfl rfl rfl ?_
        refine RL.assign rfl rfl rfl ?_
        refine RL.nil ?_
        refine NX.seq ?_
        refine TR.ret ?_
        refine NX.retThen ?_
        have hre : recvH h ver l = ((0, 4), h) := (if_neg hc1).trans (if_pos hbig)
        exact NX.ret2 (⟨d, by rw [hre]; exact hr⟩ : {q : RD // RelR q (recvH h ver l).2}) rfl rfl rfl (by rw [hre]) (fun w hw => (show St w (RdB 101 9 26 39 b (d) :: M) F from (hw.to 2 [1] 0 [] rfl)).derive (ψ := RdF d) (fun K hf => hf _ hD))
      · skip
        have hc2 : ¬ 64 < l.length := by have := of_decide_eq_false h4; omega
        refine TR.skip ?_
        refine NX.seq ?_
        refine TR.seq ?_
        refine TR.seq ?_
        refine TR.sub (E' := [(0, _), (3, _), (4, _), (5, _)]) ⟨rfl, rfl, rfl, rfl, trivial⟩ ?_
        refine TR.draw mixed ?_
        apply AR.more [(0, _), (1, _), (2, _)]
        refine AR.eff [0, 1, 2] 3 [0, 1, 2, 3, 4, 5, 6, 7, 8, 9, 10, 11] ⟨QOne.yes rfl rfl rfl (PV.fieldAddr rf_tf39_0 rfl), QOne.yes rfl rfl rfl (PV.load1 0 rf_ts3 rfl rfl rfl), QOne.yes rfl rfl rfl (PV.move rfl), trivial⟩ rfl rfl rfl rfl rfl rfl rfl (EV.call rfl Try.call58 (Ctr.pick 2 [1, 0] rfl (rversion_spec hr))) (fun _ => ?_)
        refine AR.done [2] rfl ?_
        cases h5 : decide (ver ≤ h.v)
        · skip
          have hnv : ¬ ver ≤ h.v := of_decide_eq_false h5
          apply AR.more [(4, _), (5, .bool false), (6, _), (7, _), (8, _)]
          refine AR.eff [0, 1, 4, 5, 6, 7, 8] 9 [0, 1, 2, 3, 4, 5, 6, 7, 8, 9, 10, 11] ⟨QOne.yes rfl rfl rfl (PV.fieldAddr rf_tf39_0 rfl), QOne.yes rfl rfl rfl (PV.load1 1 rf_ts3 rfl rfl rfl), QOne.yes rfl rfl rfl (PV.bin rfl rfl BinV.leq), QOne.yes rfl rfl rfl (PV.cast (congrArg Value.bool h5) (PV.move rfl)), QOne.yes rfl rfl rfl (PV.move rfl), QOne.yes rfl rfl rfl (PV.fieldAddr rf_tf39_0 rfl), QOne.yes rfl rfl rfl (PV.load1 1 rf_ts3 rfl rfl rfl), trivial⟩ rfl rfl rfl rfl rfl rfl rfl (EV.call rfl Try.call59 (rfind_spec (k := ver) hr)) (fun zf => ?_)
          refine AR.done [6, 8, 5, 4, 7, 1, 0] rfl ?_
          apply AR.more [(10, _), (11, _)]
          refine AR.last [10, 11] [0, 1, 2, 3, 4, 5, 6, 7, 8, 9, 10, 11] ⟨QOne.yes rfl rfl rfl (PV.bin rfl rfl BinV.geq), QOne.yes rfl rfl rfl (PV.pickF rfl rfl), trivial⟩ rfl rfl rfl ?_
          refine NX.sub (E' := [(0, _), (3, _), (4, _), (5, _), (34, _)]) ⟨rfl, rfl, rfl, rfl, rfl, trivial⟩ ?_
          refine NX.seq ?_
          refine TR.cond rfl (fun h6 => ?_) (fun h6 => ?_)
          · skip
            have htw : ver ≤ h.v ∨ (hGet h.held ver).isSome = true := .inr (by obtain ⟨_, _, _, _, h8, _⟩ := zf.2.yes hr (of_decide_eq_true h6); rw [h8]; rfl)
            refine TR.seq ?_
            refine TR.region ?_
            refine RL.assign rfl rfl rfl ?_
            refine RL.assign rfl rfl rfl ?_
            refine RL.nil ?_
            refine NX.seq ?_
            refine TR.ret ?_
            refine NX.retThen ?_
            have hre : recvH h ver l = ((0, 8), h) := (if_neg hc1).trans ((if_neg hc2).trans (if_pos htw))
            exact NX.ret2 (⟨d, by rw [hre]; exact hr⟩ : {q : RD // RelR q (recvH h ver l).2}) rfl rfl rfl (by rw [hre]) (fun w hw => (show St w (RdB 101 9 26 39 b (d) :: M) F from (hw.to 2 [0] 0 [] rfl)).derive (ψ := RdF d) (fun K hf => hf _ hD))
          · skip
            have hc3 : ¬ (ver ≤ h.v ∨ (hGet h.held ver).isSome = true) := fun e => by
              rcases e with e | e
              · exact hnv e
              · rw [zf.2.no hr (of_decide_eq_false h6)] at e; cases e
            refine TR.skip ?_
            refine NX.seq ?_
            refine TR.seq ?_
            refine TR.seq ?_
            refine TR.sub (E' := [(0, _), (3, _), (4, _), (5, _)]) ⟨rfl, rfl, rfl, rfl, trivial⟩ ?_
            refine TR.draw mixed ?_
            apply AR.more [(0, _), (1, _), (2, _)]
            refine AR.eff [0, 1, 2] 3 [0, 1, 2, 3, 4, 5] ⟨QOne.yes rfl rfl rfl (PV.fieldAddr rf_tf39_0 rfl), QOne.yes rfl rfl rfl (PV.load1 1 rf_ts3 rfl rfl rfl), QOne.yes rfl rfl rfl (PV.move rfl), trivial⟩ rfl rfl rfl rfl rfl rfl rfl (EV.call rfl Try.call58 (rversion_spec hr)) (fun _ => ?_)
            refine AR.done [2] rfl ?_
            apply AR.more [(4, _), (5, _)]
            refine AR.last [0, 1, 4, 5] [0, 1, 2, 3, 4, 5] ⟨QOne.yes rfl rfl rfl (PV.fieldAddr rf_tf39_0 rfl), QOne.yes rfl rfl rfl (PV.load1 1 rf_ts3 rfl rfl rfl), QOne.yes rfl rfl rfl (PV.bin rfl rfl (BinV.add (h.v + 1) rfl (by omega) (by omega))), QOne.yes rfl rfl rfl (PV.bin rfl rfl BinV.gtr), trivial⟩ rfl rfl rfl ?_
            refine NX.sub (E' := [(0, _), (3, _), (4, _), (5, _), (40, _)]) ⟨rfl, rfl, rfl, rfl, rfl, trivial⟩ ?_
            refine NX.seq ?_
            refine TR.cond rfl (fun h7 => ?_) (fun h7 => ?_)
            · skip
              have hea : h.v + 1 < ver := of_decide_eq_true h7
              refine TR.seq ?_
              refine TR.seq ?_
              refine TR.open (fun w hw => (St.exOpen (show St w (Ex _ :: _) _ from hw))) (fun ic => ?_)
              refine TR.region ?_
              refine RL.move rfl rfl rfl ?_
              refine RL.nilCheck rfl rfl rfl ?_
              refine RL.fieldAddr rfl rf_tf101_3 rfl rfl ?_
              refine RL.load1 0 rfl rf_ts23 rfl rfl rfl rfl ?_
              refine RL.lenSlice rfl rf_tl23 rfl rfl ?_
              refine RL.bin rfl rfl rfl BinV.geq rfl ?_
              refine RL.nil ?_
              refine NX.seq ?_
              refine TR.cond rfl (fun h8 => ?_) (fun h8 => ?_)
              · skip
                have hfull : 16 ≤ h.held.length := by have := of_decide_eq_true h8; omega
                refine TR.seq ?_
                refine TR.region ?_
                refine RL.assign rfl rfl rfl ?_
                refine RL.assign rfl rfl rfl ?_
                refine RL.nil ?_
                refine NX.seq ?_
                refine TR.ret ?_
                refine NX.retThen ?_
                refine NX.retThen ?_
                have hre : recvH h ver l = ((0, 4), h) := (if_neg hc1).trans ((if_neg hc2).trans ((if_neg hc3).trans ((if_pos hea).trans (if_pos hfull))))
                exact NX.ret2 (⟨d, by rw [hre]; exact hr⟩ : {q : RD // RelR q (recvH h ver l).2}) rfl rfl rfl (by rw [hre]) (fun w hw => (show St w (RdB 101 9 26 39 b (d) :: M) F from St.rdClose (d := d) rfl rfl rfl rfl rfl rfl rfl (hw.to 5 [0, 1, 2, 3] 0 [] rfl)).derive (ψ := RdF d) (fun K hf => hf _ hD))
              · skip
                have hfull : ¬ 16 ≤ h.held.length := by have := of_decide_eq_false h8; omega
                refine TR.skip ?_
                refine NX.seq ?_
                refine TR.seq ?_
                refine TR.sub (E' := [(0, _), (3, _), (4, _), (5, _)]) ⟨rfl, rfl, rfl, rfl, trivial⟩ ?_
                refine TR.draw mixed ?_
                apply AR.more [(0, _), (1, _), (2, _), (3, _), (4, _), (5, _)]
                refine AR.eff [0, 1, 2, 3, 4, 5] 6 [0, 1, 2, 3, 4, 5, 6, 7, 8, 9, 10] ⟨QOne.yes rfl rfl rfl (PV.move rfl), QOne.yes rfl rfl rfl (PV.move rfl), QOne.yes rfl rfl rfl (PV.nilCheck rfl), QOne.yes rfl rfl rfl (PV.fieldAddr rf_tf101_3 rfl), QOne.yes rfl rfl rfl (PV.load1 0 rf_ts23 rfl rfl rfl), QOne.yes rfl rfl rfl (PV.loadA 4 rfl rfl rf_ta39), trivial⟩ rfl rfl rfl rfl rfl rfl rfl (EV.buildSlice rfl (rf_bs23_1_0 _ _ _ _)) (fun b9 => ?_)
                refine AR.done [5] rfl ?_
                refine AR.eff [0, 1, 2, 3, 4] 7 [0, 1, 2, 3, 4, 5, 6, 7, 8, 9, 10] ⟨QOne.yes rfl rfl rfl (PV.move rfl), QOne.yes rfl rfl rfl (PV.move rfl), QOne.yes rfl rfl rfl (PV.nilCheck rfl), QOne.yes rfl rfl rfl (PV.fieldAddr rf_tf101_3 rfl), QOne.yes rfl rfl rfl (PV.load1 1 rf_ts23 rfl rfl rfl), trivial⟩ rfl rfl rfl rfl rfl rfl rfl (EV.ofGV (GV.append (j := 4) rf_tl23 rf_ni23 rf_te39 rfl rfl rfl (src_box (i := 0) rfl rfl rfl) (by omega) (by omega))) (fun y0 => ?_)
                refine AR.done [4, 3, 2, 1] rfl ?_
                apply AR.more [(8, _), (9, _)]
                refine AR.eff [0, 8, 9] 10 [0, 1, 2, 3, 4, 5, 6, 7, 8, 9, 10] ⟨QOne.yes rfl rfl rfl (PV.move rfl), QOne.yes rfl rfl rfl (PV.nilCheck rfl), QOne.yes rfl rfl rfl (PV.fieldAddr rf_tf101_3 rfl), trivial⟩ rfl rfl rfl rfl rfl rfl rfl (EV.store1 1 rf_ts23 rfl rfl rfl rfl rfl) (fun _ => ?_)
                refine AR.done [9, 0, 8] rfl ?_
                refine AR.last [] [0, 1, 2, 3, 4, 5, 6, 7, 8, 9, 10] trivial rfl rfl rfl ?_
                refine NX.sub (E' := [(0, _), (3, _), (4, _), (5, _)]) ⟨rfl, rfl, rfl, rfl, trivial⟩ ?_
                refine NX.seq ?_
                refine TR.seq ?_
                refine TR.region ?_
                refine RL.assign rfl rfl rfl ?_
                refine RL.assign rfl rfl rfl ?_
                refine RL.nil ?_
                refine NX.seq ?_
                refine TR.ret ?_
                refine NX.retThen ?_
                have hre : recvH h ver l = ((0, 0), { h with held := h.held ++ [(ver, l)] }) := (if_neg hc1).trans ((if_neg hc2).trans ((if_neg hc3).trans ((if_pos hea).trans (if_neg hfull))))
                have hok := recvH_ok (ver := ver) (l := l) hr.ok htp
                rw [hre] at hok
                refine NX.ret2 (⟨({ d with held := d.held ++ [(⟨ver, l, oa, ca⟩ : HeR)] } : RD), by rw [hre]; exact hr.put (x := (⟨ver, l, oa, ca⟩ : HeR)) hok⟩ : {q : RD // RelR q (recvH h ver l).2}) rfl rfl rfl (by rw [hre]) (fun w hw => ?_)
                have h9 : St w (RdB 101 9 26 39 b (({ d with held := d.held ++ [(⟨ver, l, oa, ca⟩ : HeR)] } : RD)) :: M) F := St.rdClose (d := ({ d with held := d.held ++ [(⟨ver, l, oa, ca⟩ : HeR)] } : RD)) rfl rfl rfl (by rw [List.length_append]; rfl) rfl rfl (by rw [heC_append]; rfl) (hw.to 6 [1, 2, 3, 4] 0 [] rfl)
                exact h9.derive (ψ := RdF ({ d with held := d.held ++ [(⟨ver, l, oa, ca⟩ : HeR)] } : RD)) (fun K hf => RdF.put (hf _ hD) (hf _ hl))
            · skip
              have hea : ¬ h.v + 1 < ver := of_decide_eq_false h7
              have hv1 : h.v < 1099511627776 := by omega
              refine TR.skip ?_
              refine NX.seq ?_
              refine TR.seq ?_
              refine TR.region ?_
              refine RL.move rfl rfl rfl ?_
              refine RL.fieldAddr rfl rf_tf39_1 rfl rfl ?_
              refine RL.load1 1 rfl rf_ts28 rfl rfl rfl rfl ?_
              refine RL.call rfl rfl Try.call60 rfl (rapp_spec (l := l) hr hD hl (by omega) htp hv1) (fun q => ?_)
              refine RL.assign rfl rfl rfl ?_
              refine RL.nil ?_
              refine NX.seq ?_
              refine TR.seq ?_
              refine TR.seq ?_
              refine TR.region ?_
              refine RL.move rfl rfl rfl ?_
              refine RL.bin rfl rfl rfl BinV.neq rfl ?_
              refine RL.nil ?_
              refine NX.seq ?_
              refine TR.cond rfl (fun h11 => ?_) (fun h11 => ?_)
              · skip
                have hae : (appH h l).1 ≠ 0 := of_decide_eq_true h11
                refine TR.seq ?_
                refine TR.region ?_
                refine RL.move rfl rfl rfl ?_
                refine RL.assign rfl rfl rfl ?_
                refine RL.assign rfl rfl rfl ?_
                refine RL.nil ?_
                refine NX.seq ?_
                refine TR.ret ?_
                refine NX.retThen ?_
                have hre : recvH h ver l = ((0, (appH h l).1), h) := (if_neg hc1).trans ((if_neg hc2).trans ((if_neg hc3).trans ((if_neg hea).trans (if_pos hae))))
                refine NX.ret2 (⟨q.1, by rw [hre]; exact q.2.of ((appH_ok (l := l) hr.ok hv1).2.2 hae)⟩ : {q : RD // RelR q (recvH h ver l).2}) rfl rfl rfl (by rw [hre]) (fun w hw => (hw.to 2 [0] 1 [0] rfl))
              · skip
                have hae : ¬ (appH h l).1 ≠ 0 := of_decide_eq_false h11
                refine TR.skip ?_
                refine NX.seq ?_
                refine TR.seq ?_
                refine TR.region ?_
                refine RL.assign rfl rfl rfl ?_
                refine RL.nil ?_
                refine NX.seq ?_
                refine TR.seq ?_
                refine TR.block ?_
                refine TR.loopP (ι := RrX) (fun x => RelR x.d x.h ∧ drainH x.n x.h = drainH 1 (appH h l).2 ∧ 1 ≤ x.n ∧ x.n + x.h.held.length ≤ 17) (fun x => [(0, .pointer (some ⟨b, 0, none⟩)), (7, I x.n)]) (fun x => RdB 101 9 26 39 b (x.d) :: M) (fun x => RdF x.d :: F) (fun x => x.h.held.length) ⟨1, q.1, (appH h l).2⟩ ⟨q.2, rfl, Int.le_refl _, by show (1 : Int) + ((appH h l).2.held.length : Int) ≤ 17; rw [appH_held]; have := hr.ok.few; omega⟩ ⟨rfl, rfl, trivial⟩ (fun w hw => (hw.to 2 [0] 1 [0] rfl)) (fun x hx => ?_)
                refine TR.seq ?_
                refine TR.seq ?_
                have hv0x := hx.1.ok.v0
                have hv1y := hx.1.ok.v1
                have hnx := hx.2.2
                have hxl := hx.1.len
                refine TR.region ?_
                refine RL.move rfl rfl rfl ?_
                refine RL.move rfl rfl rfl ?_
                refine RL.call rfl rfl Try.call58 rfl (rversion_spec hx.1) (fun _ => ?_)
                refine RL.bin rfl rfl rfl (BinV.add (x.h.v + 1) rfl (by omega) (by omega)) rfl ?_
                refine RL.call rfl rfl Try.call59 rfl (rfind_spec (k := x.h.v + 1) hx.1) (fun z1 => ?_)
                refine RL.bin rfl rfl rfl BinV.geq rfl ?_
                refine RL.nil ?_
                refine NX.seq ?_
                refine TR.cond rfl (fun h12 => ?_) (fun h12 => ?_)
                · skip
                  have hz1 : 0 ≤ z1.1 := of_decide_eq_true h12
                  refine TR.skip ?_
                  refine NX.seq ?_
                  refine TR.block ?_
                  refine TR.seq ?_
                  refine TR.region ?_
                  refine RL.move rfl rfl rfl ?_
                  refine RL.move rfl rfl rfl ?_
                  refine RL.call rfl rfl Try.call58 rfl (rversion_spec hx.1) (fun _ => ?_)
                  refine RL.bin rfl rfl rfl (BinV.add (x.h.v + 1) rfl (by omega) (by omega)) rfl ?_
                  refine RL.call rfl rfl Try.call59 rfl (rfind_spec (k := x.h.v + 1) hx.1) (fun z2 => ?_)
                  obtain ⟨zv, zh⟩ := z2
                  obtain ⟨i, rfl, hi, hki, hgs, hdel⟩ := zh.yes hx.1 (by
                    by_cases e : 0 ≤ zv
                    · exact e
                    · obtain ⟨_, _, _, _, h8, _⟩ := z1.2.yes hx.1 hz1
                      rw [zh.no hx.1 e] at h8; cases h8)
                  dsimp only
                  refine RL.assign rfl rfl rfl ?_
                  refine RL.nil ?_
                  refine NX.seq ?_
                  refine TR.seq ?_
                  have hrg : 1 ≤ x.h.v + 1 ∧ x.h.v + 1 ≤ 1099511627776 ∧ x.d.held[i].l.length ≤ 64 ∧ txsP x.d.held[i].l ≤ 1099511627776 := hx.1.ok.rng _ (hGet_mem hgs)
                  obtain ⟨hrg1, hrg2, hrg3, hrg4⟩ := hrg
                  have hlt := hDel_lt hgs
                  refine TR.open (fun w hw => (St.exOpen (show St w (Ex _ :: _) _ from hw))) (fun ic => ?_)
                  refine TR.openP (fun w hw => own_at (i := 3) rfl (heC_ne (by omega)) hw) (fun gh hgh => ?_)
                  refine TR.open1 (fun w hw => ⟨(hw.front (i := 3) rfl).ownLen, hw⟩) (fun hol => ?_)
                  refine TR.region ?_
                  refine RL.move rfl rfl rfl ?_
                  refine RL.nilCheck rfl rfl rfl ?_
                  refine RL.fieldAddr rfl rf_tf101_3 rfl rfl ?_
                  refine RL.load1 0 rfl rf_ts23 rfl rfl rfl rfl ?_
                  refine RL.move rfl rfl rfl ?_
                  refine RL.indexAddr rfl rf_tl23 rf_tz39 (congrArg (fun a => some (Value.slice a _ _)) hgh) rfl (by omega) (by omega) rfl ?_
                  refine RL.loadS rfl rfl (own_agg (vs := x.d.held[i].cs) (i := 3) rfl hgh rf_ta39 (fun j v hj => heC_at1 (l := x.d.held) (k := i) (j := j) hi hj)) rfl ?_
                  refine RL.allocA rfl (Try.zeroValue39) rfl (fun b13 => ?_)
                  refine RL.storeA 0 rfl rfl rfl rfl rf_tz39 rfl rfl ?_
                  refine RL.nil ?_
                  refine NX.seq ?_
                  refine TR.seq ?_
                  refine TR.region ?_
                  refine RL.assign rfl rfl rfl ?_
                  refine RL.weak (fun w hw => OwnSl.nil_new 39 2 hw) ?_
                  refine RL.nil ?_
                  refine NX.seq ?_
                  refine TR.seq ?_
                  refine TR.region ?_
                  refine RL.move rfl rfl rfl ?_
                  refine RL.move rfl rfl rfl ?_
                  refine RL.nilCheck rfl rfl rfl ?_
                  refine RL.fieldAddr rfl rf_tf101_3 rfl rfl ?_
                  refine RL.load1 2 rfl rf_ts23 rfl rfl rfl rfl ?_
                  refine RL.move rfl rfl rfl ?_
                  refine RL.sliceLH (l := 0) (h := i) rfl rf_tl23 rf_tz39 rfl (.inl ⟨rfl, rfl⟩) (.inr ⟨_, rfl, rfl⟩) (by omega) (by omega) rfl ?_
                  refine RL.ofGV rfl rfl (GV.append (j := 0) rf_tl23 rf_ni23 rf_te39 rfl rfl rfl (src_rd ((rd_own (i := 5) rfl).heTake i (by omega) hol.2) (by rw [heC_length, List.length_take]; omega) (heC_one _)) (by omega) (by omega)) (fun y1 => ?_)
                  refine RL.assign rfl rfl rfl ?_
                  refine RL.nil ?_
                  refine NX.seq ?_
                  refine TR.seq ?_
                  refine TR.region ?_
                  refine RL.move rfl rfl rfl ?_
                  refine RL.move rfl rfl rfl ?_
                  refine RL.move rfl rfl rfl ?_
                  refine RL.nilCheck rfl rfl rfl ?_
                  refine RL.fieldAddr rfl rf_tf101_3 rfl rfl ?_
                  refine RL.load1 2 rfl rf_ts23 rfl rfl rfl rfl ?_
                  refine RL.move rfl rfl rfl ?_
                  refine RL.bin rfl rfl rfl (BinV.add ((i + 1 : Nat) : Int) (by omega) (by omega) (by omega)) rfl ?_
                  refine RL.sliceLH (l := i + 1) (h := x.d.held.length) rfl rf_tl23 rf_tz39 rfl (.inr ⟨_, rfl, rfl⟩) (.inl ⟨rfl, rfl⟩) (by omega) hol.2 rfl ?_
                  refine RL.ofGV rfl rfl (GV.append (j := 0) rf_tl23 rf_ni23 rf_te39 rfl rfl rfl (src_rd ((rd_own (i := 5) rfl).heDrop (i + 1) (by omega) hol.2) (by rw [heC_length, List.length_drop]) (heC_one _)) (by omega) (by omega)) (fun y2 => ?_)
                  refine RL.nilCheck rfl rfl rfl ?_
                  refine RL.fieldAddr rfl rf_tf101_3 rfl rfl ?_
                  refine RL.store1 2 rfl rf_ts23 rfl rfl rfl rfl rfl ?_
                  refine RL.nil ?_
                  refine NX.seq ?_
                  refine TR.seq ?_
                  have hdl := congrArg List.length hdel
                  rw [List.length_append, List.length_take, List.length_drop] at hdl
                  have hr2 : RelR ({ x.d with held := heDel x.d.held (x.h.v + 1) } : RD) ({ x.h with held := hDel x.h.held (x.h.v + 1) } : Hs) := hx.1.del _
                  have hv2 : ({ x.h with held := hDel x.h.held (x.h.v + 1) } : Hs).v < 1099511627776 := by show x.h.v < _; omega
                  refine TR.weak (fun w hw => St.rdClose (d := ({ x.d with held := heDel x.d.held (x.h.v + 1) } : RD)) rfl rfl rfl (by show _ = (heDel x.d.held _).length; omega) rfl rfl (by show _ = heC (heDel x.d.held _); rw [hdel, heC_append]; rfl) (show St w (_ :: _ :: _ :: _ :: _) _ from hw.toM 6 [2, 3, 4, 0, 1, 5] rfl)) ?_
                  refine TR.weak (fun w hw => (hw.derive (ψ := RdF ({ x.d with held := heDel x.d.held (x.h.v + 1) } : RD)) (fun K hf => RdF.del (hf (RdF x.d) (.head _)) _)).derive (ψ := ArrF x.d.held[i].oa (peC x.d.held[i].l)) (fun K hf => (hf (RdF x.d) (.tail _ (.head _))).2 _ (List.getElem_mem hi))) ?_
                  refine TR.region ?_
                  refine RL.move rfl rfl rfl ?_
                  refine RL.fieldAddr rfl rf_tf39_1 rfl rfl ?_
                  refine RL.load1 1 rfl rf_ts28 rfl rfl rfl rfl ?_
                  refine RL.call rfl rfl Try.call60 rfl (rapp_spec (l := x.d.held[i].l) hr2 (.tail _ (.head _)) (.head _) (by omega) (by omega) hv2) (fun q2 => ?_)
                  refine RL.assign rfl rfl rfl ?_
                  refine RL.nil ?_
                  refine NX.seq ?_
                  refine TR.seq ?_
                  refine TR.seq ?_
                  refine TR.region ?_
                  refine RL.move rfl rfl rfl ?_
                  refine RL.bin rfl rfl rfl BinV.neq rfl ?_
                  refine RL.nil ?_
                  refine NX.seq ?_
                  refine TR.cond rfl (fun h16 => ?_) (fun h16 => ?_)
                  · skip
                    have hae2 : ¬ (appH ({ x.h with held := hDel x.h.held (x.h.v + 1) } : Hs) x.d.held[i].l).1 = 0 := of_decide_eq_true h16
                    refine TR.seq ?_
                    refine TR.region ?_
                    refine RL.move rfl rfl rfl ?_
                    refine RL.assign rfl rfl rfl ?_
                    refine RL.assign rfl rfl rfl ?_
                    refine RL.nil ?_
                    refine NX.seq ?_
                    refine TR.ret ?_
                    refine NX.retThen ?_
                    refine NX.retBlock ?_
                    refine NX.retThen ?_
                    refine NX.retBlock ?_
                    refine NX.retThen ?_
                    have hre : recvH h ver l = ((x.n, 0), { x.h with held := hDel x.h.held (x.h.v + 1) }) := ((if_neg hc1).trans ((if_neg hc2).trans ((if_neg hc3).trans ((if_neg hea).trans (if_neg hae))))).trans (by rw [← hx.2.1, drainH_some hgs, if_neg hae2])
                    exact NX.ret2 (⟨q2.1, by rw [hre]; exact q2.2.of ((appH_ok (l := x.d.held[i].l) hr2.ok hv2).2.2 hae2)⟩ : {q : RD // RelR q (recvH h ver l).2}) rfl rfl rfl (by rw [hre]) (fun w hw => (hw.to 3 [0] 4 [0] rfl))
                  · skip
                    have hae2 : (appH ({ x.h with held := hDel x.h.held (x.h.v + 1) } : Hs) x.d.held[i].l).1 = 0 := Decidable.not_not.1 (of_decide_eq_false h16)
                    refine TR.skip ?_
                    refine NX.seq ?_
                    refine TR.region ?_
                    refine RL.move rfl rfl rfl ?_
                    refine RL.bin rfl rfl rfl (BinV.add _ rfl (by omega) (by omega)) rfl ?_
                    refine RL.assign rfl rfl rfl ?_
                    refine RL.nil ?_
                    refine NX.off ?_
                    refine NX.roundP ⟨x.n + 1, q2.1, (appH ({ x.h with held := hDel x.h.held (x.h.v + 1) } : Hs) x.d.held[i].l).2⟩ ⟨q2.2, by rw [← hx.2.1, drainH_some hgs, if_pos hae2], by show 1 ≤ x.n + 1; omega, by show x.n + 1 + ((appH ({ x.h with held := hDel x.h.held (x.h.v + 1) } : Hs) x.d.held[i].l).2.held.length : Int) ≤ 17; rw [appH_held]; show x.n + 1 + ((hDel x.h.held (x.h.v + 1)).length : Int) ≤ 17; omega⟩ (by show (appH ({ x.h with held := hDel x.h.held (x.h.v + 1) } : Hs) x.d.held[i].l).2.held.length < x.h.held.length; rw [appH_held]; exact hlt) ⟨rfl, rfl, trivial⟩ (fun w hw => (hw.to 3 [0] 4 [0] rfl))
                · skip
                  have hgn : hGet x.h.held (x.h.v + 1) = none := z1.2.no hx.1 (of_decide_eq_false h12)
                  refine TR.exit ?_
                  refine NX.exitThen ?_
                  refine NX.exitThen ?_
                  refine NX.exitHere ?_
                  refine NX.seq ?_
                  refine TR.seq ?_
                  refine TR.region ?_
                  refine RL.move rfl rfl rfl ?_
                  refine RL.assign rfl rfl rfl ?_
                  refine RL.assign rfl rfl rfl ?_
                  refine RL.nil ?_
                  refine NX.seq ?_
                  refine TR.ret ?_
                  have hre : recvH h ver l = ((x.n, 0), x.h) := ((if_neg hc1).trans ((if_neg hc2).trans ((if_neg hc3).trans ((if_neg hea).trans (if_neg hae))))).trans (by rw [← hx.2.1, drainH_none hgn])
                  exact NX.ret2 (⟨x.d, by rw [hre]; exact hx.1⟩ : {q : RD // RelR q (recvH h ver l).2}) rfl rfl rfl (by rw [hre]) (fun w hw => (hw.to 1 [0] 1 [0] rfl))
        · skip
          have htw : ver ≤ h.v ∨ (hGet h.held ver).isSome = true := .inl (of_decide_eq_true h5)
          apply AR.more [(4, _), (5, .bool true), (6, undef), (7, undef), (8, undef), (9, undef), (10, undef), (11, .bool true)]
          refine AR.last [0, 1, 4, 5, 6, 7, 8, 9, 10, 11] [0, 1, 2, 3, 4, 5, 6, 7, 8, 9, 10, 11] ⟨QOne.yes rfl rfl rfl (PV.fieldAddr rf_tf39_0 rfl), QOne.yes rfl rfl rfl (PV.load1 1 rf_ts3 rfl rfl rfl), QOne.yes rfl rfl rfl (PV.bin rfl rfl BinV.leq), QOne.yes rfl rfl rfl (PV.cast (congrArg Value.bool h5) (PV.move rfl)), QOne.no rfl rfl rfl, QOne.no rfl rfl rfl, QOne.no rfl rfl rfl, QOne.no rfl rfl rfl, QOne.no rfl rfl rfl, QOne.yes rfl rfl rfl (PV.pickT rfl rfl), trivial⟩ rfl rfl rfl ?_
          refine NX.sub (E' := [(0, _), (3, _), (4, _), (5, _), (34, _)]) ⟨rfl, rfl, rfl, rfl, rfl, trivial⟩ ?_
          refine NX.seq ?_
          refine TR.condT rfl ?_
          refine TR.seq ?_
          refine TR.region ?_
          refine RL.assign rfl rfl rfl ?_
          refine RL.assign rfl rfl rfl ?_
          refine RL.nil ?_
          refine NX.seq ?_
          refine TR.ret ?_
          refine NX.retThen ?_
          have hre : recvH h ver l = ((0, 8), h) := (if_neg hc1).trans ((if_neg hc2).trans (if_pos htw))
          exact NX.ret2 (⟨d, by rw [hre]; exact hr⟩ : {q : RD // RelR q (recvH h ver l).2}) rfl rfl rfl (by rw [hre]) (fun w hw => (show St w (RdB 101 9 26 39 b (d) :: M) F from (hw.to 2 [0] 0 [] rfl)).derive (ψ := RdF d) (fun K hf => hf _ hD))
end Go.Proofs.Ytkdeopioelocnaa

namespace Go.Proofs.Ytkdeopioelocnaa
open Go.GL
set_option linter.unusedVariables false
theorem rg_bs22_1_0 (x0 : Int) : BuildSV Try.prog 22 3 1 [(0, .int .i64 x0)] [.int .i64 x0] := fun w => by kernel_rfl
theorem rg_ni22 : noInt Try.prog 22 = true := by kernel_rfl
theorem rg_te3 : tyElem Try.prog 3 1 8 = true := by kernel_rfl
theorem rg_tf101_3 : fieldOff Try.prog 101 3 3 = true := by kernel_rfl
theorem rg_tf39_0 : fieldOff Try.prog 39 0 0 = true := by kernel_rfl
theorem rg_tl22 : tySlice Try.prog 22 3 = true := by kernel_rfl
theorem rg_tl23 : tySlice Try.prog 23 39 = true := by kernel_rfl
theorem rg_ts23 : tyScalar Try.prog 23 = true := by kernel_rfl
theorem rg_ts3 : tyScalar Try.prog 3 = true := by kernel_rfl
theorem rg_tz3 : tySize Try.prog 3 1 = true := by kernel_rfl
theorem rg_tz39 : tySize Try.prog 39 2 = true := by kernel_rfl
set_option maxHeartbeats 1000000 in
theorem redit_spec {l : List Ed} {oa : Option Addr} {ca : Nat} {b : Nat} {d : RD} {h : Hs} {M : List HP} {F : List Fact} (hr : RelR d h) (hD : RdF d ∈ F) (hl : ArrF oa (edC l) ∈ F) (hll : l.length ≤ 1099511627776) (hb : soundE h.tx.length l = 0 → (applyGo h.tx 0 l).length ≤ 140737488355328) : Ctr Try.prog 26 [.pointer (some ⟨b, 0, none⟩), .slice oa l.length ca] (RdB 101 9 26 39 b (d) :: M) F {q : RD // RelR q (editH h l).2} (fun _ => .tuple #[I (editH h l).1.1, I (editH h l).1.2]) (fun q => RdB 101 9 26 39 b (q.1) :: M) (fun q => RdF q.1 :: F) := by
  refine Ctr.body Try.func26 rfl rfl ?_
  refine TR.seq ?_
  refine TR.region ?_
  refine RL.assign rfl rfl rfl ?_
  refine RL.assign rfl rfl rfl ?_
  refine RL.nil ?_
  refine NX.seq ?_
  refine TR.seq ?_
  refine TR.seq ?_
  have hrl := hr.len
  have hv1x := hr.ok.v1
  refine TR.open (fun w hw => (St.exOpen (show St w (Ex _ :: _) _ from hw))) (fun ic => ?_)
  refine TR.region ?_
  refine RL.move rfl rfl rfl ?_
  refine RL.nilCheck rfl rfl rfl ?_
  refine RL.fieldAddr rfl rg_tf101_3 rfl rfl ?_
  refine RL.load1 0 rfl rg_ts23 rfl rfl rfl rfl ?_
  refine RL.lenSlice rfl rg_tl23 rfl rfl ?_
  refine RL.bin rfl rfl rfl BinV.gtr rfl ?_
  refine RL.nil ?_
  refine NX.seq ?_
  refine TR.cond rfl (fun h1 => ?_) (fun h1 => ?_)
  · skip
    have hh0 : 0 < h.held.length := by have := of_decide_eq_true h1; omega
    refine TR.seq ?_
    refine TR.region ?_
    refine RL.assign rfl rfl rfl ?_
    refine RL.assign rfl rfl rfl ?_
    refine RL.nil ?_
    refine NX.seq ?_
    refine TR.ret ?_
    refine NX.retThen ?_
    have hee : editH h l = ((0, 23), h) := if_pos hh0
    exact NX.ret2 (⟨d, by rw [hee]; exact hr⟩ : {q : RD // RelR q (editH h l).2}) rfl rfl rfl (by rw [hee]) (fun w hw => (show St w (RdB 101 9 26 39 b (d) :: M) F from St.rdClose (d := d) rfl rfl rfl rfl rfl rfl rfl (hw.to 4 [0, 1, 2, 3] 0 [] rfl)).derive (ψ := RdF d) (fun K hf => hf _ hD))
  · skip
    have hh0 : ¬ 0 < h.held.length := by have := of_decide_eq_false h1; omega
    refine TR.skip ?_
    refine NX.seq ?_
    refine TR.seq ?_
    refine TR.seq ?_
    refine TR.weak (fun w hw => St.rdClose (d := d) rfl rfl rfl rfl rfl rfl rfl (show St w (_ :: _ :: _ :: _ :: _) _ from hw.toM 4 [0, 1, 2, 3] rfl)) ?_
    refine TR.region ?_
    refine RL.move rfl rfl rfl ?_
    refine RL.call rfl rfl Try.call58 rfl (rversion_spec hr) (fun _ => ?_)
    refine RL.bin rfl rfl rfl BinV.eql rfl ?_
    refine RL.nil ?_
    refine NX.seq ?_
    refine TR.cond rfl (fun h2 => ?_) (fun h2 => ?_)
    · skip
      have hvm : h.v = 1099511627776 := of_decide_eq_true h2
      refine TR.seq ?_
      refine TR.region ?_
      refine RL.assign rfl rfl rfl ?_
      refine RL.assign rfl rfl rfl ?_
      refine RL.nil ?_
      refine NX.seq ?_
      refine TR.ret ?_
      refine NX.retThen ?_
      have hee : editH h l = ((0, 5), h) := (if_neg hh0).trans (if_pos hvm)
      exact NX.ret2 (⟨d, by rw [hee]; exact hr⟩ : {q : RD // RelR q (editH h l).2}) rfl rfl rfl (by rw [hee]) (fun w hw => (show St w (RdB 101 9 26 39 b (d) :: M) F from (hw.to 1 [0] 0 [] rfl)).derive (ψ := RdF d) (fun K hf => hf _ hD))
    · skip
      have hvm : ¬ h.v = 1099511627776 := of_decide_eq_false h2
      have hv : h.v < 1099511627776 := by omega
      refine TR.skip ?_
      refine NX.seq ?_
      refine TR.seq ?_
      refine TR.region ?_
      refine RL.move rfl rfl rfl ?_
      refine RL.move rfl rfl rfl ?_
      refine RL.call rfl rfl Try.call61 rfl (rbec_spec (l := l) hr hD hl hll hb hv) (fun q => ?_)
      refine RL.assign rfl rfl rfl ?_
      refine RL.nil ?_
      refine NX.seq ?_
      refine TR.seq ?_
      refine TR.seq ?_
      refine TR.region ?_
      refine RL.move rfl rfl rfl ?_
      refine RL.bin rfl rfl rfl BinV.neq rfl ?_
      refine RL.nil ?_
      refine NX.seq ?_
      refine TR.cond rfl (fun h3 => ?_) (fun h3 => ?_)
      · skip
        have hbe : (becH h l).1 ≠ 0 := of_decide_eq_true h3
        refine TR.seq ?_
        refine TR.region ?_
        refine RL.move rfl rfl rfl ?_
        refine RL.assign rfl rfl rfl ?_
        refine RL.assign rfl rfl rfl ?_
        refine RL.nil ?_
        refine NX.seq ?_
        refine TR.ret ?_
        refine NX.retThen ?_
        have hee : editH h l = ((0, (becH h l).1), h) := (if_neg hh0).trans ((if_neg hvm).trans (if_pos hbe))
        refine NX.ret2 (⟨q.1, by rw [hee]; exact q.2.of ((becH_ok (l := l) hr.ok hv).2.2 hbe)⟩ : {q : RD // RelR q (editH h l).2}) rfl rfl rfl (by rw [hee]) (fun w hw => (hw.to 1 [0] 1 [0] rfl))
      · skip
        have hbe : ¬ (becH h l).1 ≠ 0 := of_decide_eq_false h3
        refine TR.skip ?_
        refine NX.seq ?_
        refine TR.seq ?_
        refine TR.region ?_
        refine RL.move rfl rfl rfl ?_
        refine RL.call rfl rfl Try.call58 rfl (rversion_spec q.2) (fun _ => ?_)
        refine RL.assign rfl rfl rfl ?_
        refine RL.assign rfl rfl rfl ?_
        refine RL.nil ?_
        refine NX.seq ?_
        refine TR.ret ?_
        have hee : editH h l = (((becH h l).2.v, 0), (becH h l).2) := (if_neg hh0).trans ((if_neg hvm).trans (if_neg hbe))
        refine NX.ret2 (⟨q.1, by rw [hee]; exact q.2⟩ : {q : RD // RelR q (editH h l).2}) rfl rfl rfl (by rw [hee]) (fun w hw => (hw.to 1 [0] 1 [0] rfl))
set_option maxHeartbeats 1000000 in
theorem rversions_spec {b : Nat} {d : RD} {h : Hs} {M : List HP} {F : List Fact} (hr : RelR d h) : Ctr Try.prog 71 [.pointer (some ⟨b, 0, none⟩)] (RdB 101 9 26 39 b (d) :: M) F (Option Addr × Nat) (fun z => .slice z.1 (srt (h.held.map Prod.fst)).length z.2) (fun _ => RdB 101 9 26 39 b (d) :: M) (fun z => ArrF z.1 (ints (srt (h.held.map Prod.fst))) :: F) := by
  refine Ctr.body Try.func71 rfl rfl ?_
  refine TR.seq ?_
  refine TR.region ?_
  refine RL.assign rfl rfl rfl ?_
  refine RL.nil ?_
  refine NX.seq ?_
  refine TR.seq ?_
  have hrl := hr.len
  refine TR.open (fun w hw => (St.exOpen (show St w (Ex _ :: _) _ from hw))) (fun ic => ?_)
  refine TR.region ?_
  refine RL.assign rfl rfl rfl ?_
  refine RL.weak (fun w hw => OwnSl.nil_new 3 1 hw) ?_
  refine RL.nil ?_
  refine NX.seq ?_
  refine TR.seq ?_
  refine TR.seq ?_
  refine TR.region ?_
  refine RL.assign rfl rfl rfl ?_
  refine RL.nil ?_
  refine NX.seq ?_
  refine TR.block ?_
  refine TR.loopP (ι := VrX) (fun x => x.k ≤ d.held.length ∧ x.l.Perm ((d.held.map HeR.k).take x.k) ∧ x.l.Pairwise (· ≤ ·)) (fun x => [(0, .pointer (some ⟨b, 0, none⟩)), (3, .slice x.oa x.l.length x.c), (4, I (x.k : Nat))]) (fun x => OwnSl 3 1 x.oa x.l.length x.c (ints x.l) :: Box b 101 [I d.f, .slice ic.1.1 d.rows.length ic.1.2, .slice ic.2.1.1 d.rows.length ic.2.1.2, .slice ic.2.2.1 d.held.length ic.2.2.2] :: OwnSl 9 1 ic.1.1 d.rows.length ic.1.2 (txC d.rows) :: OwnSl 26 1 ic.2.1.1 d.rows.length ic.2.1.2 (ecC d.rows) :: OwnSl 39 2 ic.2.2.1 d.held.length ic.2.2.2 (heC d.held) :: M) (fun x => F) (fun x => d.held.length - x.k) ⟨0, [], none, 0⟩ ⟨Nat.zero_le _, .nil, .nil⟩ ⟨rfl, rfl, rfl, trivial⟩ (fun w hw => (hw.to 5 [0, 1, 2, 3, 4] 0 [] rfl)) (fun x hx => ?_)
  refine TR.seq ?_
  refine TR.seq ?_
  refine TR.region ?_
  refine RL.move rfl rfl rfl ?_
  refine RL.move rfl rfl rfl ?_
  refine RL.nilCheck rfl rfl rfl ?_
  refine RL.fieldAddr rfl rg_tf101_3 rfl rfl ?_
  refine RL.load1 1 rfl rg_ts23 rfl rfl rfl rfl ?_
  refine RL.lenSlice rfl rg_tl23 rfl rfl ?_
  refine RL.bin rfl rfl rfl BinV.lss rfl ?_
  refine RL.nil ?_
  refine NX.seq ?_
  refine TR.cond rfl (fun h1 => ?_) (fun h1 => ?_)
  · skip
    have hk1 : x.k < d.held.length := by have := of_decide_eq_true h1; omega
    have hxl : x.l.length ≤ 16 := by have := hx.2.1.length_eq; rw [List.length_take, List.length_map] at this; omega
    refine TR.openP (fun w hw => own_at (i := 4) rfl (heC_ne (by omega)) hw) (fun gh hgh => ?_)
    refine TR.skip ?_
    refine NX.seq ?_
    refine TR.seq ?_
    refine TR.block ?_
    refine TR.seq ?_
    refine TR.region ?_
    refine RL.assign rfl rfl rfl ?_
    refine RL.nil ?_
    refine NX.seq ?_
    refine TR.seq ?_
    refine TR.block ?_
    refine TR.loopP (ι := Nat) (fun j => j ≤ x.l.length ∧ ∀ i (h : i < x.l.length), i < j → x.l[i] < d.held[x.k].k) (fun j => [(0, .pointer (some ⟨b, 0, none⟩)), (3, .slice x.oa x.l.length x.c), (4, I (x.k : Nat)), (5, I (j : Nat))]) (fun j => OwnSl 3 1 x.oa x.l.length x.c (ints x.l) :: Box b 101 [I d.f, .slice ic.1.1 d.rows.length ic.1.2, .slice ic.2.1.1 d.rows.length ic.2.1.2, .slice ic.2.2.1 d.held.length ic.2.2.2] :: OwnSl 9 1 ic.1.1 d.rows.length ic.1.2 (txC d.rows) :: OwnSl 26 1 ic.2.1.1 d.rows.length ic.2.1.2 (ecC d.rows) :: OwnSl 39 2 ic.2.2.1 d.held.length ic.2.2.2 (heC d.held) :: M) (fun j => F) (fun j => x.l.length - j) 0 ⟨Nat.zero_le _, fun i _ h => absurd h (Nat.not_lt_zero i)⟩ ⟨rfl, rfl, rfl, rfl, trivial⟩ (fun w hw => (hw.to 5 [0, 1, 2, 3, 4] 0 [] rfl)) (fun j hj => ?_)
    refine TR.seq ?_
    refine TR.seq ?_
    refine TR.sub (E' := [(0, _), (3, _), (4, _), (5, _)]) ⟨rfl, rfl, rfl, rfl, trivial⟩ ?_
    refine TR.draw mixed ?_
    cases h2 : decide ((j : Int) < (x.l.length : Int))
    · skip
      have hj2 : j = x.l.length := by have := of_decide_eq_false h2; have := hj.1; omega
      have hstop : ∀ h : j < x.l.length, d.held[x.k].k ≤ x.l[j] := fun h => by omega
      apply AR.more [(0, _), (1, _), (2, _), (3, _), (4, .bool false), (5, undef), (6, undef), (7, undef), (8, undef), (9, undef), (10, undef), (11, undef), (12, undef), (13, undef), (14, undef), (15, undef), (16, undef), (17, undef), (18, .bool false)]
      refine AR.last [0, 1, 2, 3, 4, 5, 6, 7, 8, 9, 10, 11, 12, 13, 14, 15, 16, 17, 18] [0, 1, 2, 3, 4, 5, 6, 7, 8, 9, 10, 11, 12, 13, 14, 15, 16, 17, 18] ⟨QOne.yes rfl rfl rfl (PV.move rfl), QOne.yes rfl rfl rfl (PV.move rfl), QOne.yes rfl rfl rfl (PV.lenSlice rg_tl22 rfl), QOne.yes rfl rfl rfl (PV.bin rfl rfl BinV.lss), QOne.yes rfl rfl rfl (PV.cast (congrArg Value.bool h2) (PV.move rfl)), QOne.no rfl rfl rfl, QOne.no rfl rfl rfl, QOne.no rfl rfl rfl, QOne.no rfl rfl rfl, QOne.no rfl rfl rfl, QOne.no rfl rfl rfl, QOne.no rfl rfl rfl, QOne.no rfl rfl rfl, QOne.no rfl rfl rfl, QOne.no rfl rfl rfl, QOne.no rfl rfl rfl, QOne.no rfl rfl rfl, QOne.no rfl rfl rfl, QOne.yes rfl rfl rfl (PV.pickF rfl rfl), trivial⟩ rfl rfl rfl ?_
      refine NX.sub (E' := [(0, _), (3, _), (4, _), (5, _), (16, _), (17, _), (18, _), (19, _), (20, _), (21, _), (22, _), (23, _), (24, _), (25, _), (26, _), (27, _), (28, _), (29, _), (30, _), (31, _), (32, _), (33, _), (34, _)]) ⟨rfl, rfl, rfl, rfl, rfl, rfl, rfl, rfl, rfl, rfl, rfl, rfl, rfl, rfl, rfl, rfl, rfl, rfl, rfl, rfl, rfl, rfl, rfl, trivial⟩ ?_
      refine NX.seq ?_
      refine TR.condF rfl ?_
      refine TR.exit ?_
      refine NX.exitThen ?_
      refine NX.exitThen ?_
      refine NX.exitHere ?_
      refine NX.seq ?_
      refine TR.seq ?_
      have hins := ins_ok (v := d.held[x.k].k) hx.2.2 hj.1 hj.2 hstop
      have hkt : (d.held.map HeR.k).take (x.k + 1) = (d.held.map HeR.k).take x.k ++ [d.held[x.k].k] := by rw [List.take_succ_eq_append_getElem (by rw [List.length_map]; exact hk1), List.getElem_map]
      refine TR.open1 (fun w hw => ⟨(hw.front (i := 0) rfl).ownLen, hw⟩) (fun hol => ?_)
      refine TR.region ?_
      refine RL.assign rfl rfl rfl ?_
      refine RL.weak (fun w hw => OwnSl.nil_new 3 1 hw) ?_
      refine RL.nil ?_
      refine NX.seq ?_
      refine TR.seq ?_
      refine TR.region ?_
      refine RL.move rfl rfl rfl ?_
      refine RL.move rfl rfl rfl ?_
      refine RL.move rfl rfl rfl ?_
      refine RL.sliceLH (l := 0) (h := j) rfl rg_tl22 rg_tz3 rfl (.inl ⟨rfl, rfl⟩) (.inr ⟨_, rfl, rfl⟩) (by omega) (by omega) rfl ?_
      refine RL.ofGV rfl rfl (GV.append (j := 0) rg_tl22 rg_ni22 rg_te3 rfl rfl rfl (src_rd ((rd_own (i := 1) rfl).iTake j (by omega) hol.2) (by rw [ints_len, List.length_take]; omega) (ints_one _)) (by omega) (by omega)) (fun y1 => ?_)
      refine RL.assign rfl rfl rfl ?_
      refine RL.nil ?_
      refine NX.seq ?_
      refine TR.seq ?_
      refine TR.region ?_
      refine RL.move rfl rfl rfl ?_
      refine RL.move rfl rfl rfl ?_
      refine RL.nilCheck rfl rfl rfl ?_
      refine RL.fieldAddr rfl rg_tf101_3 rfl rfl ?_
      refine RL.load1 2 rfl rg_ts23 rfl rfl rfl rfl ?_
      refine RL.move rfl rfl rfl ?_
      refine RL.indexAddr rfl rg_tl23 rg_tz39 (congrArg (fun a => some (Value.slice a _ _)) hgh) rfl (by omega) (by omega) rfl ?_
      refine RL.fieldAddr rfl rg_tf39_0 rfl rfl ?_
      refine RL.loadS rfl rfl (own_one (i := 5) rfl hgh rg_ts3 (show (heC d.held)[0 + ((x.k : Nat) : Int).toNat * 2 + 0]? = some (I d.held[x.k].k) from heC_at1 hk1 rfl)) rfl ?_
      refine RL.buildSlice rfl rfl (rg_bs22_1_0 _) rfl (fun b4 => ?_)
      refine RL.ofGV rfl rfl (GV.append (j := 1) rg_tl22 rg_ni22 rg_te3 rfl rfl rfl (src_box (i := 0) rfl rfl rfl) (by omega) (by omega)) (fun y2 => ?_)
      refine RL.assign rfl rfl rfl ?_
      refine RL.nil ?_
      refine NX.seq ?_
      refine TR.region ?_
      refine RL.move rfl rfl rfl ?_
      refine RL.move rfl rfl rfl ?_
      refine RL.move rfl rfl rfl ?_
      refine RL.sliceLH (l := j) (h := x.l.length) rfl rg_tl22 rg_tz3 rfl (.inr ⟨_, rfl, rfl⟩) (.inl ⟨rfl, rfl⟩) (by omega) hol.2 rfl ?_
      refine RL.ofGV rfl rfl (GV.append (j := 1) rg_tl22 rg_ni22 rg_te3 rfl rfl rfl (src_rd ((rd_own (i := 2) rfl).iDrop j (by omega) hol.2) (by rw [ints_len, List.length_drop]; omega) (ints_one _)) (by omega) (by omega)) (fun y3 => ?_)
      refine RL.assign rfl rfl rfl ?_
      refine RL.nil ?_
      refine NX.off ?_
      refine NX.seq ?_
      refine TR.region ?_
      refine RL.move rfl rfl rfl ?_
      refine RL.bin rfl rfl rfl (BinV.add _ rfl (by omega) (by omega)) rfl ?_
      refine RL.assign rfl rfl rfl ?_
      refine RL.nil ?_
      refine NX.roundP ⟨x.k + 1, (x.l.take j ++ [d.held[x.k].k] ++ x.l.drop j), y3.1, y3.2⟩ ⟨hk1, by show (x.l.take j ++ [d.held[x.k].k] ++ x.l.drop j).Perm _; rw [hkt]; exact hins.2.trans (hx.2.1.append_right _), hins.1⟩ (by show _ - (x.k + 1) < _ - x.k; omega) ⟨rfl, ?_, rfl, trivial⟩ (fun w hw => ?_)
      · show some (Value.slice y3.1 (0 + (j - 0) + 1 + (x.l.length - j)) y3.2) = some (Value.slice y3.1 (x.l.take j ++ [d.held[x.k].k] ++ x.l.drop j).length y3.2)
        rw [mid_ilen (by omega)]; congr 2; omega
      · have h9 := (hw.to 7 [1, 3, 4, 5, 6] 0 [] rfl)
        show St w (OwnSl 3 1 y3.1 (x.l.take j ++ [d.held[x.k].k] ++ x.l.drop j).length y3.2 (ints (x.l.take j ++ [d.held[x.k].k] ++ x.l.drop j)) :: _) F
        rw [ints_app, ints_app, mid_ilen (by omega), ← show 0 + (j - 0) + 1 + (x.l.length - j) = x.l.length + 1 from by omega]
        exact h9
    · skip
      have hj1 : j < x.l.length := by have := of_decide_eq_true h2; omega
      refine AR.openP (fun w hw => own_at (i := 0) rfl (ints_ne (by omega)) hw) (fun go hgo => ?_)
      apply AR.more [(0, _), (1, _), (2, _), (3, _), (4, .bool true), (5, _), (6, _), (7, _), (8, _), (9, _), (10, _), (11, _), (12, _), (13, _), (14, _), (15, _), (16, _), (17, _), (18, _)]
      refine AR.last [0, 1, 2, 3, 4, 5, 6, 7, 8, 9, 10, 11, 12, 13, 14, 15, 16, 17, 18] [0, 1, 2, 3, 4, 5, 6, 7, 8, 9, 10, 11, 12, 13, 14, 15, 16, 17, 18] ⟨QOne.yes rfl rfl rfl (PV.move rfl), QOne.yes rfl rfl rfl (PV.move rfl), QOne.yes rfl rfl rfl (PV.lenSlice rg_tl22 rfl), QOne.yes rfl rfl rfl (PV.bin rfl rfl BinV.lss), QOne.yes rfl rfl rfl (PV.cast (congrArg Value.bool h2) (PV.move rfl)), QOne.yes rfl rfl rfl (PV.move rfl), QOne.yes rfl rfl rfl (PV.move rfl), QOne.yes rfl rfl rfl (PV.indexAddr rg_tl22 rg_tz3 (congrArg (fun a => some (Value.slice a _ _)) hgo) rfl (by omega) (by omega)), QOne.yes rfl rfl rfl (PV.loadS rfl (own_one (i := 0) rfl hgo rg_ts3 (own_int hj1))), QOne.yes rfl rfl rfl (PV.move rfl), QOne.yes rfl rfl rfl (PV.nilCheck rfl), QOne.yes rfl rfl rfl (PV.fieldAddr rg_tf101_3 rfl), QOne.yes rfl rfl rfl (PV.load1 1 rg_ts23 rfl rfl rfl), QOne.yes rfl rfl rfl (PV.move rfl), QOne.yes rfl rfl rfl (PV.indexAddr rg_tl23 rg_tz39 (congrArg (fun a => some (Value.slice a _ _)) hgh) rfl (by omega) (by omega)), QOne.yes rfl rfl rfl (PV.fieldAddr rg_tf39_0 rfl), QOne.yes rfl rfl rfl (PV.loadS rfl (own_one (i := 4) rfl hgh rg_ts3 (show (heC d.held)[0 + ((x.k : Nat) : Int).toNat * 2 + 0]? = some (I d.held[x.k].k) from heC_at1 hk1 rfl))), QOne.yes rfl rfl rfl (PV.bin rfl rfl BinV.lss), QOne.yes rfl rfl rfl (PV.pickT rfl rfl), trivial⟩ rfl rfl rfl ?_
      refine NX.sub (E' := [(0, _), (3, _), (4, _), (5, _), (16, _), (17, _), (18, _), (19, _), (20, _), (21, _), (22, _), (23, _), (24, _), (25, _), (26, _), (27, _), (28, _), (29, _), (30, _), (31, _), (32, _), (33, _), (34, _)]) ⟨rfl, rfl, rfl, rfl, rfl, rfl, rfl, rfl, rfl, rfl, rfl, rfl, rfl, rfl, rfl, rfl, rfl, rfl, rfl, rfl, rfl, rfl, rfl, trivial⟩ ?_
      refine NX.seq ?_
      refine TR.cond rfl (fun h7 => ?_) (fun h7 => ?_)
      · skip
        have hlt : x.l[j] < d.held[x.k].k := of_decide_eq_true h7
        refine TR.skip ?_
        refine NX.seq ?_
        refine TR.block ?_
        refine TR.region ?_
        refine RL.move rfl rfl rfl ?_
        refine RL.bin rfl rfl rfl (BinV.add _ rfl (by omega) (by omega)) rfl ?_
        refine RL.assign rfl rfl rfl ?_
        refine RL.nil ?_
        refine NX.off ?_
        refine NX.roundP (j + 1) ⟨hj1, fun i h hi => by rcases Nat.lt_succ_iff_lt_or_eq.1 hi with h5 | rfl; exact hj.2 i h h5; exact hlt⟩ (by omega) ⟨rfl, rfl, rfl, rfl, trivial⟩ (fun w hw => (hw.to 5 [0, 1, 2, 3, 4] 0 [] rfl))
      · skip
        have hstop : ∀ h : j < x.l.length, d.held[x.k].k ≤ x.l[j] := fun h => by have := of_decide_eq_false h7; omega
        refine TR.exit ?_
        refine NX.exitThen ?_
        refine NX.exitThen ?_
        refine NX.exitHere ?_
        refine NX.seq ?_
        refine TR.seq ?_
        have hins := ins_ok (v := d.held[x.k].k) hx.2.2 hj.1 hj.2 hstop
        have hkt : (d.held.map HeR.k).take (x.k + 1) = (d.held.map HeR.k).take x.k ++ [d.held[x.k].k] := by rw [List.take_succ_eq_append_getElem (by rw [List.length_map]; exact hk1), List.getElem_map]
        refine TR.open1 (fun w hw => ⟨(hw.front (i := 0) rfl).ownLen, hw⟩) (fun hol => ?_)
        refine TR.region ?_
        refine RL.assign rfl rfl rfl ?_
        refine RL.weak (fun w hw => OwnSl.nil_new 3 1 hw) ?_
        refine RL.nil ?_
        refine NX.seq ?_
        refine TR.seq ?_
        refine TR.region ?_
        refine RL.move rfl rfl rfl ?_
        refine RL.move rfl rfl rfl ?_
        refine RL.move rfl rfl rfl ?_
        refine RL.sliceLH (l := 0) (h := j) rfl rg_tl22 rg_tz3 rfl (.inl ⟨rfl, rfl⟩) (.inr ⟨_, rfl, rfl⟩) (by omega) (by omega) rfl ?_
        refine RL.ofGV rfl rfl (GV.append (j := 0) rg_tl22 rg_ni22 rg_te3 rfl rfl rfl (src_rd ((rd_own (i := 1) rfl).iTake j (by omega) hol.2) (by rw [ints_len, List.length_take]; omega) (ints_one _)) (by omega) (by omega)) (fun y1 => ?_)
        refine RL.assign rfl rfl rfl ?_
        refine RL.nil ?_
        refine NX.seq ?_
        refine TR.seq ?_
        refine TR.region ?_
        refine RL.move rfl rfl rfl ?_
        refine RL.move rfl rfl rfl ?_
        refine RL.nilCheck rfl rfl rfl ?_
        refine RL.fieldAddr rfl rg_tf101_3 rfl rfl ?_
        refine RL.load1 2 rfl rg_ts23 rfl rfl rfl rfl ?_
        refine RL.move rfl rfl rfl ?_
        refine RL.indexAddr rfl rg_tl23 rg_tz39 (congrArg (fun a => some (Value.slice a _ _)) hgh) rfl (by omega) (by omega) rfl ?_
        refine RL.fieldAddr rfl rg_tf39_0 rfl rfl ?_
        refine RL.loadS rfl rfl (own_one (i := 5) rfl hgh rg_ts3 (show (heC d.held)[0 + ((x.k : Nat) : Int).toNat * 2 + 0]? = some (I d.held[x.k].k) from heC_at1 hk1 rfl)) rfl ?_
        refine RL.buildSlice rfl rfl (rg_bs22_1_0 _) rfl (fun b9 => ?_)
        refine RL.ofGV rfl rfl (GV.append (j := 1) rg_tl22 rg_ni22 rg_te3 rfl rfl rfl (src_box (i := 0) rfl rfl rfl) (by omega) (by omega)) (fun y2 => ?_)
        refine RL.assign rfl rfl rfl ?_
        refine RL.nil ?_
        refine NX.seq ?_
        refine TR.region ?_
        refine RL.move rfl rfl rfl ?_
        refine RL.move rfl rfl rfl ?_
        refine RL.move rfl rfl rfl ?_
        refine RL.sliceLH (l := j) (h := x.l.length) rfl rg_tl22 rg_tz3 rfl (.inr ⟨_, rfl, rfl⟩) (.inl ⟨rfl, rfl⟩) (by omega) hol.2 rfl ?_
        refine RL.ofGV rfl rfl (GV.append (j := 1) rg_tl22 rg_ni22 rg_te3 rfl rfl rfl (src_rd ((rd_own (i := 2) rfl).iDrop j (by omega) hol.2) (by rw [ints_len, List.length_drop]; omega) (ints_one _)) (by omega) (by omega)) (fun y3 => ?_)
        refine RL.assign rfl rfl rfl ?_
        refine RL.nil ?_
        refine NX.off ?_
        refine NX.seq ?_
        refine TR.region ?_
        refine RL.move rfl rfl rfl ?_
        refine RL.bin rfl rfl rfl (BinV.add _ rfl (by omega) (by omega)) rfl ?_
        refine RL.assign rfl rfl rfl ?_
        refine RL.nil ?_
        refine NX.roundP ⟨x.k + 1, (x.l.take j ++ [d.held[x.k].k] ++ x.l.drop j), y3.1, y3.2⟩ ⟨hk1, by show (x.l.take j ++ [d.held[x.k].k] ++ x.l.drop j).Perm _; rw [hkt]; exact hins.2.trans (hx.2.1.append_right _), hins.1⟩ (by show _ - (x.k + 1) < _ - x.k; omega) ⟨rfl, ?_, rfl, trivial⟩ (fun w hw => ?_)
        · show some (Value.slice y3.1 (0 + (j - 0) + 1 + (x.l.length - j)) y3.2) = some (Value.slice y3.1 (x.l.take j ++ [d.held[x.k].k] ++ x.l.drop j).length y3.2)
          rw [mid_ilen (by omega)]; congr 2; omega
        · have h9 := (hw.to 7 [1, 3, 4, 5, 6] 0 [] rfl)
          show St w (OwnSl 3 1 y3.1 (x.l.take j ++ [d.held[x.k].k] ++ x.l.drop j).length y3.2 (ints (x.l.take j ++ [d.held[x.k].k] ++ x.l.drop j)) :: _) F
          rw [ints_app, ints_app, mid_ilen (by omega), ← show 0 + (j - 0) + 1 + (x.l.length - j) = x.l.length + 1 from by omega]
          exact h9
  · skip
    have hk2 : x.k = d.held.length := by have := of_decide_eq_false h1; have := hx.1; omega
    refine TR.exit ?_
    refine NX.exitThen ?_
    refine NX.exitThen ?_
    refine NX.exitHere ?_
    refine NX.seq ?_
    refine TR.seq ?_
    refine TR.region ?_
    refine RL.move rfl rfl rfl ?_
    refine RL.assign rfl rfl rfl ?_
    refine RL.nil ?_
    refine NX.seq ?_
    refine TR.ret ?_
    have hfin : x.l = srt (h.held.map Prod.fst) := by
      have e0 : d.held.map HeR.k = h.held.map Prod.fst := by rw [← hr.held, List.map_map]; rfl
      have e1 := hx.2.1
      rw [hk2, List.take_of_length_le (by rw [List.length_map]; omega), e0] at e1
      exact srt_is hx.2.2 e1
    refine NX.ret1 (x.oa, x.c) rfl rfl (by rw [← hfin]) (fun w hw => ?_)
    rw [← hfin]
    have h9 : St w (OwnSl 3 1 x.oa x.l.length x.c (ints x.l) :: RdB 101 9 26 39 b (d) :: M) F := ((St.rdClose rfl rfl rfl rfl rfl rfl rfl ((hw.to 5 [1, 2, 3, 4, 0] 0 [] rfl))).swap)
    exact h9.keepSl
end Go.Proofs.Ytkdeopioelocnaa

namespace Go.GL
set_option linter.unusedVariables false
def HisL : List (List UInt8 × List Ed) → Prop
  | [] => True
  | [_] => True
  | a :: b :: r => (soundE a.1.length b.2 = 0 ∧ b.1 = applyGo a.1 0 b.2) ∧ HisL (b :: r)
theorem HisL.snoc : ∀ {l : List (List UInt8 × List Ed)} {a b : List UInt8 × List Ed}, HisL (l ++ [a]) → soundE a.1.length b.2 = 0 → b.1 = applyGo a.1 0 b.2 → HisL (l ++ [a] ++ [b])
  | [], a, b, _, h1, h2 => ⟨⟨h1, h2⟩, trivial⟩
  | [x], a, b, h, h1, h2 => ⟨h.1, ⟨h1, h2⟩, trivial⟩
  | x :: y :: l, a, b, h, h1, h2 => ⟨h.1, HisL.snoc (l := y :: l) h.2 h1 h2⟩
structure DrX where
  k : Nat
  d : Dp
  r : RD
  h : Hs
end Go.GL

namespace Go.Proofs.Ytkdeopioelocnaa
open Go.GL
set_option linter.unusedVariables false
theorem rh_bs26_1_0 (x00 : Int) (x01 : Int) (x02 : List UInt8) : BuildSV Try.prog 26 78 1 [(0, .agg #[.int .i64 x00, .int .i64 x01, S x02])] [.int .i64 x00, .int .i64 x01, S x02] := fun w => by kernel_rfl
theorem rh_bs98_13_0_1_2_3_4_5_6_7_8_9_10_11_12 (x0 : List UInt8) (x1 : List UInt8) (x2 : List UInt8) (x3 : List UInt8) (x4 : List UInt8) (x5 : List UInt8) (x6 : List UInt8) (x7 : List UInt8) (x8 : List UInt8) (x9 : List UInt8) (x10 : List UInt8) (x11 : List UInt8) (x12 : List UInt8) : BuildSV Try.prog 98 9 13 [(0, S x0), (1, S x1), (2, S x2), (3, S x3), (4, S x4), (5, S x5), (6, S x6), (7, S x7), (8, S x8), (9, S x9), (10, S x10), (11, S x11), (12, S x12)] [S x0, S x1, S x2, S x3, S x4, S x5, S x6, S x7, S x8, S x9, S x10, S x11, S x12] := fun w => by kernel_rfl
theorem rh_bv78_0_1_2 (x0 : Int) (x1 : Int) (x2 : List UInt8) : BuildV Try.prog 78 [(0, .int .i64 x0), (1, .int .i64 x1), (2, S x2)] (.agg #[.int .i64 x0, .int .i64 x1, S x2]) := fun w => by kernel_rfl
theorem rh_ni26 : noInt Try.prog 26 = true := by kernel_rfl
theorem rh_te78 : tyElem Try.prog 78 3 32 = true := by kernel_rfl
theorem rh_tl26 : tySlice Try.prog 26 78 = true := by kernel_rfl
theorem rh_tl98 : tySlice Try.prog 98 9 = true := by kernel_rfl
theorem rh_ts9 : tyScalar Try.prog 9 = true := by kernel_rfl
theorem rh_tstr9 : tyStr Try.prog 9 = true := by kernel_rfl
theorem rh_tz9 : tySize Try.prog 9 1 = true := by kernel_rfl
theorem some_r {tx : List UInt8} {xs : List Int} {oa : Option Addr} {ca : Nat} {M : List HP} {F : List Fact} (ha : ArrF oa (ints xs) ∈ F) (hxs : IntsOk xs) (hl : tx.length ≤ 1000000) : Ctr Try.prog 45 [S tx, .slice oa xs.length ca, .bool false] M F {z : EdX // EdsOk tx z.es} (fun z => .slice z.1.oa z.1.es.length z.1.c) (fun _ => M) (fun z => ArrF z.1.oa (edC z.1.es) :: F) := by
  refine Ctr.body Try.func45 rfl rfl ?_
  refine TR.seq ?_
  refine TR.region ?_
  refine RL.assign rfl rfl rfl ?_
  refine RL.nil ?_
  refine NX.seq ?_
  refine TR.seq ?_
  refine TR.region ?_
  refine RL.buildSlice rfl rfl (rh_bs98_13_0_1_2_3_4_5_6_7_8_9_10_11_12 _ _ _ _ _ _ _ _ _ _ _ _ _) rfl (fun wb => ?_)
  refine RL.weak (fun w hw => (show St w (Box _ _ (strsV wordsE) :: _) _ from hw).boxKeep) ?_
  refine RL.assign rfl rfl rfl ?_
  refine RL.nil ?_
  refine NX.seq ?_
  refine TR.seq ?_
  refine TR.region ?_
  refine RL.assign rfl rfl rfl ?_
  refine RL.weak (fun w hw => OwnSl.nil_new 78 3 hw) ?_
  refine RL.nil ?_
  refine NX.seq ?_
  refine TR.seq ?_
  refine TR.region ?_
  refine RL.assign rfl rfl rfl ?_
  refine RL.nil ?_
  refine NX.seq ?_
  refine TR.seq ?_
  refine TR.seq ?_
  refine TR.region ?_
  refine RL.assign rfl rfl rfl ?_
  refine RL.nil ?_
  refine NX.seq ?_
  refine TR.block ?_
  refine TR.loopP (ι := SmX) (fun x => x.es.length = x.i ∧ x.i ≤ 5 ∧ x.q ≤ tx.length ∧ SoundTo tx.length x.es x.q ∧ (∀ e, e ∈ x.es → Grow 5 e) ∧ (false = true → IsB tx x.q)) (fun x => [(0, S tx), (1, .slice oa xs.length ca), (2, .bool false), (7, .slice (some ⟨wb, 0, none⟩) 13 13), (8, .slice x.oa x.es.length x.c), (9, I (x.q : Nat)), (10, I (x.i : Nat))]) (fun x => OwnSl 78 3 x.oa x.es.length x.c (edC x.es) :: M) (fun x => CellsF wb 0 (strsV wordsE) :: F) (fun x => 5 - x.i) ⟨0, 0, [], none, 0⟩ ⟨rfl, Nat.zero_le _, Nat.zero_le _, SoundTo.nil _, fun e he => absurd he (by simp), fun _ => .inl rfl⟩ ⟨rfl, rfl, rfl, rfl, rfl, rfl, rfl, trivial⟩ (fun w hw => (hw.to 1 [0] 1 [0] rfl)) (fun x hx => ?_)
  refine TR.seq ?_
  refine TR.seq ?_
  refine TR.region ?_
  refine RL.move rfl rfl rfl ?_
  refine RL.move rfl rfl rfl ?_
  refine RL.call rfl rfl Try.call24 rfl (pick_spec (.tail _ ha) hxs (by decide)) (fun r => ?_)
  refine RL.bin rfl rfl rfl BinV.lss rfl ?_
  refine RL.nil ?_
  refine NX.seq ?_
  refine TR.cond rfl (fun h1 => ?_) (fun h1 => ?_)
  · skip
    have hi1 := of_decide_eq_true h1
    have hr := r.2
    have hi4 : x.i < 5 := by omega
    have hxe := hx.1
    have hql := hx.2.2.1
    refine TR.skip ?_
    refine NX.seq ?_
    refine TR.seq ?_
    refine TR.block ?_
    refine TR.seq ?_
    refine TR.region ?_
    refine RL.move rfl rfl rfl ?_
    refine RL.move rfl rfl rfl ?_
    refine RL.bin rfl rfl rfl (BinV.mul _ rfl (by omega) (by omega)) rfl ?_
    refine RL.bin rfl rfl rfl (BinV.add _ rfl (by omega) (by omega)) rfl ?_
    refine RL.call rfl rfl Try.call24 rfl (pick_spec (.tail _ ha) hxs (by decide)) (fun rn => ?_)
    obtain ⟨rnv, rnh⟩ := rn
    obtain ⟨n, rfl⟩ : ∃ n : Nat, rnv = n := ⟨rnv.toNat, by omega⟩
    dsimp only
    refine RL.assign rfl rfl rfl ?_
    refine RL.nil ?_
    refine NX.seq ?_
    refine TR.seq ?_
    refine TR.region ?_
    refine RL.move rfl rfl rfl ?_
    refine RL.move rfl rfl rfl ?_
    refine RL.move rfl rfl rfl ?_
    refine RL.lenStr rfl rh_tstr9 rfl rfl ?_
    refine RL.move rfl rfl rfl ?_
    refine RL.bin rfl rfl rfl (BinV.sub (((tx.length - x.q) : Nat) : Int) (by omega) (by omega) (by omega)) rfl ?_
    refine RL.bin rfl rfl rfl (BinV.add (((tx.length - x.q) + 1 : Nat) : Int) (by omega) (by omega) (by omega)) rfl ?_
    refine RL.bin rfl rfl rfl (BinV.remK (a := n) (b := (tx.length - x.q) + 1) (by omega)) rfl ?_
    refine RL.bin rfl rfl rfl (BinV.add ((x.q + n % ((tx.length - x.q) + 1) : Nat) : Int) (by omega) (by have := Nat.mod_lt n (show 0 < (tx.length - x.q) + 1 by omega); omega) (by have := Nat.mod_lt n (show 0 < (tx.length - x.q) + 1 by omega); omega)) rfl ?_
    have hm := Nat.mod_lt n (show 0 < (tx.length - x.q) + 1 by omega)
    generalize hf0 : n % ((tx.length - x.q) + 1) = f0 at hm ⊢
    refine RL.assign rfl rfl rfl ?_
    refine RL.nil ?_
    refine NX.seq ?_
    refine TR.seq ?_
    refine TR.seq ?_
    obtain ⟨f, hf, hfq, hfl⟩ : ∃ f : Nat, f = x.q + f0 ∧ x.q ≤ f ∧ f ≤ tx.length := ⟨_, rfl, by omega, by omega⟩
    rw [← hf]
    refine TR.region ?_
    refine RL.move rfl rfl rfl ?_
    refine RL.bin rfl rfl rfl (BinV.quo (by decide) ((n / 8 : Nat) : Int) (by rw [Int.tdiv_eq_ediv_of_nonneg (by omega)]; omega) (by omega) (by omega)) rfl ?_
    refine RL.bin rfl rfl rfl (BinV.remK (a := n / 8) (b := 2) (by decide)) rfl ?_
    refine RL.bin rfl rfl rfl BinV.eql rfl ?_
    refine RL.nil ?_
    refine NX.seq ?_
    refine TR.cond rfl (fun h2 => ?_) (fun h2 => ?_)
    · skip
      skip
      refine TR.region ?_
      refine RL.move rfl rfl rfl ?_
      refine RL.move rfl rfl rfl ?_
      refine RL.move rfl rfl rfl ?_
      refine RL.lenStr rfl rh_tstr9 rfl rfl ?_
      refine RL.move rfl rfl rfl ?_
      refine RL.bin rfl rfl rfl (BinV.sub (((tx.length - x.q) : Nat) : Int) (by omega) (by omega) (by omega)) rfl ?_
      refine RL.min rfl rfl rfl rfl ?_
      refine RL.bin rfl rfl rfl (BinV.add ((min (tx.length - x.q) 6 + 1 : Nat) : Int) (by omega) (by omega) (by omega)) rfl ?_
      refine RL.bin rfl rfl rfl (BinV.remK (a := n) (b := min (tx.length - x.q) 6 + 1) (by omega)) rfl ?_
      have hm1 := Nat.mod_lt n (show 0 < min (tx.length - x.q) 6 + 1 by omega)
      generalize hf1 : n % (min (tx.length - x.q) 6 + 1) = f1 at hm1 ⊢
      refine RL.bin rfl rfl rfl (BinV.add ((x.q + f1 : Nat) : Int) (by omega) (by omega) (by omega)) rfl ?_
      refine RL.assign rfl rfl rfl ?_
      refine RL.nil ?_
      refine NX.seq ?_
      refine TR.seq ?_
      obtain ⟨f, hf, hfq, hfl⟩ : ∃ f : Nat, f = x.q + f1 ∧ x.q ≤ f ∧ f ≤ tx.length := ⟨_, rfl, by omega, by omega⟩
      rw [← hf]
      refine TR.region ?_
      refine RL.move rfl rfl rfl ?_
      refine RL.move rfl rfl rfl ?_
      refine RL.move rfl rfl rfl ?_
      refine RL.bin rfl rfl rfl (BinV.mul _ rfl (by omega) (by omega)) rfl ?_
      refine RL.bin rfl rfl rfl (BinV.add _ rfl (by omega) (by omega)) rfl ?_
      refine RL.move rfl rfl rfl ?_
      refine RL.lenStr rfl rh_tstr9 rfl rfl ?_
      refine RL.move rfl rfl rfl ?_
      refine RL.bin rfl rfl rfl (BinV.sub ((tx.length - f : Nat) : Int) (by omega) (by omega) (by omega)) rfl ?_
      refine RL.min rfl rfl rfl rfl ?_
      refine RL.bin rfl rfl rfl (BinV.add ((min (tx.length - f) 7 + 1 : Nat) : Int) (by omega) (by omega) (by omega)) rfl ?_
      refine RL.call rfl rfl Try.call24 rfl (pick_spec (m := ((min (tx.length - f) 7 + 1 : Nat) : Int)) (.tail _ ha) hxs (by omega)) (fun rt => ?_)
      obtain ⟨rtv, rth⟩ := rt
      obtain ⟨t, rfl⟩ : ∃ t : Nat, rtv = t := ⟨rtv.toNat, by omega⟩
      dsimp only
      have hft0 : f + t ≤ tx.length := by omega
      refine RL.bin rfl rfl rfl (BinV.add ((f + t : Nat) : Int) (by omega) (by omega) (by omega)) rfl ?_
      refine RL.assign rfl rfl rfl ?_
      refine RL.nil ?_
      refine NX.seq ?_
      refine TR.seq ?_
      refine TR.seq ?_
      refine TR.region ?_
      refine RL.move rfl rfl rfl ?_
      refine RL.nil ?_
      refine NX.seq ?_
      refine TR.condF rfl ?_
      refine TR.skip ?_
      refine NX.seq ?_
      refine TR.seq ?_
      have hqf := hfq
      have hft : f ≤ f + t := by omega
      have htl := hft0
      refine TR.region ?_
      refine RL.move rfl rfl rfl ?_
      refine RL.move rfl rfl rfl ?_
      refine RL.move rfl rfl rfl ?_
      refine RL.bin rfl rfl rfl (BinV.mul _ rfl (by omega) (by omega)) rfl ?_
      refine RL.bin rfl rfl rfl (BinV.add _ rfl (by omega) (by omega)) rfl ?_
      refine RL.move rfl rfl rfl ?_
      refine RL.lenSlice rfl rh_tl98 rfl rfl ?_
      refine RL.call rfl rfl Try.call24 rfl (pick_spec (.tail _ ha) hxs (by decide)) (fun rk => ?_)
      obtain ⟨rkv, rkh⟩ := rk
      obtain ⟨k, rfl⟩ : ∃ k : Nat, rkv = k := ⟨rkv.toNat, by omega⟩
      dsimp only
      have hk : k < wordsE.length := by rw [wordsE_len]; omega
      refine RL.indexAddr rfl rh_tl98 rh_tz9 rfl rfl (by omega) (by omega) rfl ?_
      refine RL.loadF rfl rfl (fun w K hF => run_loadCell1 (j := ((k : Nat) : Int).toNat * 1) (v := S wordsE[k]) (hF (CellsF wb 0 (strsV wordsE)) (.head _)) rh_ts9 (strs_get hk)) rfl ?_
      refine RL.assign rfl rfl rfl ?_
      refine RL.nil ?_
      refine NX.seq ?_
      refine TR.seq ?_
      refine TR.seq ?_
      refine TR.region ?_
      refine RL.move rfl rfl rfl ?_
      refine RL.bin rfl rfl rfl (BinV.quo (by decide) ((n / 16 : Nat) : Int) (by rw [Int.tdiv_eq_ediv_of_nonneg (by omega)]; omega) (by omega) (by omega)) rfl ?_
      refine RL.bin rfl rfl rfl (BinV.remK (a := n / 16) (b := 5) (by decide)) rfl ?_
      refine RL.bin rfl rfl rfl BinV.eql rfl ?_
      refine RL.nil ?_
      refine NX.seq ?_
      refine TR.cond rfl (fun h3 => ?_) (fun h3 => ?_)
      · skip
        refine TR.region ?_
        refine RL.move rfl rfl rfl ?_
        refine RL.move rfl rfl rfl ?_
        refine RL.move rfl rfl rfl ?_
        refine RL.sliceS rfl rh_tstr9 rfl rfl rfl (by omega) (by omega) (by omega) rfl ?_
        refine RL.assign rfl rfl rfl ?_
        refine RL.nil ?_
        refine NX.seq ?_
        refine TR.seq ?_
        refine TR.region ?_
        refine RL.move rfl rfl rfl ?_
        refine RL.move rfl rfl rfl ?_
        refine RL.move rfl rfl rfl ?_
        refine RL.move rfl rfl rfl ?_
        refine RL.build rfl rfl (rh_bv78_0_1_2 _ _ _) rfl ?_
        refine RL.buildSlice rfl rfl (rh_bs26_1_0 _ _ _) rfl (fun b4 => ?_)
        refine RL.ofGV rfl rfl (GV.append (j := 1) rh_tl26 rh_ni26 rh_te78 rfl rfl rfl (src_box (i := 0) rfl rfl rfl) (by omega) (by omega)) (fun y => ?_)
        refine RL.assign rfl rfl rfl ?_
        refine RL.nil ?_
        refine NX.seq ?_
        refine TR.region ?_
        refine RL.move rfl rfl rfl ?_
        refine RL.assign rfl rfl rfl ?_
        refine RL.nil ?_
        refine NX.off ?_
        refine NX.seq ?_
        refine TR.region ?_
        refine RL.move rfl rfl rfl ?_
        refine RL.bin rfl rfl rfl (BinV.add _ rfl (by omega) (by omega)) rfl ?_
        refine RL.assign rfl rfl rfl ?_
        refine RL.nil ?_
        refine NX.roundP ⟨x.i + 1, (f + t), x.es ++ [⟨((f : Nat) : Int), (((f + t) : Nat) : Int), ((tx.take (((f + t) : Nat) : Int).toNat).drop ((f : Nat) : Int).toNat)⟩], y.1, y.2⟩ ⟨by rw [List.length_append]; show x.es.length + 1 = x.i + 1; omega, by show x.i + 1 ≤ 5; omega, htl, sm_step hx.2.2.2.1 hqf hft htl, mem_snoc_all hx.2.2.2.2.1 (by show (((tx.take (((f + t) : Nat) : Int).toNat).drop ((f : Nat) : Int).toNat).length : Int) ≤ (((f + t) : Nat) : Int) - ((f : Nat) : Int) + (5 : Nat); have := cut_len (l := tx) hft htl; omega), fun h => absurd h (by simp)⟩ (by show 5 - (x.i + 1) < 5 - x.i; omega) ⟨rfl, rfl, rfl, rfl, ?_, ?_, rfl, trivial⟩ (fun w hw => ?_)
        · show some (Value.slice y.1 (x.es.length + 1) y.2) = some (Value.slice y.1 (x.es ++ [_]).length y.2)
          rw [List.length_append]; rfl
        · rfl
        · have h9 := (hw.to 2 [1] 1 [0] rfl)
          show St w (OwnSl 78 3 y.1 (x.es ++ [_]).length y.2 (edC (x.es ++ [_])) :: M) _
          rw [List.length_append, edC_append]
          exact h9
      · skip
        refine TR.skip ?_
        refine NX.seq ?_
        refine TR.seq ?_
        refine TR.region ?_
        refine RL.move rfl rfl rfl ?_
        refine RL.move rfl rfl rfl ?_
        refine RL.move rfl rfl rfl ?_
        refine RL.move rfl rfl rfl ?_
        refine RL.build rfl rfl (rh_bv78_0_1_2 _ _ _) rfl ?_
        refine RL.buildSlice rfl rfl (rh_bs26_1_0 _ _ _) rfl (fun b6 => ?_)
        refine RL.ofGV rfl rfl (GV.append (j := 1) rh_tl26 rh_ni26 rh_te78 rfl rfl rfl (src_box (i := 0) rfl rfl rfl) (by omega) (by omega)) (fun y => ?_)
        refine RL.assign rfl rfl rfl ?_
        refine RL.nil ?_
        refine NX.seq ?_
        refine TR.region ?_
        refine RL.move rfl rfl rfl ?_
        refine RL.assign rfl rfl rfl ?_
        refine RL.nil ?_
        refine NX.off ?_
        refine NX.seq ?_
        refine TR.region ?_
        refine RL.move rfl rfl rfl ?_
        refine RL.bin rfl rfl rfl (BinV.add _ rfl (by omega) (by omega)) rfl ?_
        refine RL.assign rfl rfl rfl ?_
        refine RL.nil ?_
        refine NX.roundP ⟨x.i + 1, (f + t), x.es ++ [⟨((f : Nat) : Int), (((f + t) : Nat) : Int), wordsE[k]⟩], y.1, y.2⟩ ⟨by rw [List.length_append]; show x.es.length + 1 = x.i + 1; omega, by show x.i + 1 ≤ 5; omega, htl, sm_step hx.2.2.2.1 hqf hft htl, mem_snoc_all hx.2.2.2.2.1 (by show (wordsE[k].length : Int) ≤ (((f + t) : Nat) : Int) - ((f : Nat) : Int) + (5 : Nat); have := wordsE_short hk; omega), fun h => absurd h (by simp)⟩ (by show 5 - (x.i + 1) < 5 - x.i; omega) ⟨rfl, rfl, rfl, rfl, ?_, ?_, rfl, trivial⟩ (fun w hw => ?_)
        · show some (Value.slice y.1 (x.es.length + 1) y.2) = some (Value.slice y.1 (x.es ++ [_]).length y.2)
          rw [List.length_append]; rfl
        · rfl
        · have h9 := (hw.to 2 [1] 1 [0] rfl)
          show St w (OwnSl 78 3 y.1 (x.es ++ [_]).length y.2 (edC (x.es ++ [_])) :: M) _
          rw [List.length_append, edC_append]
          exact h9
    · skip
      refine TR.skip ?_
      refine NX.seq ?_
      refine TR.seq ?_
      skip
      refine TR.region ?_
      refine RL.move rfl rfl rfl ?_
      refine RL.move rfl rfl rfl ?_
      refine RL.move rfl rfl rfl ?_
      refine RL.bin rfl rfl rfl (BinV.mul _ rfl (by omega) (by omega)) rfl ?_
      refine RL.bin rfl rfl rfl (BinV.add _ rfl (by omega) (by omega)) rfl ?_
      refine RL.move rfl rfl rfl ?_
      refine RL.lenStr rfl rh_tstr9 rfl rfl ?_
      refine RL.move rfl rfl rfl ?_
      refine RL.bin rfl rfl rfl (BinV.sub ((tx.length - f : Nat) : Int) (by omega) (by omega) (by omega)) rfl ?_
      refine RL.min rfl rfl rfl rfl ?_
      refine RL.bin rfl rfl rfl (BinV.add ((min (tx.length - f) 7 + 1 : Nat) : Int) (by omega) (by omega) (by omega)) rfl ?_
      refine RL.call rfl rfl Try.call24 rfl (pick_spec (m := ((min (tx.length - f) 7 + 1 : Nat) : Int)) (.tail _ ha) hxs (by omega)) (fun rt => ?_)
      obtain ⟨rtv, rth⟩ := rt
      obtain ⟨t, rfl⟩ : ∃ t : Nat, rtv = t := ⟨rtv.toNat, by omega⟩
      dsimp only
      have hft0 : f + t ≤ tx.length := by omega
      refine RL.bin rfl rfl rfl (BinV.add ((f + t : Nat) : Int) (by omega) (by omega) (by omega)) rfl ?_
      refine RL.assign rfl rfl rfl ?_
      refine RL.nil ?_
      refine NX.seq ?_
      refine TR.seq ?_
      refine TR.seq ?_
      refine TR.region ?_
      refine RL.move rfl rfl rfl ?_
      refine RL.nil ?_
      refine NX.seq ?_
      refine TR.condF rfl ?_
      refine TR.skip ?_
      refine NX.seq ?_
      refine TR.seq ?_
      have hqf := hfq
      have hft : f ≤ f + t := by omega
      have htl := hft0
      refine TR.region ?_
      refine RL.move rfl rfl rfl ?_
      refine RL.move rfl rfl rfl ?_
      refine RL.move rfl rfl rfl ?_
      refine RL.bin rfl rfl rfl (BinV.mul _ rfl (by omega) (by omega)) rfl ?_
      refine RL.bin rfl rfl rfl (BinV.add _ rfl (by omega) (by omega)) rfl ?_
      refine RL.move rfl rfl rfl ?_
      refine RL.lenSlice rfl rh_tl98 rfl rfl ?_
      refine RL.call rfl rfl Try.call24 rfl (pick_spec (.tail _ ha) hxs (by decide)) (fun rk => ?_)
      obtain ⟨rkv, rkh⟩ := rk
      obtain ⟨k, rfl⟩ : ∃ k : Nat, rkv = k := ⟨rkv.toNat, by omega⟩
      dsimp only
      have hk : k < wordsE.length := by rw [wordsE_len]; omega
      refine RL.indexAddr rfl rh_tl98 rh_tz9 rfl rfl (by omega) (by omega) rfl ?_
      refine RL.loadF rfl rfl (fun w K hF => run_loadCell1 (j := ((k : Nat) : Int).toNat * 1) (v := S wordsE[k]) (hF (CellsF wb 0 (strsV wordsE)) (.head _)) rh_ts9 (strs_get hk)) rfl ?_
      refine RL.assign rfl rfl rfl ?_
      refine RL.nil ?_
      refine NX.seq ?_
      refine TR.seq ?_
      refine TR.seq ?_
      refine TR.region ?_
      refine RL.move rfl rfl rfl ?_
      refine RL.bin rfl rfl rfl (BinV.quo (by decide) ((n / 16 : Nat) : Int) (by rw [Int.tdiv_eq_ediv_of_nonneg (by omega)]; omega) (by omega) (by omega)) rfl ?_
      refine RL.bin rfl rfl rfl (BinV.remK (a := n / 16) (b := 5) (by decide)) rfl ?_
      refine RL.bin rfl rfl rfl BinV.eql rfl ?_
      refine RL.nil ?_
      refine NX.seq ?_
      refine TR.cond rfl (fun h8 => ?_) (fun h8 => ?_)
      · skip
        refine TR.region ?_
        refine RL.move rfl rfl rfl ?_
        refine RL.move rfl rfl rfl ?_
        refine RL.move rfl rfl rfl ?_
        refine RL.sliceS rfl rh_tstr9 rfl rfl rfl (by omega) (by omega) (by omega) rfl ?_
        refine RL.assign rfl rfl rfl ?_
        refine RL.nil ?_
        refine NX.seq ?_
        refine TR.seq ?_
        refine TR.region ?_
        refine RL.move rfl rfl rfl ?_
        refine RL.move rfl rfl rfl ?_
        refine RL.move rfl rfl rfl ?_
        refine RL.move rfl rfl rfl ?_
        refine RL.build rfl rfl (rh_bv78_0_1_2 _ _ _) rfl ?_
        refine RL.buildSlice rfl rfl (rh_bs26_1_0 _ _ _) rfl (fun b9 => ?_)
        refine RL.ofGV rfl rfl (GV.append (j := 1) rh_tl26 rh_ni26 rh_te78 rfl rfl rfl (src_box (i := 0) rfl rfl rfl) (by omega) (by omega)) (fun y => ?_)
        refine RL.assign rfl rfl rfl ?_
        refine RL.nil ?_
        refine NX.seq ?_
        refine TR.region ?_
        refine RL.move rfl rfl rfl ?_
        refine RL.assign rfl rfl rfl ?_
        refine RL.nil ?_
        refine NX.off ?_
        refine NX.seq ?_
        refine TR.region ?_
        refine RL.move rfl rfl rfl ?_
        refine RL.bin rfl rfl rfl (BinV.add _ rfl (by omega) (by omega)) rfl ?_
        refine RL.assign rfl rfl rfl ?_
        refine RL.nil ?_
        refine NX.roundP ⟨x.i + 1, (f + t), x.es ++ [⟨((f : Nat) : Int), (((f + t) : Nat) : Int), ((tx.take (((f + t) : Nat) : Int).toNat).drop ((f : Nat) : Int).toNat)⟩], y.1, y.2⟩ ⟨by rw [List.length_append]; show x.es.length + 1 = x.i + 1; omega, by show x.i + 1 ≤ 5; omega, htl, sm_step hx.2.2.2.1 hqf hft htl, mem_snoc_all hx.2.2.2.2.1 (by show (((tx.take (((f + t) : Nat) : Int).toNat).drop ((f : Nat) : Int).toNat).length : Int) ≤ (((f + t) : Nat) : Int) - ((f : Nat) : Int) + (5 : Nat); have := cut_len (l := tx) hft htl; omega), fun h => absurd h (by simp)⟩ (by show 5 - (x.i + 1) < 5 - x.i; omega) ⟨rfl, rfl, rfl, rfl, ?_, ?_, rfl, trivial⟩ (fun w hw => ?_)
        · show some (Value.slice y.1 (x.es.length + 1) y.2) = some (Value.slice y.1 (x.es ++ [_]).length y.2)
          rw [List.length_append]; rfl
        · rfl
        · have h9 := (hw.to 2 [1] 1 [0] rfl)
          show St w (OwnSl 78 3 y.1 (x.es ++ [_]).length y.2 (edC (x.es ++ [_])) :: M) _
          rw [List.length_append, edC_append]
          exact h9
      · skip
        refine TR.skip ?_
        refine NX.seq ?_
        refine TR.seq ?_
        refine TR.region ?_
        refine RL.move rfl rfl rfl ?_
        refine RL.move rfl rfl rfl ?_
        refine RL.move rfl rfl rfl ?_
        refine RL.move rfl rfl rfl ?_
        refine RL.build rfl rfl (rh_bv78_0_1_2 _ _ _) rfl ?_
        refine RL.buildSlice rfl rfl (rh_bs26_1_0 _ _ _) rfl (fun b11 => ?_)
        refine RL.ofGV rfl rfl (GV.append (j := 1) rh_tl26 rh_ni26 rh_te78 rfl rfl rfl (src_box (i := 0) rfl rfl rfl) (by omega) (by omega)) (fun y => ?_)
        refine RL.assign rfl rfl rfl ?_
        refine RL.nil ?_
        refine NX.seq ?_
        refine TR.region ?_
        refine RL.move rfl rfl rfl ?_
        refine RL.assign rfl rfl rfl ?_
        refine RL.nil ?_
        refine NX.off ?_
        refine NX.seq ?_
        refine TR.region ?_
        refine RL.move rfl rfl rfl ?_
        refine RL.bin rfl rfl rfl (BinV.add _ rfl (by omega) (by omega)) rfl ?_
        refine RL.assign rfl rfl rfl ?_
        refine RL.nil ?_
        refine NX.roundP ⟨x.i + 1, (f + t), x.es ++ [⟨((f : Nat) : Int), (((f + t) : Nat) : Int), wordsE[k]⟩], y.1, y.2⟩ ⟨by rw [List.length_append]; show x.es.length + 1 = x.i + 1; omega, by show x.i + 1 ≤ 5; omega, htl, sm_step hx.2.2.2.1 hqf hft htl, mem_snoc_all hx.2.2.2.2.1 (by show (wordsE[k].length : Int) ≤ (((f + t) : Nat) : Int) - ((f : Nat) : Int) + (5 : Nat); have := wordsE_short hk; omega), fun h => absurd h (by simp)⟩ (by show 5 - (x.i + 1) < 5 - x.i; omega) ⟨rfl, rfl, rfl, rfl, ?_, ?_, rfl, trivial⟩ (fun w hw => ?_)
        · show some (Value.slice y.1 (x.es.length + 1) y.2) = some (Value.slice y.1 (x.es ++ [_]).length y.2)
          rw [List.length_append]; rfl
        · rfl
        · have h9 := (hw.to 2 [1] 1 [0] rfl)
          show St w (OwnSl 78 3 y.1 (x.es ++ [_]).length y.2 (edC (x.es ++ [_])) :: M) _
          rw [List.length_append, edC_append]
          exact h9
  · skip
    refine TR.exit ?_
    refine NX.exitThen ?_
    refine NX.exitThen ?_
    refine NX.exitHere ?_
    refine NX.seq ?_
    refine TR.seq ?_
    refine TR.region ?_
    refine RL.move rfl rfl rfl ?_
    refine RL.assign rfl rfl rfl ?_
    refine RL.nil ?_
    refine NX.seq ?_
    refine TR.ret ?_
    exact NX.ret1 (⟨⟨x.es, x.oa, x.c⟩, by show x.es.length ≤ 5; have := hx.1; have := hx.2.1; omega, hx.2.2.2.1.sound, hx.2.2.2.2.1⟩ : {z : EdX // EdsOk tx z.es}) rfl rfl rfl (fun w hw => ((hw.to 1 [0] 1 [] rfl) : St w _ _).keepSl)
theorem gRaw_spec {tx : List UInt8} {xs : List Int} {oa : Option Addr} {ca : Nat} {M : List HP} {F : List Fact} (ha : ArrF oa (ints xs) ∈ F) (hxs : IntsOk xs) (hl : tx.length ≤ 1000000) : Ctr Try.prog 38 [S tx, .slice oa xs.length ca] M F {z : EdX // EdsOk tx z.es} (fun z => .slice z.1.oa z.1.es.length z.1.c) (fun _ => M) (fun z => ArrF z.1.oa (edC z.1.es) :: F) := by
  refine Ctr.body Try.func38 rfl rfl ?_
  refine TR.seq ?_
  refine TR.region ?_
  refine RL.assign rfl rfl rfl ?_
  refine RL.nil ?_
  refine NX.seq ?_
  refine TR.seq ?_
  refine TR.region ?_
  refine RL.move rfl rfl rfl ?_
  refine RL.move rfl rfl rfl ?_
  refine RL.call rfl rfl Try.call45 rfl (some_r ha hxs hl) (fun z => ?_)
  refine RL.assign rfl rfl rfl ?_
  refine RL.nil ?_
  refine NX.seq ?_
  refine TR.ret ?_
  exact NX.ret1 z rfl rfl rfl (fun w hw => hw)
set_option maxHeartbeats 1000000 in
theorem same_docs {b b2 : Nat} {d : Dp} {r : RD} {h : Hs} {M : List HP} {F : List Fact} (hd : RelD d h) (hr : RelR r h) : Ctr Try.prog 39 [.pointer (some ⟨b, 0, none⟩), .pointer (some ⟨b2, 0, none⟩)] (DocB 84 80 b (d) :: RdB 101 9 26 39 b2 (r) :: M) F Unit (fun _ => .bool true) (fun _ => DocB 84 80 b (d) :: RdB 101 9 26 39 b2 (r) :: M) (fun _ => F) := by
  refine Ctr.body Try.func39 rfl rfl ?_
  refine TR.seq ?_
  refine TR.region ?_
  refine RL.assign rfl rfl rfl ?_
  refine RL.nil ?_
  refine NX.seq ?_
  refine TR.seq ?_
  refine TR.region ?_
  refine RL.move rfl rfl rfl ?_
  refine RL.call rfl rfl Try.call20 rfl (dtext_spec hd) (fun _ => ?_)
  refine RL.move rfl rfl rfl ?_
  refine RL.call rfl rfl Try.call25 rfl (Ctr.pick 2 [1, 0] rfl (rtext_spec hr)) (fun _ => ?_)
  refine RL.bin rfl rfl rfl (BinV.to (d := true) BinV.eqlS (decide_eq_true rfl)) rfl ?_
  refine RL.move rfl rfl rfl ?_
  refine RL.move rfl rfl rfl ?_
  refine RL.call rfl rfl Try.call32 rfl (Ctr.pick 2 [1, 0] rfl (version_spec hd)) (fun _ => ?_)
  refine RL.move rfl rfl rfl ?_
  refine RL.call rfl rfl Try.call58 rfl (Ctr.pick 2 [1, 0] rfl (rversion_spec hr)) (fun _ => ?_)
  refine RL.bin rfl rfl rfl (BinV.to (d := true) BinV.eql (decide_eq_true rfl)) rfl ?_
  refine RL.pickT rfl rfl rfl rfl ?_
  refine RL.move rfl rfl rfl ?_
  refine RL.move rfl rfl rfl ?_
  refine RL.call rfl rfl Try.call33 rfl (Ctr.pick 2 [1, 0] rfl (held_spec hd)) (fun z1 => ?_)
  refine RL.move rfl rfl rfl ?_
  refine RL.call rfl rfl Try.call71 rfl (Ctr.pick 2 [1, 0] rfl (rversions_spec hr)) (fun z2 => ?_)
  refine RL.call rfl rfl Try.call36 rfl (Ctr.boolT (decide_eq_true rfl) (sameInts_spec (xs := srt (h.held.map Prod.fst)) (ys := srt (h.held.map Prod.fst)) (.tail _ (.head _)) (.head _) (by rw [srt_len, List.length_map]; have := hd.ok.few; omega))) (fun _ => ?_)
  refine RL.pickT rfl rfl rfl rfl ?_
  refine RL.assign rfl rfl rfl ?_
  refine RL.nil ?_
  refine NX.seq ?_
  refine TR.ret ?_
  exact NX.ret1 () rfl rfl rfl (fun w hw => (hw.to 2 [1, 0] 2 [] rfl))
end Go.Proofs.Ytkdeopioelocnaa

namespace Go.Proofs.Ytkdeopioelocnaa
open Go.GL
set_option linter.unusedVariables false
theorem ri_ta39 : tyAgg Try.prog 39 2 = true := by kernel_rfl
theorem ri_ta61 : tyAgg Try.prog 61 2 = true := by kernel_rfl
theorem ri_tb4 : tyBool Try.prog 4 = true := by kernel_rfl
theorem ri_tl22 : tySlice Try.prog 22 3 = true := by kernel_rfl
theorem ri_tl23 : tySlice Try.prog 23 39 = true := by kernel_rfl
theorem ri_tp31 : tyPtr Try.prog 31 84 = true := by kernel_rfl
theorem ri_tp48 : tyPtr Try.prog 48 101 = true := by kernel_rfl
theorem ri_tz39 : tySize Try.prog 39 2 = true := by kernel_rfl
set_option maxHeartbeats 2000000 in
theorem law_runs05 {xs ms vs : List Int} {at0 how pl pu ver : Int} {text : List UInt8} {oa om ov : Option Addr} {ca cm cv : Nat} {M : List HP} {F : List Fact} (hx : ArrF oa (ints xs) ∈ F) (hm : ArrF om (ints ms) ∈ F) (hvs : ArrF ov (ints vs) ∈ F) (hc : xs.length ≤ ca) (hxs : IntsOk xs) (hms : IntsOk ms) (hvx : IntsOk vs) (hat : I64 at0) (hhow : I64 how) (hver : I64 ver) : Ctr Try.prog 8 [.slice oa xs.length ca, .slice om ms.length cm, I at0, I how, .agg #[I pl, I pu], .slice ov vs.length cv, S text, I ver] M F Unit (fun _ => .bool true) (fun _ => M) (fun _ => F) := by
  refine Ctr.body Try.func8 rfl rfl ?_
  refine TR.seq ?_
  refine TR.region ?_
  refine RL.boxA rfl rfl rfl (fun b1 => ?_)
  refine RL.assign rfl rfl rfl ?_
  refine RL.nil ?_
  refine NX.seq ?_
  refine TR.seq ?_
  refine TR.region ?_
  refine RL.move rfl rfl rfl ?_
  refine RL.call rfl rfl Try.call10 rfl (chain_spec (xs := xs) (most := 8) hx hc hxs (by decide)) (fun zc => ?_)
  refine RL.move rfl rfl rfl ?_
  refine RL.extract rfl rfl rfl rfl ?_
  refine RL.extract rfl rfl rfl rfl ?_
  refine RL.assign rfl rfl rfl ?_
  refine RL.assign rfl rfl rfl ?_
  refine RL.nil ?_
  refine NX.seq ?_
  refine TR.seq ?_
  refine TR.region ?_
  refine RL.move rfl rfl rfl ?_
  refine RL.call rfl rfl Try.call13 rfl (new_spec (tx := zc.1.t) (ver := 0) (by have := zc.2.1; omega) (by decide) (by decide)) (fun qd => ?_)
  refine RL.move rfl rfl rfl ?_
  refine RL.extract rfl rfl rfl rfl ?_
  refine RL.extract rfl rfl rfl rfl ?_
  refine RL.assign rfl rfl rfl ?_
  refine RL.assign rfl rfl rfl ?_
  refine RL.nil ?_
  refine NX.seq ?_
  refine TR.seq ?_
  refine TR.region ?_
  refine RL.move rfl rfl rfl ?_
  refine RL.call rfl rfl Try.call22 rfl (rnew_spec (tx := zc.1.t) (ver := 0) (by have := zc.2.1; omega) (by decide) (by decide)) (fun qr => ?_)
  refine RL.move rfl rfl rfl ?_
  refine RL.extract rfl rfl rfl rfl ?_
  refine RL.extract rfl rfl rfl rfl ?_
  refine RL.assign rfl rfl rfl ?_
  refine RL.assign rfl rfl rfl ?_
  refine RL.nil ?_
  refine NX.seq ?_
  refine TR.seq ?_
  refine TR.seq ?_
  refine TR.region ?_
  refine RL.move rfl rfl rfl ?_
  refine RL.bin rfl rfl rfl (BinV.to (d := false) BinV.neq (decide_eq_false (by simp))) rfl ?_
  refine RL.move rfl rfl rfl ?_
  refine RL.move rfl rfl rfl ?_
  refine RL.bin rfl rfl rfl (BinV.eqlPtrNil ri_tp31) rfl ?_
  refine RL.pickF rfl rfl rfl rfl ?_
  refine RL.nil ?_
  refine NX.seq ?_
  refine TR.condF rfl ?_
  refine TR.skip ?_
  refine NX.seq ?_
  refine TR.seq ?_
  have hr8 := zc.2.2.1
  have hS : ∀ r, r ∈ zc.1.rows → HeS r := ChOk.hs zc.2.2.2 (by omega)
  refine TR.sub (E' := [(1, _), (2, _), (3, _), (5, _), (6, _), (7, _), (12, _), (16, _), (18, _), (19, _), (21, _)]) ⟨rfl, rfl, rfl, rfl, rfl, rfl, rfl, rfl, rfl, rfl, rfl, trivial⟩ ?_
  refine TR.draw mixed ?_
  apply AR.more [(0, _), (1, _), (3, _), (4, _), (5, _)]
  refine AR.eff [0, 1, 3, 4, 5] 2 [0, 1, 2, 3, 4, 5, 6, 7] ⟨QOne.yes rfl rfl rfl (PV.move rfl), QOne.yes rfl rfl rfl (PV.move rfl), QOne.yes rfl rfl rfl (PV.move rfl), QOne.yes rfl rfl rfl (PV.move rfl), QOne.yes rfl rfl rfl (PV.loadA 2 rfl rfl ri_ta61), trivial⟩ rfl rfl rfl rfl rfl rfl rfl (EV.call rfl Try.call31 (shuffled_spec (rows := zc.1.rows) (xs := ms) (.tail _ (.tail _ (.head _))) (.tail _ (.tail _ (.tail _ (.head _)))) (.tail _ (.tail _ (.tail _ (.tail _ hm)))) hms (by omega))) (fun zs => ?_)
  refine AR.done [0, 1] rfl ?_
  refine AR.eff [3, 4, 5] 6 [0, 1, 2, 3, 4, 5, 6, 7] ⟨QOne.yes rfl rfl rfl (PV.move rfl), QOne.yes rfl rfl rfl (PV.move rfl), QOne.yes rfl rfl rfl (PV.loadA 2 rfl rfl ri_ta61), trivial⟩ rfl rfl rfl rfl rfl rfl rfl (EV.call rfl Try.call37 (spoilt_spec (rows := zs.1.l) (at0 := at0) (how := how) (pl := pl) (pu := pu) (.head _) (.tail _ (.head _)) (fun r hr => hS r ((zs.2.1 r).1 hr)) (by have := zs.2.2; omega) hat hhow)) (fun zp => ?_)
  refine AR.done [3, 4, 5] rfl ?_
  apply AR.more [(7, _)]
  refine AR.last [7] [0, 1, 2, 3, 4, 5, 6, 7] ⟨QOne.yes rfl rfl rfl (PV.assign rfl), trivial⟩ rfl rfl rfl ?_
  refine NX.sub (E' := [(3, _), (5, _), (6, _), (7, _), (16, _), (19, _), (21, _), (23, _)]) ⟨rfl, rfl, rfl, rfl, rfl, rfl, rfl, rfl, trivial⟩ ?_
  refine NX.seq ?_
  refine TR.seq ?_
  have hok := zp.2.1
  have hpn : zp.1.l.length ≤ 12 := by have := zs.2.2; have := zp.2.2; omega
  refine TR.region ?_
  refine RL.move rfl rfl rfl ?_
  refine RL.move rfl rfl rfl ?_
  refine RL.lenSlice rfl ri_tl23 rfl rfl ?_
  refine RL.bin rfl rfl rfl (BinV.add _ rfl (by omega) (by omega)) rfl ?_
  refine RL.call rfl rfl Try.call34 rfl (around_spec (n := how) (m := (zp.1.l.length : Int) + 1) (by omega) hhow.1 hhow.2) (fun rk => ?_)
  refine RL.assign rfl rfl rfl ?_
  refine RL.nil ?_
  refine NX.seq ?_
  refine TR.seq ?_
  refine TR.seq ?_
  refine TR.region ?_
  refine RL.assign rfl rfl rfl ?_
  refine RL.nil ?_
  refine NX.seq ?_
  refine TR.block ?_
  refine TR.loopP (ι := DrX) (fun x => x.k ≤ zp.1.l.length + 1 ∧ RelD x.d x.h ∧ RelR x.r x.h) (fun x => [(5, .slice ov vs.length cv), (6, S text), (7, I ver), (19, .pointer (some ⟨qd.1.1, 0, none⟩)), (21, .pointer (some ⟨qr.1.1, 0, none⟩)), (23, .slice zp.1.oa zp.1.l.length zp.1.c), (24, I rk.1), (25, I (x.k : Nat))]) (fun x => DocB 84 80 qd.1.1 (x.d) :: RdB 101 9 26 39 qr.1.1 (x.r) :: M) (fun x => DocF x.d :: RdF x.r :: ArrF zp.1.oa (heC zp.1.l) :: HeF zp.1.l :: F) (fun x => zp.1.l.length + 1 - x.k) ⟨0, qd.1.2, qr.1.2, (⟨0, [(zc.1.t, [])], []⟩ : Hs)⟩ ⟨Nat.zero_le _, qd.2, qr.2⟩ ⟨rfl, rfl, rfl, rfl, rfl, rfl, rfl, rfl, trivial⟩ (fun w hw => (hw.to 3 [1, 0] 8 [5, 4, 0, 1] rfl)) (fun x hx1 => ?_)
  refine TR.seq ?_
  refine TR.seq ?_
  refine TR.region ?_
  refine RL.move rfl rfl rfl ?_
  refine RL.move rfl rfl rfl ?_
  refine RL.lenSlice rfl ri_tl23 rfl rfl ?_
  refine RL.bin rfl rfl rfl BinV.leq rfl ?_
  refine RL.nil ?_
  refine NX.seq ?_
  refine TR.cond rfl (fun h2 => ?_) (fun h2 => ?_)
  · skip
    have hxk := of_decide_eq_true h2
    refine TR.skip ?_
    refine NX.seq ?_
    refine TR.seq ?_
    refine TR.block ?_
    refine TR.cut (ι := {u : DrX // u.k = x.k ∧ RelD u.d u.h ∧ RelR u.r u.h}) (fun uu => [(5, .slice ov vs.length cv), (6, S text), (7, I ver), (19, .pointer (some ⟨qd.1.1, 0, none⟩)), (21, .pointer (some ⟨qr.1.1, 0, none⟩)), (23, .slice zp.1.oa zp.1.l.length zp.1.c), (24, I rk.1), (25, I (uu.1.k : Nat))]) (fun uu => DocB 84 80 qd.1.1 (uu.1.d) :: RdB 101 9 26 39 qr.1.1 (uu.1.r) :: M) (fun uu => DocF uu.1.d :: RdF uu.1.r :: ArrF zp.1.oa (heC zp.1.l) :: HeF zp.1.l :: F) ?_ (fun uu => ?_)
    · skip
      refine TR.seq ?_
      refine TR.region ?_
      refine RL.move rfl rfl rfl ?_
      refine RL.move rfl rfl rfl ?_
      refine RL.bin rfl rfl rfl BinV.eql rfl ?_
      refine RL.nil ?_
      refine NX.seq ?_
      refine TR.cond rfl (fun h3 => ?_) (fun h3 => ?_)
      · skip
        refine TR.seq ?_
        refine TR.region ?_
        refine RL.move rfl rfl rfl ?_
        refine RL.call rfl rfl Try.call20 rfl (dtext_spec (b := qd.1.1) (d := x.d) (h := x.h) hx1.2.1) (fun _ => ?_)
        refine RL.move rfl rfl rfl ?_
        refine RL.call rfl rfl Try.call38 rfl (gRaw_spec (tx := x.h.tx) (xs := vs) (.tail _ (.tail _ (.tail _ (.tail _ hvs)))) hvx (by have := hx1.2.1.ok.tx; omega)) (fun ze => ?_)
        refine RL.assign rfl rfl rfl ?_
        refine RL.nil ?_
        refine NX.seq ?_
        refine TR.seq ?_
        refine TR.region ?_
        refine RL.move rfl rfl rfl ?_
        refine RL.move rfl rfl rfl ?_
        refine RL.call rfl rfl Try.call16 rfl (dedit_spec (b := qd.1.1) (d := x.d) (h := x.h) (l := ze.1.es) hx1.2.1 (.tail _ (.head _)) (.head _) (by have := ze.2.1; omega) (fun e => by have := ze.2.len; have := hx1.2.1.ok.tx; omega)) (fun q3 => ?_)
        refine RL.move rfl rfl rfl ?_
        refine RL.extract rfl rfl rfl rfl ?_
        refine RL.extract rfl rfl rfl rfl ?_
        refine RL.assign rfl rfl rfl ?_
        refine RL.assign rfl rfl rfl ?_
        refine RL.nil ?_
        refine NX.seq ?_
        refine TR.seq ?_
        refine TR.region ?_
        refine RL.move rfl rfl rfl ?_
        refine RL.move rfl rfl rfl ?_
        refine RL.call rfl rfl Try.call26 rfl (Ctr.pick 2 [1, 0] rfl (redit_spec (b := qr.1.1) (d := x.r) (h := x.h) (l := ze.1.es) hx1.2.2 (.tail _ (.tail _ (.tail _ (.head _)))) (.tail _ (.head _)) (by have := ze.2.1; omega) (fun e => by have := ze.2.len; have := hx1.2.1.ok.tx; omega))) (fun q4 => ?_)
        refine RL.move rfl rfl rfl ?_
        refine RL.extract rfl rfl rfl rfl ?_
        refine RL.extract rfl rfl rfl rfl ?_
        refine RL.assign rfl rfl rfl ?_
        refine RL.assign rfl rfl rfl ?_
        refine RL.nil ?_
        refine NX.seq ?_
        refine TR.seq ?_
        refine TR.region ?_
        refine RL.move rfl rfl rfl ?_
        refine RL.move rfl rfl rfl ?_
        refine RL.bin rfl rfl rfl (BinV.to (d := false) BinV.neq (decide_eq_false (by simp))) rfl ?_
        refine RL.move rfl rfl rfl ?_
        refine RL.move rfl rfl rfl ?_
        refine RL.move rfl rfl rfl ?_
        refine RL.bin rfl rfl rfl (BinV.to (d := false) BinV.neq (decide_eq_false (by simp))) rfl ?_
        refine RL.pickF rfl rfl rfl rfl ?_
        refine RL.move rfl rfl rfl ?_
        refine RL.move rfl rfl rfl ?_
        refine RL.move rfl rfl rfl ?_
        refine RL.call rfl rfl Try.call39 rfl (Ctr.pick 2 [1, 0] rfl (same_docs (b := qd.1.1) (b2 := qr.1.1) (d := q3.1) (r := q4.1) (h := (editH x.h ze.1.es).2) q3.2 q4.2)) (fun _ => ?_)
        refine RL.not rfl rfl rfl ?_
        refine RL.pickF rfl rfl rfl rfl ?_
        refine RL.nil ?_
        refine NX.seq ?_
        refine TR.condF rfl ?_
        refine TR.skip ?_
        exact NX.meet (⟨⟨x.k, q3.1, q4.1, (editH x.h ze.1.es).2⟩, rfl, q3.2, q4.2⟩ : {u : DrX // u.k = x.k ∧ RelD u.d u.h ∧ RelR u.r u.h}) ⟨rfl, rfl, rfl, rfl, rfl, rfl, rfl, rfl, trivial⟩ (fun w hw => (hw.to 2 [0, 1] 7 [1, 0, 5, 6] rfl))
      · skip
        refine TR.skip ?_
        exact NX.meet (⟨x, rfl, hx1.2⟩ : {u : DrX // u.k = x.k ∧ RelD u.d u.h ∧ RelR u.r u.h}) ⟨rfl, rfl, rfl, rfl, rfl, rfl, rfl, rfl, trivial⟩ (fun w hw => (hw.to 2 [0, 1] 4 [0, 1, 2, 3] rfl))
    obtain ⟨u, huk, hu⟩ := uu
    have hu : u.k = x.k ∧ RelD u.d u.h ∧ RelR u.r u.h := ⟨huk, hu⟩
    dsimp only
    refine TR.seq ?_
    refine TR.region ?_
    refine RL.move rfl rfl rfl ?_
    refine RL.move rfl rfl rfl ?_
    refine RL.lenSlice rfl ri_tl23 rfl rfl ?_
    refine RL.bin rfl rfl rfl BinV.lss rfl ?_
    refine RL.nil ?_
    refine NX.seq ?_
    refine TR.cond rfl (fun h4 => ?_) (fun h4 => ?_)
    · skip
      have hk : u.k < zp.1.l.length := by have := of_decide_eq_true h4; omega
      refine TR.openP (open_arr (oa := zp.1.oa) (xs := heC zp.1.l) (.tail _ (.tail _ (.head _))) (heC_ne (by omega))) (fun pr hpr => ?_)
      refine TR.weak (fun w hw => hw.derive (ψ := ArrF (zp.1.l[u.k]).oa (peC (zp.1.l[u.k]).l)) (fun K hf => hf (HeF zp.1.l) (.tail _ (.tail _ (.tail _ (.tail _ (.head _))))) _ (List.getElem_mem hk))) ?_
      refine TR.seq ?_
      refine TR.region ?_
      refine RL.move rfl rfl rfl ?_
      refine RL.move rfl rfl rfl ?_
      refine RL.move rfl rfl rfl ?_
      refine RL.indexAddr rfl ri_tl23 ri_tz39 (congrArg (fun a => some (Value.slice a _ _)) hpr) rfl (by omega) (by omega) rfl ?_
      refine RL.loadF rfl rfl (fun w K hF => run_he (hF (CellsF pr.1 pr.2 (heC zp.1.l)) (.tail _ (.head _))) ri_ta39 hk) rfl ?_
      refine RL.call rfl rfl Try.call15 rfl (recv_spec (b := qd.1.1) (d := u.d) (h := u.h) (ver := (zp.1.l[u.k]).k) (l := (zp.1.l[u.k]).l) hu.2.1 (.tail _ (.tail _ (.head _))) (.head _) (by have := (hok _ (List.getElem_mem hk)).1; omega) (by have := (hok _ (List.getElem_mem hk)).2.1; omega) (hok _ (List.getElem_mem hk)).2.2) (fun q1 => ?_)
      refine RL.move rfl rfl rfl ?_
      refine RL.extract rfl rfl rfl rfl ?_
      refine RL.extract rfl rfl rfl rfl ?_
      refine RL.assign rfl rfl rfl ?_
      refine RL.assign rfl rfl rfl ?_
      refine RL.nil ?_
      refine NX.seq ?_
      refine TR.seq ?_
      refine TR.region ?_
      refine RL.move rfl rfl rfl ?_
      refine RL.move rfl rfl rfl ?_
      refine RL.move rfl rfl rfl ?_
      refine RL.indexAddr rfl ri_tl23 ri_tz39 (congrArg (fun a => some (Value.slice a _ _)) hpr) rfl (by omega) (by omega) rfl ?_
      refine RL.loadF rfl rfl (fun w K hF => run_he (hF (CellsF pr.1 pr.2 (heC zp.1.l)) (.tail _ (.tail _ (.head _)))) ri_ta39 hk) rfl ?_
      refine RL.call rfl rfl Try.call23 rfl (Ctr.pick 2 [1, 0] rfl (rrecv_spec (b := qr.1.1) (d := u.r) (h := u.h) (ver := (zp.1.l[u.k]).k) (l := (zp.1.l[u.k]).l) hu.2.2 (.tail _ (.tail _ (.tail _ (.tail _ (.head _))))) (.tail _ (.head _)) (by have := (hok _ (List.getElem_mem hk)).1; omega) (by have := (hok _ (List.getElem_mem hk)).2.1; omega) (hok _ (List.getElem_mem hk)).2.2)) (fun q2 => ?_)
      refine RL.move rfl rfl rfl ?_
      refine RL.extract rfl rfl rfl rfl ?_
      refine RL.extract rfl rfl rfl rfl ?_
      refine RL.assign rfl rfl rfl ?_
      refine RL.assign rfl rfl rfl ?_
      refine RL.nil ?_
      refine NX.seq ?_
      refine TR.seq ?_
      refine TR.region ?_
      refine RL.move rfl rfl rfl ?_
      refine RL.move rfl rfl rfl ?_
      refine RL.bin rfl rfl rfl (BinV.to (d := false) BinV.neq (decide_eq_false (by simp))) rfl ?_
      refine RL.move rfl rfl rfl ?_
      refine RL.move rfl rfl rfl ?_
      refine RL.move rfl rfl rfl ?_
      refine RL.bin rfl rfl rfl (BinV.to (d := false) BinV.neq (decide_eq_false (by simp))) rfl ?_
      refine RL.pickF rfl rfl rfl rfl ?_
      refine RL.move rfl rfl rfl ?_
      refine RL.move rfl rfl rfl ?_
      refine RL.move rfl rfl rfl ?_
      refine RL.call rfl rfl Try.call39 rfl (Ctr.pick 2 [1, 0] rfl (same_docs (b := qd.1.1) (b2 := qr.1.1) (d := q1.1) (r := q2.1) (h := (recvH u.h zp.1.l[u.k].k zp.1.l[u.k].l).2) q1.2 q2.2)) (fun _ => ?_)
      refine RL.not rfl rfl rfl ?_
      refine RL.pickF rfl rfl rfl rfl ?_
      refine RL.nil ?_
      refine NX.seq ?_
      refine TR.condF rfl ?_
      refine TR.skip ?_
      refine NX.off ?_
      refine NX.seq ?_
      refine TR.region ?_
      refine RL.move rfl rfl rfl ?_
      refine RL.bin rfl rfl rfl (BinV.add _ rfl (by omega) (by omega)) rfl ?_
      refine RL.assign rfl rfl rfl ?_
      refine RL.nil ?_
      refine NX.roundP ⟨u.k + 1, q1.1, q2.1, (recvH u.h zp.1.l[u.k].k zp.1.l[u.k].l).2⟩ ⟨by show u.k + 1 ≤ _; omega, q1.2, q2.2⟩ (by show _ - (u.k + 1) < _; omega) ⟨rfl, rfl, rfl, rfl, rfl, rfl, rfl, rfl, trivial⟩ (fun w hw => (hw.to 2 [0, 1] 8 [1, 0, 6, 7] rfl))
    · skip
      have hk0 := of_decide_eq_false h4
      refine TR.skip ?_
      refine NX.off ?_
      refine NX.seq ?_
      refine TR.region ?_
      refine RL.move rfl rfl rfl ?_
      refine RL.bin rfl rfl rfl (BinV.add _ rfl (by omega) (by omega)) rfl ?_
      refine RL.assign rfl rfl rfl ?_
      refine RL.nil ?_
      refine NX.roundP ⟨u.k + 1, u.d, u.r, u.h⟩ ⟨by show u.k + 1 ≤ _; omega, hu.2⟩ (by show _ - (u.k + 1) < _; omega) ⟨rfl, rfl, rfl, rfl, rfl, rfl, rfl, rfl, trivial⟩ (fun w hw => (hw.to 2 [0, 1] 4 [0, 1, 2, 3] rfl))
  · skip
    refine TR.exit ?_
    refine NX.exitThen ?_
    refine NX.exitThen ?_
    refine NX.exitHere ?_
    refine NX.seq ?_
    refine TR.seq ?_
    refine TR.region ?_
    refine RL.move rfl rfl rfl ?_
    refine RL.call rfl rfl Try.call40 rfl (short_spec (l := text) (n := 20)) (fun _ => ?_)
    refine RL.assign rfl rfl rfl ?_
    refine RL.nil ?_
    refine NX.seq ?_
    refine TR.seq ?_
    refine TR.region ?_
    by_cases hvr : 0 ≤ ver ∧ ver ≤ 1099511627776
    · skip
      refine RL.move rfl rfl rfl ?_
      refine RL.move rfl rfl rfl ?_
      refine RL.call rfl rfl Try.call13 rfl (new_spec (tx := (text.take 20)) (ver := ver) (by rw [List.length_take]; omega) hvr.1 hvr.2) (fun qn => ?_)
      refine RL.move rfl rfl rfl ?_
      refine RL.extract rfl rfl rfl rfl ?_
      refine RL.extract rfl rfl rfl rfl ?_
      refine RL.assign rfl rfl rfl ?_
      refine RL.assign rfl rfl rfl ?_
      refine RL.nil ?_
      refine NX.seq ?_
      refine TR.seq ?_
      refine TR.region ?_
      refine RL.move rfl rfl rfl ?_
      refine RL.move rfl rfl rfl ?_
      refine RL.call rfl rfl Try.call22 rfl (rnew_spec (tx := (text.take 20)) (ver := ver) (by rw [List.length_take]; omega) hvr.1 hvr.2) (fun qm => ?_)
      refine RL.move rfl rfl rfl ?_
      refine RL.extract rfl rfl rfl rfl ?_
      refine RL.extract rfl rfl rfl rfl ?_
      refine RL.assign rfl rfl rfl ?_
      refine RL.assign rfl rfl rfl ?_
      refine RL.nil ?_
      refine NX.seq ?_
      refine TR.seq ?_
      refine TR.seq ?_
      refine TR.region ?_
      refine RL.move rfl rfl rfl ?_
      refine RL.move rfl rfl rfl ?_
      refine RL.bin rfl rfl rfl (BinV.to (d := false) BinV.neq (decide_eq_false (by simp))) rfl ?_
      refine RL.move rfl rfl rfl ?_
      refine RL.move rfl rfl rfl ?_
      refine RL.bin rfl rfl rfl (BinV.eqlPtrNil ri_tp31) rfl ?_
      refine RL.move rfl rfl rfl ?_
      refine RL.bin rfl rfl rfl (BinV.eqlPtrNil ri_tp48) rfl ?_
      refine RL.bin rfl rfl rfl (BinV.to (d := false) (BinV.neqB ri_tb4) (decide_eq_false (by simp))) rfl ?_
      refine RL.pickF rfl rfl rfl rfl ?_
      refine RL.nil ?_
      refine NX.seq ?_
      refine TR.condF rfl ?_
      refine TR.skip ?_
      refine NX.seq ?_
      refine TR.seq ?_
      refine TR.region ?_
      refine RL.move rfl rfl rfl ?_
      refine RL.bin rfl rfl rfl (BinV.eqlPtrNil ri_tp31) rfl ?_
      refine RL.move rfl rfl rfl ?_
      refine RL.move rfl rfl rfl ?_
      refine RL.call rfl rfl Try.call20 rfl (Ctr.pick 4 [1, 0, 2, 3] rfl (dtext_spec (b := qn.1.1) (d := qn.1.2) qn.2)) (fun _ => ?_)
      refine RL.move rfl rfl rfl ?_
      refine RL.bin rfl rfl rfl (BinV.to (d := true) BinV.eqlS (decide_eq_true rfl)) rfl ?_
      refine RL.move rfl rfl rfl ?_
      refine RL.move rfl rfl rfl ?_
      refine RL.call rfl rfl Try.call32 rfl (version_spec (b := qn.1.1) (d := qn.1.2) qn.2) (fun _ => ?_)
      refine RL.move rfl rfl rfl ?_
      refine RL.bin rfl rfl rfl (BinV.to (d := true) BinV.eql (decide_eq_true (by show ver + 1 - 1 = ver; omega))) rfl ?_
      refine RL.pickT rfl rfl rfl rfl ?_
      refine RL.move rfl rfl rfl ?_
      refine RL.move rfl rfl rfl ?_
      refine RL.call rfl rfl Try.call33 rfl (held_spec (b := qn.1.1) (d := qn.1.2) qn.2) (fun zh => ?_)
      refine RL.lenSlice rfl ri_tl22 rfl rfl ?_
      refine RL.bin rfl rfl rfl (BinV.to (d := true) BinV.eql (decide_eq_true (by show (((srt ([] : List Int)).length : Nat) : Int) = 0; rw [srt_nil]; rfl))) rfl ?_
      refine RL.pickT rfl rfl rfl rfl ?_
      refine RL.pickF rfl rfl rfl rfl ?_
      refine RL.move rfl rfl rfl ?_
      refine RL.call rfl rfl Try.call14 rfl (lives_spec) (fun _ => ?_)
      refine RL.pickT rfl rfl rfl rfl ?_
      refine RL.assign rfl rfl rfl ?_
      refine RL.nil ?_
      refine NX.seq ?_
      refine TR.ret ?_
      exact NX.ret1 () rfl rfl rfl (fun w hw => (hw.to 4 [] 7 [] rfl))
    · skip
      refine RL.move rfl rfl rfl ?_
      refine RL.move rfl rfl rfl ?_
      refine RL.call rfl rfl Try.call13 rfl (new_bad (tx := (text.take 20)) (ver := ver) (by rw [List.length_take]; omega) (by omega)) (fun _ => ?_)
      refine RL.move rfl rfl rfl ?_
      refine RL.extract rfl rfl rfl rfl ?_
      refine RL.extract rfl rfl rfl rfl ?_
      refine RL.assign rfl rfl rfl ?_
      refine RL.assign rfl rfl rfl ?_
      refine RL.nil ?_
      refine NX.seq ?_
      refine TR.seq ?_
      refine TR.region ?_
      refine RL.move rfl rfl rfl ?_
      refine RL.move rfl rfl rfl ?_
      refine RL.call rfl rfl Try.call22 rfl (rnew_bad (tx := (text.take 20)) (ver := ver) (by rw [List.length_take]; omega) (by omega)) (fun _ => ?_)
      refine RL.move rfl rfl rfl ?_
      refine RL.extract rfl rfl rfl rfl ?_
      refine RL.extract rfl rfl rfl rfl ?_
      refine RL.assign rfl rfl rfl ?_
      refine RL.assign rfl rfl rfl ?_
      refine RL.nil ?_
      refine NX.seq ?_
      refine TR.seq ?_
      refine TR.seq ?_
      refine TR.region ?_
      refine RL.move rfl rfl rfl ?_
      refine RL.move rfl rfl rfl ?_
      refine RL.bin rfl rfl rfl (BinV.to (d := false) BinV.neq (decide_eq_false (by simp))) rfl ?_
      refine RL.move rfl rfl rfl ?_
      refine RL.move rfl rfl rfl ?_
      refine RL.bin rfl rfl rfl (BinV.eqlPtrNil ri_tp31) rfl ?_
      refine RL.move rfl rfl rfl ?_
      refine RL.bin rfl rfl rfl (BinV.eqlPtrNil ri_tp48) rfl ?_
      refine RL.bin rfl rfl rfl (BinV.to (d := false) (BinV.neqB ri_tb4) (decide_eq_false (by simp))) rfl ?_
      refine RL.pickF rfl rfl rfl rfl ?_
      refine RL.nil ?_
      refine NX.seq ?_
      refine TR.condF rfl ?_
      refine TR.skip ?_
      refine NX.seq ?_
      refine TR.seq ?_
      refine TR.region ?_
      refine RL.move rfl rfl rfl ?_
      refine RL.bin rfl rfl rfl (BinV.eqlPtrNil ri_tp31) rfl ?_
      refine RL.move rfl rfl rfl ?_
      refine RL.skip rfl rfl rfl ?_
      refine RL.skip rfl rfl rfl ?_
      refine RL.skip rfl rfl rfl ?_
      refine RL.skip rfl rfl rfl ?_
      refine RL.skip rfl rfl rfl ?_
      refine RL.skip rfl rfl rfl ?_
      refine RL.skip rfl rfl rfl ?_
      refine RL.skip rfl rfl rfl ?_
      refine RL.skip rfl rfl rfl ?_
      refine RL.skip rfl rfl rfl ?_
      refine RL.skip rfl rfl rfl ?_
      refine RL.skip rfl rfl rfl ?_
      refine RL.skip rfl rfl rfl ?_
      refine RL.skip rfl rfl rfl ?_
      refine RL.skip rfl rfl rfl ?_
      refine RL.skip rfl rfl rfl ?_
      refine RL.pickT rfl rfl rfl rfl ?_
      refine RL.move rfl rfl rfl ?_
      refine RL.call rfl rfl Try.call14 rfl (lives_spec) (fun _ => ?_)
      refine RL.pickT rfl rfl rfl rfl ?_
      refine RL.assign rfl rfl rfl ?_
      refine RL.nil ?_
      refine NX.seq ?_
      refine TR.ret ?_
      exact NX.ret1 () rfl rfl rfl (fun w hw => (hw.to 2 [] 4 [] rfl))
end Go.Proofs.Ytkdeopioelocnaa
