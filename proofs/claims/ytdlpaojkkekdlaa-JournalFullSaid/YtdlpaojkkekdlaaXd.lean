/- Walks of functions of the program. Printed by sx.py. -/
import Derived.Test.YtdlpaojkkekdlaaXc
namespace Go.Proofs.Ytdlpaojkkekdlaa
open Go.GL
set_option linter.unusedVariables false
theorem xd_tf88_0 : fieldOff Try.prog 88 0 0 = true := by kernel_rfl
theorem xd_tf88_1 : fieldOff Try.prog 88 1 1 = true := by kernel_rfl
theorem xd_tf88_2 : fieldOff Try.prog 88 2 2 = true := by kernel_rfl
theorem xd_tf88_3 : fieldOff Try.prog 88 3 3 = true := by kernel_rfl
theorem xd_tl23 : tySlice Try.prog 23 5 = true := by kernel_rfl
theorem xd_ts3 : tyScalar Try.prog 3 = true := by kernel_rfl
theorem xd_ts36 : tyScalar Try.prog 36 = true := by kernel_rfl
theorem xd_ts38 : tyScalar Try.prog 38 = true := by kernel_rfl
theorem xd_ts39 : tyScalar Try.prog 39 = true := by kernel_rfl
theorem xd_ts4 : tyScalar Try.prog 4 = true := by kernel_rfl
theorem app1_spec {e q l b : Nat} {er : Int} {g : Lg} {M : List HP} {F : List Fact} (hg : g.n ≤ 4611686018427387904) : CtrD Try.prog 60 [.pointer (some ⟨e, 0, none⟩), .pointer (some ⟨q, 0, none⟩)] (Box e 39 [I er] :: Box q 38 [.pointer (some ⟨l, 0, none⟩)] :: Box l 88 (lgC b g) :: M) F Unit (fun _ => Box e 39 [I er] :: Box q 38 [.pointer (some ⟨l, 0, none⟩)] :: Box l 88 (lgC b (lgN g er)) :: M) (fun _ => F) := by
  refine CtrD.body Try.func60 rfl rfl ?_
  refine TR.seq ?_
  refine TR.region ?_
  refine RL.load1 1 rfl xd_ts38 rfl rfl rfl rfl ?_
  refine RL.load1 0 rfl xd_ts39 rfl rfl rfl rfl ?_
  refine RL.bin rfl rfl rfl BinV.eql rfl ?_
  refine RL.nilCheck rfl rfl rfl ?_
  refine RL.fieldAddr rfl xd_tf88_3 rfl rfl ?_
  refine RL.store1 2 rfl xd_ts4 rfl rfl rfl rfl rfl ?_
  refine RL.nil ?_
  refine NX.seq ?_
  refine TR.seq ?_
  refine TR.region ?_
  refine RL.load1 0 rfl xd_ts39 rfl rfl rfl rfl ?_
  refine RL.bin rfl rfl rfl BinV.eql rfl ?_
  refine RL.nil ?_
  refine NX.seq ?_
  refine TR.cond rfl (fun h1 => ?_) (fun h1 => ?_)
  · skip
    have he : er = 0 := of_decide_eq_true h1
    refine TR.region ?_
    refine RL.load1 1 rfl xd_ts38 rfl rfl rfl rfl ?_
    refine RL.nilCheck rfl rfl rfl ?_
    refine RL.fieldAddr rfl xd_tf88_2 rfl rfl ?_
    refine RL.load1 2 rfl xd_ts3 rfl rfl rfl rfl ?_
    refine RL.bin rfl rfl rfl (BinV.add _ rfl (by omega) (by omega)) rfl ?_
    refine RL.nilCheck rfl rfl rfl ?_
    refine RL.fieldAddr rfl xd_tf88_2 rfl rfl ?_
    refine RL.store1 2 rfl xd_ts3 rfl rfl rfl rfl rfl ?_
    refine RL.nil ?_
    refine NX.end0 () rfl rfl (fun w hw => ?_)
    rw [show lgN g er = { g with n := g.n + 1, dn := decide (er = 22) } from by unfold lgN; rw [if_pos he]]
    exact hw
  · skip
    have he : ¬ er = 0 := of_decide_eq_false h1
    refine TR.skip ?_
    refine NX.end0 () rfl rfl (fun w hw => ?_)
    rw [show lgN g er = { g with n := g.n, dn := decide (er = 22) } from by unfold lgN; rw [if_neg he]]
    exact hw

theorem frame_lg {g : Lg} {x : List UInt8} {oa : Option Addr} {c : Nat} {M : List HP} {F : List Fact} (hR : Rd M F oa (bytesV x)) (hg : g.n ≤ 4611686018427387904) (hx : x.length ≤ 17592186044416) : Ctr Try.prog 13 [I g.n, .slice oa x.length c] M F (Option Addr × Nat) (fun z => .slice z.1 (lgFr g x).length z.2) (fun z => OwnSl 5 1 z.1 (lgFr g x).length z.2 (bytesV (lgFr g x)) :: M) (fun _ => F) :=
  frame_spec (i := (g.n : Int)) (x := x) hR (by omega) (by omega) hx

set_option maxHeartbeats 1000000 in
theorem lapp_spec {l b : Nat} {g : Lg} {s : Ds} {x : List UInt8} {ob : Option Addr} {cb : Nat} {M : List HP} {F : List Fact} (hok : OkF s.fs) (hA : AllF s.fs ∈ F) (hx : ArrF ob (bytesV x) ∈ F) (hu : used s.fs ≤ s.room) (hrm : s.room ≤ 16777216) (hgf : I64 g.f) (h0 : -9223372036854775000 ≤ s.left ∧ s.left ≤ 9223372036854775807) (hgn : g.n ≤ 4611686018427387904) (hxl : x.length ≤ 17592186044416) : Ctr Try.prog 29 [.pointer (some ⟨l, 0, none⟩), .slice ob x.length cb] (Box l 88 (lgC b g) :: Box b 92 (dkC (s)) :: MpB (s).m (fsV (s).fs) :: M) F {z : RdX // ((fget s.fs g.f).b ++ lgFr g x).length ≤ z.c} (fun z => I (lgE s g x z.1)) (fun z => Box l 88 (lgC b (lgG s g x z.1)) :: Box b 92 (dkC (lgS s g x z.1)) :: MpB (lgS s g x z.1).m (fsV (lgS s g x z.1).fs) :: M) (fun z => AllF (lgS s g x z.1).fs :: F) := by
  refine Ctr.bodyD Try.func29 rfl rfl ?_
  refine TR.seq ?_
  refine TR.region ?_
  refine RL.box1 rfl rfl rfl rfl (fun b1 => ?_)
  refine RL.alloc1 rfl (Try.zeroValue39) rfl rfl (fun b2 => ?_)
  refine RL.nil ?_
  refine NX.seq ?_
  refine TR.seq ?_
  refine TR.seq ?_
  refine TR.region ?_
  refine RL.move rfl rfl rfl ?_
  refine RL.lenSlice rfl xd_tl23 rfl rfl ?_
  refine RL.bin rfl rfl rfl BinV.gtr rfl ?_
  refine RL.nil ?_
  refine NX.seq ?_
  refine TR.cond rfl (fun h3 => ?_) (fun h3 => ?_)
  · skip
    have hfar : (65536 : Int) < x.length := of_decide_eq_true h3
    refine TR.seq ?_
    refine TR.region ?_
    refine RL.store1 0 rfl xd_ts39 rfl rfl rfl rfl rfl ?_
    refine RL.nil ?_
    refine NX.seq ?_
    refine TR.ret ?_
    refine NX.retThen ?_
    obtain ⟨e1, e2, e3⟩ := lgE_far (s := s) (g := g) (z := (⟨⟨none, ((fget s.fs g.f).b ++ lgFr g x).length⟩, Nat.le_refl _⟩ : {z : RdX // ((fget s.fs g.f).b ++ lgFr g x).length ≤ z.c}).1) hfar
    refine NX.retCD (i := 0) (⟨⟨none, ((fget s.fs g.f).b ++ lgFr g x).length⟩, Nat.le_refl _⟩ : {z : RdX // ((fget s.fs g.f).b ++ lgFr g x).length ≤ z.c}) rfl rfl xd_ts39 rfl (by rw [e1]) (fun w hw => ?_)
    rw [e2, e3]
    exact ((hw.drop 0 rfl).drop 0 rfl).allF_keep hA
  · skip
    have hfar : ¬ (65536 : Int) < x.length := of_decide_eq_false h3
    refine TR.skip ?_
    refine NX.seq ?_
    refine TR.seq ?_
    refine TR.region ?_
    refine RL.makeFunc rfl rfl rfl rfl ?_
    refine RL.defer («as» := []) rfl rfl rfl ?_
    refine RL.nil ?_
    refine NX.seq ?_
    refine TR.seq ?_
    refine TR.seq ?_
    refine TR.region ?_
    refine RL.load1 1 rfl xd_ts38 rfl rfl rfl rfl ?_
    refine RL.nilCheck rfl rfl rfl ?_
    refine RL.fieldAddr rfl xd_tf88_3 rfl rfl ?_
    refine RL.load1 2 rfl xd_ts4 rfl rfl rfl rfl ?_
    refine RL.nil ?_
    refine NX.seq ?_
    refine TR.cond rfl (fun h4 => ?_) (fun h4 => ?_)
    · skip
      have hdn : g.dn = true := h4
      refine TR.seq ?_
      refine TR.region ?_
      refine RL.store1 0 rfl xd_ts39 rfl rfl rfl rfl rfl ?_
      refine RL.nil ?_
      refine NX.seq ?_
      refine TR.ret ?_
      refine NX.retThen ?_
      obtain ⟨e1, e2, e3⟩ := lgE_dn (s := s) (z := (⟨⟨none, ((fget s.fs g.f).b ++ lgFr g x).length⟩, Nat.le_refl _⟩ : {z : RdX // ((fget s.fs g.f).b ++ lgFr g x).length ≤ z.c}).1) hfar hdn
      refine NX.retD (i := 0) (dargs := []) (v := fun _ => I 22) rfl rfl xd_ts39 Try.call60 (app1_spec (er := 22) hgn) (fun _ => rfl) (fun _ => (⟨⟨none, ((fget s.fs g.f).b ++ lgFr g x).length⟩, Nat.le_refl _⟩ : {z : RdX // ((fget s.fs g.f).b ++ lgFr g x).length ≤ z.c})) (fun _ => by rw [e1]) (fun _ w hw => ?_)
      rw [e2, e3]
      exact ((hw.drop 0 rfl).drop 0 rfl).allF_keep hA
    · skip
      have hdn : ¬ g.dn = true := by have h9 : g.dn = false := h4; rw [h9]; simp
      have hfr := (frameJ_len (i := (g.n : Int)) (x := x) (by omega) (by omega) (by omega)).1
      refine TR.skip ?_
      refine NX.seq ?_
      refine TR.seq ?_
      refine TR.seq ?_
      refine TR.sub (E' := [(1, _), (2, _), (4, _)]) ⟨rfl, rfl, rfl, trivial⟩ ?_
      refine TR.draw mixed ?_
      apply AR.more [(0, _), (1, _), (2, _), (3, _), (4, _), (5, _), (6, _), (7, _), (8, _), (9, _), (10, _), (11, _), (12, _)]
      refine AR.eff [0, 1, 2, 3, 4, 5, 6, 7, 8, 9, 10, 11, 12] 13 [0, 1, 2, 3, 4, 5, 6, 7, 8, 9, 10, 11, 12, 13, 14, 15] ⟨QOne.yes rfl rfl rfl (PV.load1 1 xd_ts38 rfl rfl rfl), QOne.yes rfl rfl rfl (PV.nilCheck rfl), QOne.yes rfl rfl rfl (PV.fieldAddr xd_tf88_0 rfl), QOne.yes rfl rfl rfl (PV.load1 2 xd_ts36 rfl rfl rfl), QOne.yes rfl rfl rfl (PV.load1 1 xd_ts38 rfl rfl rfl), QOne.yes rfl rfl rfl (PV.nilCheck rfl), QOne.yes rfl rfl rfl (PV.fieldAddr xd_tf88_1 rfl), QOne.yes rfl rfl rfl (PV.load1 2 xd_ts3 rfl rfl rfl), QOne.yes rfl rfl rfl (PV.load1 1 xd_ts38 rfl rfl rfl), QOne.yes rfl rfl rfl (PV.nilCheck rfl), QOne.yes rfl rfl rfl (PV.fieldAddr xd_tf88_2 rfl), QOne.yes rfl rfl rfl (PV.load1 2 xd_ts3 rfl rfl rfl), QOne.yes rfl rfl rfl (PV.move rfl), trivial⟩ rfl rfl rfl rfl rfl rfl rfl (EV.call rfl Try.call13 (frame_lg (g := g) (x := x) (rd_fact hx) hgn (by omega))) (fun f => ?_)
      refine AR.weak (fun w hw => hw.keepSl) ?_
      refine AR.done [11, 12, 10, 9, 8] rfl ?_
      refine AR.eff [0, 1, 2, 3, 4, 5, 6, 7] 14 [0, 1, 2, 3, 4, 5, 6, 7, 8, 9, 10, 11, 12, 13, 14, 15] ⟨QOne.yes rfl rfl rfl (PV.load1 1 xd_ts38 rfl rfl rfl), QOne.yes rfl rfl rfl (PV.nilCheck rfl), QOne.yes rfl rfl rfl (PV.fieldAddr xd_tf88_0 rfl), QOne.yes rfl rfl rfl (PV.load1 2 xd_ts36 rfl rfl rfl), QOne.yes rfl rfl rfl (PV.load1 1 xd_ts38 rfl rfl rfl), QOne.yes rfl rfl rfl (PV.nilCheck rfl), QOne.yes rfl rfl rfl (PV.fieldAddr xd_tf88_1 rfl), QOne.yes rfl rfl rfl (PV.load1 2 xd_ts3 rfl rfl rfl), trivial⟩ rfl rfl rfl rfl rfl rfl rfl (EV.call rfl Try.call44 (Ctr.frame (J := [Box b 92 (dkC (s)), MpB (s).m (fsV (s).fs)]) (J' := fun z : {z : RdX // ((fget s.fs g.f).b ++ lgFr g x).length ≤ z.c} => [Box b 92 (dkC (appS s g.f (lgFr g x) z.1)), MpB (appS s g.f (lgFr g x) z.1).m (fsV (appS s g.f (lgFr g x) z.1).fs)]) [_, _, _] (append_spec (s := s) (n := g.f) (b := b) (x := lgFr g x) hok (.tail _ hA) (.head _) hu hrm hgf (by omega) (by show (frameJ (g.n : Int) x).length ≤ _; omega)))) (fun z => ?_)
      refine AR.done [3, 7, 6, 2, 1, 5, 4, 0] rfl ?_
      apply AR.more [(15, _)]
      refine AR.last [15] [0, 1, 2, 3, 4, 5, 6, 7, 8, 9, 10, 11, 12, 13, 14, 15] ⟨QOne.yes rfl rfl rfl (PV.assign rfl), trivial⟩ rfl rfl rfl ?_
      refine NX.sub (E' := [(2, _), (4, _), (5, _)]) ⟨rfl, rfl, rfl, trivial⟩ ?_
      refine NX.seq ?_
      refine TR.seq ?_
      refine TR.region ?_
      refine RL.move rfl rfl rfl ?_
      refine RL.bin rfl rfl rfl BinV.neq rfl ?_
      refine RL.nil ?_
      refine NX.seq ?_
      refine TR.cond rfl (fun h5 => ?_) (fun h5 => ?_)
      · skip
        have hae : appE s g.f (lgFr g x) ≠ 0 := by simpa using h5
        refine TR.seq ?_
        refine TR.region ?_
        refine RL.move rfl rfl rfl ?_
        refine RL.store1 0 rfl xd_ts39 rfl rfl rfl rfl rfl ?_
        refine RL.nil ?_
        refine NX.seq ?_
        refine TR.ret ?_
        refine NX.retThen ?_
        obtain ⟨e1, e2, e3⟩ := lgE_app (s := s) (z := z.1) hfar hdn hae
        refine NX.retD (i := 0) (dargs := []) (v := fun _ => I (appE s g.f (lgFr g x))) rfl rfl xd_ts39 Try.call60 (app1_spec (er := appE s g.f (lgFr g x)) hgn) (fun _ => rfl) (fun _ => z) (fun _ => by rw [e1]) (fun _ w hw => ?_)
        rw [e2, e3]
        exact ((hw.drop 0 rfl).drop 0 rfl).facts (fun φ h => by rcases List.mem_cons.1 h with e1 | h; exact e1 ▸ .head _; exact .tail _ (.tail _ h))
      · skip
        have hae : ¬ appE s g.f (lgFr g x) ≠ 0 := by simpa using h5
        refine TR.skip ?_
        refine NX.seq ?_
        refine TR.seq ?_
        refine TR.region ?_
        refine RL.load1 1 rfl xd_ts38 rfl rfl rfl rfl ?_
        refine RL.nilCheck rfl rfl rfl ?_
        refine RL.fieldAddr rfl xd_tf88_0 rfl rfl ?_
        refine RL.load1 2 rfl xd_ts36 rfl rfl rfl rfl ?_
        refine RL.call rfl rfl Try.call54 rfl (Ctr.frame (J := [Box b 92 (dkC (appS s g.f (lgFr g x) z.1)), MpB ((appS s g.f (lgFr g x) z.1)).m (fsV ((appS s g.f (lgFr g x) z.1)).fs)]) (J' := fun _ => [Box b 92 (dkC (syncS (appS s g.f (lgFr g x) z.1))), MpB (syncS (appS s g.f (lgFr g x) z.1)).m (fsV (syncS (appS s g.f (lgFr g x) z.1)).fs)]) [_, _, _] (sync_spec (s := (appS s g.f (lgFr g x) z.1)) (appS_ok hok z.2) (by have := appS_left s g.f (lgFr g x) z.1; omega))) (fun _ => ?_)
        refine RL.store1 0 rfl xd_ts39 rfl rfl rfl rfl rfl ?_
        refine RL.nil ?_
        refine NX.seq ?_
        refine TR.ret ?_
        obtain ⟨e1, e2, e3⟩ := lgE_sync (s := s) (z := z.1) hfar hdn hae
        refine NX.retD (i := 0) (dargs := []) (v := fun _ => I (syncE (appS s g.f (lgFr g x) z.1))) rfl rfl xd_ts39 Try.call60 (app1_spec (er := syncE (appS s g.f (lgFr g x) z.1)) hgn) (fun _ => rfl) (fun _ => z) (fun _ => by rw [e1]) (fun _ w hw => ?_)
        rw [e2, e3]
        exact (((hw.drop 0 rfl).drop 0 rfl).allF_sync (.head _)).facts (fun φ h => by rcases List.mem_cons.1 h with e1 | h; exact e1 ▸ .head _; exact .tail _ (.tail _ (.tail _ h)))

theorem llen_spec {l b : Nat} {g : Lg} {M : List HP} {F : List Fact} : Ctr Try.prog 42 [.pointer (some ⟨l, 0, none⟩)] (Box l 88 (lgC b g) :: M) F Unit (fun _ => I g.n) (fun _ => Box l 88 (lgC b g) :: M) (fun _ => F) := by
  refine Ctr.body Try.func42 rfl rfl ?_
  refine TR.seq ?_
  refine TR.region ?_
  refine RL.assign rfl rfl rfl ?_
  refine RL.nil ?_
  refine NX.seq ?_
  refine TR.seq ?_
  refine TR.region ?_
  refine RL.move rfl rfl rfl ?_
  refine RL.nilCheck rfl rfl rfl ?_
  refine RL.fieldAddr rfl xd_tf88_2 rfl rfl ?_
  refine RL.load1 0 rfl xd_ts3 rfl rfl rfl rfl ?_
  refine RL.assign rfl rfl rfl ?_
  refine RL.nil ?_
  refine NX.seq ?_
  refine TR.ret ?_
  exact NX.ret1 () rfl rfl rfl (fun w hw => hw)

theorem lup_spec {l b : Nat} {g : Lg} {M : List HP} {F : List Fact} : Ctr Try.prog 43 [.pointer (some ⟨l, 0, none⟩)] (Box l 88 (lgC b g) :: M) F Unit (fun _ => .bool (!g.dn)) (fun _ => Box l 88 (lgC b g) :: M) (fun _ => F) := by
  refine Ctr.body Try.func43 rfl rfl ?_
  refine TR.seq ?_
  refine TR.region ?_
  refine RL.assign rfl rfl rfl ?_
  refine RL.nil ?_
  refine NX.seq ?_
  refine TR.seq ?_
  refine TR.region ?_
  refine RL.move rfl rfl rfl ?_
  refine RL.nilCheck rfl rfl rfl ?_
  refine RL.fieldAddr rfl xd_tf88_3 rfl rfl ?_
  refine RL.load1 0 rfl xd_ts4 rfl rfl rfl rfl ?_
  refine RL.not rfl rfl rfl ?_
  refine RL.assign rfl rfl rfl ?_
  refine RL.nil ?_
  refine NX.seq ?_
  refine TR.ret ?_
  exact NX.ret1 () rfl rfl rfl (fun w hw => hw)

end Go.Proofs.Ytdlpaojkkekdlaa
