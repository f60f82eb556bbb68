/- The law DiskDurable holds: whatever the input, it returns true and the input reads as it did. No condition. -/
import Derived.Test.YtdnjoffkanjjhaaPdre
namespace Go.Proofs.Ytdnjoffkanjjhaa
open Go.GL
set_option linter.unusedVariables false
theorem eg_bs27_2_0_1 (x0 : Int) (x1 : Int) : BuildSV Try.prog 27 5 2 [(0, .int .u8 x0), (1, .int .u8 x1)] [.int .u8 x0, .int .u8 x1] := fun w => by kernel_rfl
theorem eg_ni33 : noInt Try.prog 33 = true := by kernel_rfl
theorem eg_te3 : tyElem Try.prog 3 1 8 = true := by kernel_rfl
theorem eg_tf58_1 : fieldOff Try.prog 58 1 1 = true := by kernel_rfl
theorem eg_ti3 : tyInt Try.prog 3 .i64 = true := by kernel_rfl
theorem eg_ti5 : tyInt Try.prog 5 .u8 = true := by kernel_rfl
theorem eg_tl22 : tySlice Try.prog 22 27 = true := by kernel_rfl
theorem eg_tl27 : tySlice Try.prog 27 5 = true := by kernel_rfl
theorem eg_tl33 : tySlice Try.prog 33 3 = true := by kernel_rfl
theorem eg_tp23 : tyPtr Try.prog 23 66 = true := by kernel_rfl
theorem eg_tp42 : tyPtr Try.prog 42 58 = true := by kernel_rfl
theorem eg_ts22 : tyScalar Try.prog 22 = true := by kernel_rfl
theorem eg_ts27 : tyScalar Try.prog 27 = true := by kernel_rfl
theorem eg_ts3 : tyScalar Try.prog 3 = true := by kernel_rfl
theorem eg_tz27 : tySize Try.prog 27 1 = true := by kernel_rfl
theorem eg_tz3 : tySize Try.prog 3 1 = true := by kernel_rfl
theorem eg_tz5 : tySize Try.prog 5 1 = true := by kernel_rfl
theorem ints4_spec {xs : List Int} {oa : Option Addr} {c : Nat} {M : List HP} {F : List Fact} (ha : ArrF oa (ints xs) ∈ F) (hc : xs.length ≤ c) : Ctr Try.prog 30 [.slice oa xs.length c, I 4] M F (Option Addr × Nat) (fun z => .slice z.1 (xs.take 4).length z.2) (fun z => OwnSl 3 1 z.1 (xs.take 4).length z.2 (ints (xs.take 4)) :: M) (fun _ => F) := by
  refine Ctr.body Try.func30 rfl rfl ?_
  refine TR.seq ?_
  refine TR.region ?_
  refine RL.assign rfl rfl rfl ?_
  refine RL.nil ?_
  refine NX.seq ?_
  refine TR.seq ?_
  refine TR.region ?_
  refine RL.assign rfl rfl rfl ?_
  refine RL.weak (fun w hw => OwnSl.nil_new 3 1 hw) ?_
  refine RL.nil ?_
  refine NX.seq ?_
  refine TR.seq ?_
  refine TR.weak (fun w hw => hw.cutI 4 hc ha) ?_
  refine TR.region ?_
  refine RL.move rfl rfl rfl ?_
  refine RL.move rfl rfl rfl ?_
  refine RL.move rfl rfl rfl ?_
  refine RL.lenSlice rfl eg_tl33 rfl rfl ?_
  refine RL.move rfl rfl rfl ?_
  refine RL.min rfl rfl rfl rfl ?_
  refine RL.sliceLH (l := 0) (h := (xs.take 4).length) rfl eg_tl33 eg_tz3 rfl (.inl ⟨rfl, rfl⟩) (.inr ⟨_, rfl, by show some (I (min (xs.length : Int) 4)) = some (I ((xs.take 4).length : Nat)); rw [List.length_take]; congr 2; omega⟩) (Nat.zero_le _) (by rw [List.length_take]; omega) rfl ?_
  refine RL.ofGV rfl rfl (GV.append (j := 0) eg_tl33 eg_ni33 eg_te3 rfl rfl rfl (src_fact (xs := ints (xs.take 4)) (.head _) (by rw [Nat.mul_one, Nat.sub_zero]; simp [ints]) (ints_one _)) (by rw [List.length_take]; omega) (by rw [List.length_take]; omega)) (fun y => ?_)
  refine RL.assign rfl rfl rfl ?_
  refine RL.nil ?_
  refine NX.seq ?_
  refine TR.ret ?_
  refine NX.ret1 (y.1, y.2) rfl rfl (by rw [Nat.zero_add, Nat.sub_zero]) (fun w hw => ?_)
  have h9 : St w (OwnSl 3 1 y.1 (0 + ((xs.take 4).length - 0)) y.2 ([] ++ ints (xs.take 4)) :: M) F := (hw.to 1 [0] 1 [] rfl)
  rw [Nat.zero_add, Nat.sub_zero] at h9
  exact h9

theorem p_on_to {b : Nat} {s : Ds} {a : Am} {M : List HP} {F : List Fact} {q : Bool} (h : RelP s a) (e : (!a.off) = q) : Ctr Try.prog 28 [.pointer (some ⟨b, 0, none⟩)] (DkB 66 b (s) :: M) F Unit (fun _ => .bool q) (fun _ => DkB 66 b (s) :: M) (fun _ => F) := (p_on h).weak (fun w hw => hw) id (fun _ => by rw [e]) (fun _ w hw => hw)

theorem p_read_on {n : Nat} {b : Nat} {s : Ds} {a : Am} {M : List HP} {F : List Fact} (h : RelP s a) (hA : AllF s.fs ∈ F) (hn : n < 64) (ho : a.off = false) : Ctr Try.prog 16 [.pointer (some ⟨b, 0, none⟩), I (n : Int)] (DkB 66 b (s) :: M) F (Option Addr × Nat) (fun z => .tuple #[.slice z.1 (a.B n).length z.2, I 0]) (fun z => OwnSl 5 1 z.1 (a.B n).length z.2 (bytesV (a.B n)) :: DkB 66 b (s) :: M) (fun _ => F) := by
  have h1 := read_d (b := b) (s := s) (n := (n : Int)) (M := M) h.ok h.rm hA ⟨by omega, by omega⟩
  have hth : there (n : Int) := ⟨by omega, by omega⟩
  have e1 : readB s (n : Int) = a.B n := by unfold readB; rw [if_neg (not_not_intro hth), h.off, ← h.b n hn, ho]; rfl
  have e2 : readE s (n : Int) = 0 := by unfold readE; rw [if_neg (not_not_intro hth), h.off, ho]; rfl
  rw [e1, e2] at h1
  exact h1

structure DyX where
  i : Nat
  s : Ds
  a : Am

set_option maxHeartbeats 2000000 in
theorem law_durable34 {n fl : Int} {l mo ks : List Int} {oa ob oc : Option Addr} {ca cb cc : Nat} {M : List HP} {F : List Fact} (hn : I64 n) (hl : ArrF oa (ints l) ∈ F) (hkl : IntsOk l) (hm : ArrF ob (ints mo) ∈ F) (hom : IntsOk mo) (hk : ArrF oc (ints ks) ∈ F) (hok : IntsOk ks) (hkc : ks.length ≤ cc) (hfl : I64 fl) : Ctr Try.prog 6 [I n, .slice oa l.length ca, .slice ob mo.length cb, .slice oc ks.length cc, I fl] M F Unit (fun _ => .bool true) (fun _ => M) (fun _ => F) := by
  refine Ctr.body Try.func6 rfl rfl ?_
  refine TR.seq ?_
  refine TR.region ?_
  refine RL.assign rfl rfl rfl ?_
  refine RL.nil ?_
  refine NX.seq ?_
  refine TR.seq ?_
  refine TR.region ?_
  refine RL.move rfl rfl rfl ?_
  refine RL.move rfl rfl rfl ?_
  refine RL.call rfl rfl Try.call26 rfl (made_spec hn hl hkl) (fun z => ?_)
  refine RL.move rfl rfl rfl ?_
  refine RL.extract rfl rfl rfl rfl ?_
  refine RL.extract rfl rfl rfl rfl ?_
  refine RL.assign rfl rfl rfl ?_
  refine RL.assign rfl rfl rfl ?_
  refine RL.nil ?_
  refine NX.seq ?_
  refine TR.seq ?_
  refine TR.seq ?_
  refine TR.region ?_
  refine RL.move rfl rfl rfl ?_
  refine RL.bin rfl rfl rfl (BinV.eqlPtrNil eg_tp23) rfl ?_
  refine RL.move rfl rfl rfl ?_
  refine RL.move rfl rfl rfl ?_
  refine RL.bin rfl rfl rfl (BinV.eqlPtrNil eg_tp42) rfl ?_
  refine RL.pickF rfl rfl rfl rfl ?_
  refine RL.nil ?_
  refine NX.seq ?_
  refine TR.condF rfl ?_
  refine TR.skip ?_
  refine NX.seq ?_
  refine TR.seq ?_
  refine TR.region ?_
  rcases Bool.eq_false_or_eq_true z.1.2.2.a.off with hoff | hoff
  · skip
    refine RL.move rfl rfl rfl ?_
    refine RL.call rfl rfl Try.call27 rfl (p_arm (n := -1) z.2.1 (.tail _ (.head _)) (by decide) (by decide)) (fun q1 => ?_)
    refine RL.nil ?_
    refine NX.seq ?_
    refine TR.seq ?_
    refine TR.seq ?_
    refine TR.region ?_
    refine RL.move rfl rfl rfl ?_
    refine RL.call rfl rfl Try.call28 rfl (p_on_to q1.2 (by rw [(off_sync hoff).1])) (fun _ => ?_)
    refine RL.not rfl rfl rfl ?_
    refine RL.nil ?_
    refine NX.seq ?_
    refine TR.condT rfl ?_
    refine TR.seq ?_
    refine TR.region ?_
    refine RL.move rfl rfl rfl ?_
    refine RL.call rfl rfl Try.call14 rfl (p_sync q1.2 (.head _)) (fun q2 => ?_)
    refine RL.bin rfl rfl rfl (BinV.to (d := true) BinV.eql (decide_eq_true (off_sync hoff).2)) rfl ?_
    refine RL.move rfl rfl rfl ?_
    refine RL.call rfl rfl Try.call18 rfl (lives_spec) (fun _ => ?_)
    refine RL.pickT rfl rfl rfl rfl ?_
    refine RL.assign rfl rfl rfl ?_
    refine RL.nil ?_
    refine NX.seq ?_
    refine TR.ret ?_
    refine NX.retThen ?_
    exact NX.ret1 () rfl rfl rfl (fun w hw => (hw.to 2 [] 4 [] rfl))
  · skip
    refine RL.move rfl rfl rfl ?_
    refine RL.call rfl rfl Try.call27 rfl (p_arm (n := -1) z.2.1 (.tail _ (.head _)) (by decide) (by decide)) (fun q1 => ?_)
    refine RL.nil ?_
    refine NX.seq ?_
    refine TR.seq ?_
    refine TR.seq ?_
    refine TR.region ?_
    refine RL.move rfl rfl rfl ?_
    refine RL.call rfl rfl Try.call28 rfl (p_on_to q1.2 (by rw [(SyA.of hoff).on1])) (fun _ => ?_)
    refine RL.not rfl rfl rfl ?_
    refine RL.nil ?_
    refine NX.seq ?_
    refine TR.condF rfl ?_
    refine TR.skip ?_
    refine NX.seq ?_
    refine TR.seq ?_
    refine TR.seq ?_
    have hs := SyA.of (a := z.1.2.2.a) hoff
    refine TR.region ?_
    refine RL.move rfl rfl rfl ?_
    refine RL.call rfl rfl Try.call14 rfl (p_sync q1.2 (.head _)) (fun q2 => ?_)
    refine RL.bin rfl rfl rfl (BinV.to (d := false) BinV.neq (decide_eq_false (fun e => e hs.ok))) rfl ?_
    refine RL.nil ?_
    refine NX.seq ?_
    refine TR.condF rfl ?_
    refine TR.skip ?_
    refine NX.seq ?_
    refine TR.seq ?_
    refine TR.region ?_
    refine RL.move rfl rfl rfl ?_
    refine RL.call rfl rfl Try.call29 rfl (copy_d (s := q2.1)) (fun y => ?_)
    refine RL.weak (fun w hw => hw.derive (ψ := AllF ({ q2.1 with m := y.2 } : Ds).fs) (fun K hf => hf (AllF q2.1.fs) (.head _))) ?_
    refine RL.assign rfl rfl rfl ?_
    refine RL.nil ?_
    refine NX.seq ?_
    refine TR.seq ?_
    refine TR.seq ?_
    refine TR.region ?_
    refine RL.move rfl rfl rfl ?_
    refine RL.bin rfl rfl rfl (BinV.eqlPtrNil eg_tp23) rfl ?_
    refine RL.nil ?_
    refine NX.seq ?_
    refine TR.condF rfl ?_
    refine TR.skip ?_
    refine NX.seq ?_
    refine TR.seq ?_
    refine TR.region ?_
    refine RL.move rfl rfl rfl ?_
    refine RL.call rfl rfl Try.call30 rfl (ints4_spec (.tail _ (.tail _ (.tail _ (.tail _ (.tail _ hk))))) hkc) (fun kk => ?_)
    refine RL.weak (fun w hw => hw.keepSl) ?_
    refine RL.assign rfl rfl rfl ?_
    refine RL.nil ?_
    refine NX.seq ?_
    refine TR.seq ?_
    refine TR.region ?_
    refine RL.move rfl rfl rfl ?_
    refine RL.move rfl rfl rfl ?_
    refine RL.move rfl rfl rfl ?_
    refine RL.call rfl rfl Try.call15 rfl (p_crash (ks := (ks.take 4)) (q2.2.copy _) (.tail _ (.head _)) (.head _) ⟨by rw [List.length_take]; omega, fun v hv => hok.2 v (List.mem_of_mem_take hv)⟩ hfl) (fun q3 => ?_)
    refine RL.nil ?_
    refine NX.seq ?_
    refine TR.seq ?_
    refine TR.seq ?_
    refine TR.region ?_
    refine RL.assign rfl rfl rfl ?_
    refine RL.nil ?_
    refine NX.seq ?_
    refine TR.block ?_
    refine TR.loopP (ι := DyX) (fun x => x.i ≤ 6 ∧ RelP x.s x.a ∧ GoA (syncA (armA z.1.2.2.a (-1))).2 x.a) (fun x => [(2, .slice ob mo.length cb), (4, I fl), (11, .pointer (some ⟨z.1.1.1, 0, none⟩)), (12, .pointer (some ⟨z.1.1.2, 0, none⟩)), (13, .pointer (some ⟨y.1, 0, none⟩)), (14, .slice kk.1 (ks.take 4).length kk.2), (15, I (x.i : Nat))]) (fun x => DkB 66 z.1.1.1 (x.s) :: DkB 66 y.1 (q3.1) :: RfB 58 27 3 z.1.1.2 (z.1.2.2) :: M) (fun x => AllF x.s.fs :: AllF q3.1.fs :: AllB (rowsF z.1.2.2.a.B z.1.2.2.x) :: ArrF kk.1 (ints (ks.take 4)) :: F) (fun x => 6 - x.i) ⟨0, q2.1, (syncA (armA z.1.2.2.a (-1))).2⟩ ⟨Nat.zero_le _, q2.2, GoA.refl hs.off hs.plan⟩ ⟨rfl, rfl, rfl, rfl, rfl, rfl, rfl, trivial⟩ (fun w hw => (hw.to 3 [1, 0, 2] 7 [3, 0, 5, 1] rfl)) (fun x hx => ?_)
    refine TR.seq ?_
    refine TR.seq ?_
    refine TR.region ?_
    refine RL.move rfl rfl rfl ?_
    refine RL.move rfl rfl rfl ?_
    refine RL.lenSlice rfl eg_tl33 rfl rfl ?_
    refine RL.bin rfl rfl rfl BinV.lss rfl ?_
    refine RL.move rfl rfl rfl ?_
    refine RL.part (fun h1 => ?_) (fun h1 => ?_)
    · skip
      have hik : x.i < mo.length := by have := of_decide_eq_true h1; omega
      refine RL.move rfl rfl rfl ?_
      refine RL.bin rfl rfl rfl BinV.lss rfl ?_
      refine RL.pickT rfl rfl rfl rfl ?_
      refine RL.nil ?_
      refine NX.seq ?_
      refine TR.cond rfl (fun h2 => ?_) (fun h2 => ?_)
      · skip
        have hi6 : x.i < 6 := by have := of_decide_eq_true h2; omega
        have hxi := hom.2 _ (List.getElem_mem hik)
        have hbw := (byte_wrap mo[x.i]).2
        refine TR.openP (open_arr (oa := ob) (xs := ints mo) (.tail _ (.tail _ (.tail _ (.tail _ hm)))) (ints_ne (by omega))) (fun pq hpa => ?_)
        refine TR.skip ?_
        refine NX.seq ?_
        refine TR.seq ?_
        refine TR.block ?_
        refine TR.sub (E' := [(2, _), (4, _), (11, _), (12, _), (13, _), (14, _), (15, _), (60, _), (61, _), (62, _), (63, _), (64, _), (65, _), (66, _), (67, _)]) ⟨rfl, rfl, rfl, rfl, rfl, rfl, rfl, rfl, rfl, rfl, rfl, rfl, rfl, rfl, rfl, trivial⟩ ?_
        refine TR.draw mixed ?_
        apply AR.more [(0, _), (1, _), (2, _), (3, _), (4, _), (6, _), (7, _), (8, _), (9, _), (10, _)]
        refine AR.effs [0, 1, 2, 3, 4, 6, 7, 8, 9, 10] [5, 11] [0, 1, 2, 3, 4, 5, 6, 7, 8, 9, 10, 11, 12] ⟨QOne.yes rfl rfl rfl (PV.move rfl), QOne.yes rfl rfl rfl (PV.move rfl), QOne.yes rfl rfl rfl (PV.move rfl), QOne.yes rfl rfl rfl (PV.indexAddr eg_tl33 eg_tz3 (congrArg (fun a => some (Value.slice a _ _)) hpa) rfl (by omega) (by omega)), QOne.yes rfl rfl rfl (PV.loadF rfl (fun w K hF => run_loadCell1 (j := ((x.i : Nat) : Int).toNat * 1) (v := I mo[x.i]) (hF (CellsF pq.1 pq.2 (ints mo)) (.head _)) eg_ts3 (by rw [Nat.mul_one, Int.toNat_natCast]; exact ints_get hik))), QOne.yes rfl rfl rfl (PV.move rfl), QOne.yes rfl rfl rfl (PV.move rfl), QOne.yes rfl rfl rfl (PV.indexAddr eg_tl33 eg_tz3 (congrArg (fun a => some (Value.slice a _ _)) hpa) rfl (by omega) (by omega)), QOne.yes rfl rfl rfl (PV.loadF rfl (fun w K hF => run_loadCell1 (j := ((x.i : Nat) : Int).toNat * 1) (v := I mo[x.i]) (hF (CellsF pq.1 pq.2 (ints mo)) (.head _)) eg_ts3 (by rw [Nat.mul_one, Int.toNat_natCast]; exact ints_get hik))), QOne.yes rfl rfl rfl (PV.conv rfl ((ConvV.int (n := mo[x.i]) eg_ti3 eg_ti5).to (v'' := B8 (IntKind.u8.wrap mo[x.i]).toNat) (by show Value.int .u8 (IntKind.u8.wrap mo[x.i]) = .int .u8 (((IntKind.u8.wrap mo[x.i]).toNat : Nat) : Int); rw [← (byte_wrap _).1]))), trivial⟩ rfl rfl rfl rfl ⟨EOne.of rfl rfl rfl (EV.call rfl Try.call11 (around_spec (by decide) hxi.1 hxi.2)) (fun r0 => ?_), EOne.of rfl rfl rfl (EV.buildSlice rfl (eg_bs27_2_0_1 _ _)) (fun b3 => ?_), trivial⟩
        · skip
          refine AR.done [4, 3, 1, 2] rfl ?_
          refine AR.eff [0, 6, 7, 8, 9, 10] 11 [0, 1, 2, 3, 4, 5, 6, 7, 8, 9, 10, 11, 12] ⟨QOne.yes rfl rfl rfl (PV.move rfl), QOne.yes rfl rfl rfl (PV.move rfl), QOne.yes rfl rfl rfl (PV.move rfl), QOne.yes rfl rfl rfl (PV.indexAddr eg_tl33 eg_tz3 (congrArg (fun a => some (Value.slice a _ _)) hpa) rfl (by omega) (by omega)), QOne.yes rfl rfl rfl (PV.loadF rfl (fun w K hF => run_loadCell1 (j := ((x.i : Nat) : Int).toNat * 1) (v := I mo[x.i]) (hF (CellsF pq.1 pq.2 (ints mo)) (.head _)) eg_ts3 (by rw [Nat.mul_one, Int.toNat_natCast]; exact ints_get hik))), QOne.yes rfl rfl rfl (PV.conv rfl ((ConvV.int (n := mo[x.i]) eg_ti3 eg_ti5).to (v'' := B8 (IntKind.u8.wrap mo[x.i]).toNat) (by show Value.int .u8 (IntKind.u8.wrap mo[x.i]) = .int .u8 (((IntKind.u8.wrap mo[x.i]).toNat : Nat) : Int); rw [← (byte_wrap _).1]))), trivial⟩ rfl rfl rfl rfl rfl rfl rfl (EV.buildSlice rfl (eg_bs27_2_0_1 _ _)) (fun b4 => ?_)
          refine AR.weak (fun w hw => St.boxBytes [UInt8.ofNat (IntKind.u8.wrap mo[x.i]).toNat, 7] (by simp only [bytesV, List.map_cons, List.map_nil]; rw [u8_ofNat hbw]; rfl) hw) ?_
          refine AR.done [10, 9, 8, 6, 7] rfl ?_
          refine AR.eff [0] 12 [0, 1, 2, 3, 4, 5, 6, 7, 8, 9, 10, 11, 12] ⟨QOne.yes rfl rfl rfl (PV.move rfl), trivial⟩ rfl rfl rfl rfl rfl rfl rfl (EV.call rfl Try.call13 (p_append (n := r0.1) (x := [UInt8.ofNat (IntKind.u8.wrap mo[x.i]).toNat, 7]) hx.2.1 (.tail _ (.tail _ (.head _))) (.head _) ⟨by have := r0.2; omega, by have := r0.2; omega⟩ (by show 2 ≤ _; decide))) (fun q5 => ?_)
          refine AR.done [0] rfl ?_
          refine AR.last [] [0, 1, 2, 3, 4, 5, 6, 7, 8, 9, 10, 11, 12] trivial rfl rfl rfl ?_
          refine NX.sub (E' := [(2, _), (4, _), (11, _), (12, _), (13, _), (14, _), (15, _), (60, _), (61, _), (62, _), (63, _), (64, _), (65, _), (66, _), (67, _), (70, _), (71, _), (72, _), (73, _), (74, _), (75, _), (76, _), (77, _), (78, _), (79, _), (80, _), (81, _)]) ⟨rfl, rfl, rfl, rfl, rfl, rfl, rfl, rfl, rfl, rfl, rfl, rfl, rfl, rfl, rfl, rfl, rfl, rfl, rfl, rfl, rfl, rfl, rfl, rfl, rfl, rfl, rfl, trivial⟩ ?_
          refine NX.off ?_
          refine NX.seq ?_
          refine TR.region ?_
          refine RL.move rfl rfl rfl ?_
          refine RL.bin rfl rfl rfl (BinV.add ((x.i + 1 : Nat) : Int) (by omega) (by omega) (by omega)) rfl ?_
          refine RL.assign rfl rfl rfl ?_
          refine RL.nil ?_
          refine NX.roundP ⟨x.i + 1, q5.1, (appA x.a r0.1 [UInt8.ofNat (IntKind.u8.wrap mo[x.i]).toNat, 7]).2⟩ ⟨by show x.i + 1 ≤ 6; omega, q5.2, hx.2.2.app _ _⟩ (by show 6 - (x.i + 1) < _; omega) ⟨rfl, rfl, rfl, rfl, rfl, rfl, rfl, trivial⟩ (fun w hw => (hw.to 3 [0, 1, 2] 7 [0, 4, 5, 6] rfl))
        · skip
          refine AR.weak (fun w hw => St.boxBytes [UInt8.ofNat (IntKind.u8.wrap mo[x.i]).toNat, 7] (by simp only [bytesV, List.map_cons, List.map_nil]; rw [u8_ofNat hbw]; rfl) hw) ?_
          refine AR.done [10, 9, 8, 6, 7] rfl ?_
          refine AR.eff [0, 1, 2, 3, 4] 5 [0, 1, 2, 3, 4, 5, 6, 7, 8, 9, 10, 11, 12] ⟨QOne.yes rfl rfl rfl (PV.move rfl), QOne.yes rfl rfl rfl (PV.move rfl), QOne.yes rfl rfl rfl (PV.move rfl), QOne.yes rfl rfl rfl (PV.indexAddr eg_tl33 eg_tz3 (congrArg (fun a => some (Value.slice a _ _)) hpa) rfl (by omega) (by omega)), QOne.yes rfl rfl rfl (PV.loadF rfl (fun w K hF => run_loadCell1 (j := ((x.i : Nat) : Int).toNat * 1) (v := I mo[x.i]) (hF (CellsF pq.1 pq.2 (ints mo)) (.tail _ (.head _))) eg_ts3 (by rw [Nat.mul_one, Int.toNat_natCast]; exact ints_get hik))), trivial⟩ rfl rfl rfl rfl rfl rfl rfl (EV.call rfl Try.call11 (around_spec (by decide) hxi.1 hxi.2)) (fun r0 => ?_)
          refine AR.done [4, 3, 1, 2] rfl ?_
          refine AR.eff [0] 12 [0, 1, 2, 3, 4, 5, 6, 7, 8, 9, 10, 11, 12] ⟨QOne.yes rfl rfl rfl (PV.move rfl), trivial⟩ rfl rfl rfl rfl rfl rfl rfl (EV.call rfl Try.call13 (p_append (n := r0.1) (x := [UInt8.ofNat (IntKind.u8.wrap mo[x.i]).toNat, 7]) hx.2.1 (.tail _ (.tail _ (.head _))) (.head _) ⟨by have := r0.2; omega, by have := r0.2; omega⟩ (by show 2 ≤ _; decide))) (fun q5 => ?_)
          refine AR.done [0] rfl ?_
          refine AR.last [] [0, 1, 2, 3, 4, 5, 6, 7, 8, 9, 10, 11, 12] trivial rfl rfl rfl ?_
          refine NX.sub (E' := [(2, _), (4, _), (11, _), (12, _), (13, _), (14, _), (15, _), (60, _), (61, _), (62, _), (63, _), (64, _), (65, _), (66, _), (67, _), (70, _), (71, _), (72, _), (73, _), (74, _), (75, _), (76, _), (77, _), (78, _), (79, _), (80, _), (81, _)]) ⟨rfl, rfl, rfl, rfl, rfl, rfl, rfl, rfl, rfl, rfl, rfl, rfl, rfl, rfl, rfl, rfl, rfl, rfl, rfl, rfl, rfl, rfl, rfl, rfl, rfl, rfl, rfl, trivial⟩ ?_
          refine NX.off ?_
          refine NX.seq ?_
          refine TR.region ?_
          refine RL.move rfl rfl rfl ?_
          refine RL.bin rfl rfl rfl (BinV.add ((x.i + 1 : Nat) : Int) (by omega) (by omega) (by omega)) rfl ?_
          refine RL.assign rfl rfl rfl ?_
          refine RL.nil ?_
          refine NX.roundP ⟨x.i + 1, q5.1, (appA x.a r0.1 [UInt8.ofNat (IntKind.u8.wrap mo[x.i]).toNat, 7]).2⟩ ⟨by show x.i + 1 ≤ 6; omega, q5.2, hx.2.2.app _ _⟩ (by show 6 - (x.i + 1) < _; omega) ⟨rfl, rfl, rfl, rfl, rfl, rfl, rfl, trivial⟩ (fun w hw => (hw.to 3 [0, 1, 2] 7 [0, 4, 5, 6] rfl))
      · skip
        refine TR.exit ?_
        refine NX.exitThen ?_
        refine NX.exitThen ?_
        refine NX.exitHere ?_
        refine NX.seq ?_
        refine TR.seq ?_
        refine TR.region ?_
        refine RL.move rfl rfl rfl ?_
        refine RL.call rfl rfl Try.call29 rfl (copy_d (s := x.s)) (fun y2 => ?_)
        refine RL.weak (fun w hw => hw.derive (ψ := AllF ({ x.s with m := y2.2 } : Ds).fs) (fun K hf => hf (AllF x.s.fs) (.head _))) ?_
        refine RL.assign rfl rfl rfl ?_
        refine RL.nil ?_
        refine NX.seq ?_
        refine TR.seq ?_
        refine TR.region ?_
        refine RL.move rfl rfl rfl ?_
        refine RL.move rfl rfl rfl ?_
        refine RL.move rfl rfl rfl ?_
        refine RL.call rfl rfl Try.call15 rfl (Ctr.pick 4 [1, 0, 2, 3] rfl (p_crash (ks := (ks.take 4)) hx.2.1 (.tail _ (.head _)) (.tail _ (.tail _ (.tail _ (.tail _ (.head _))))) ⟨by rw [List.length_take]; omega, fun v hv => hok.2 v (List.mem_of_mem_take hv)⟩ hfl)) (fun q4 => ?_)
        refine RL.nil ?_
        refine NX.seq ?_
        refine TR.seq ?_
        refine TR.seq ?_
        refine TR.region ?_
        refine RL.assign rfl rfl rfl ?_
        refine RL.nil ?_
        refine NX.seq ?_
        refine TR.block ?_
        refine TR.loopP (ι := Nat) (fun u => u ≤ 4 ∧ True) (fun u => [(11, .pointer (some ⟨z.1.1.1, 0, none⟩)), (12, .pointer (some ⟨z.1.1.2, 0, none⟩)), (13, .pointer (some ⟨y.1, 0, none⟩)), (16, .pointer (some ⟨y2.1, 0, none⟩)), (17, I (u : Nat))]) (fun u => DkB 66 z.1.1.1 (q4.1) :: DkB 66 y.1 (q3.1) :: DkB 66 y2.1 (({ x.s with m := y2.2 } : Ds)) :: RfB 58 27 3 z.1.1.2 (z.1.2.2) :: M) (fun u => AllF q4.1.fs :: AllF q3.1.fs :: AllF ({ x.s with m := y2.2 } : Ds).fs :: AllB (rowsF z.1.2.2.a.B z.1.2.2.x) :: F) (fun u => 4 - u) 0 ⟨Nat.zero_le _, trivial⟩ ⟨rfl, rfl, rfl, rfl, rfl, trivial⟩ (fun w hw => (hw.to 4 [0, 2, 1, 3] 6 [0, 3, 1, 4] rfl)) (fun u hu => ?_)
        refine TR.seq ?_
        refine TR.seq ?_
        refine TR.region ?_
        refine RL.move rfl rfl rfl ?_
        refine RL.bin rfl rfl rfl BinV.lss rfl ?_
        refine RL.nil ?_
        refine NX.seq ?_
        refine TR.cond rfl (fun h5 => ?_) (fun h5 => ?_)
        · skip
          have hu4 : u < 4 := by have := of_decide_eq_true h5; omega
          have hu64 : u < 64 := by omega
          have hd := hs.dur hx.2.2 (ks.take 4) fl u
          have hcA : ((crashA (syncA (armA z.1.2.2.a (-1))).2 (ks.take 4) fl).B u) = z.1.2.2.a.B u := hd.c
          have hle : (z.1.2.2.a.B u).length ≤ ((crashA x.a (ks.take 4) fl).B u).length := hd.le
          have htk : ((crashA x.a (ks.take 4) fl).B u).take (z.1.2.2.a.B u).length = z.1.2.2.a.B u := hd.tk
          have hup : ((crashA x.a (ks.take 4) fl).B u).length ≤ (x.a.B u).length := hd.up
          have hrl : (z.1.2.2.a.B u).length ≤ 4611686018427387904 := by have := used_one (B := z.1.2.2.a.B) hu64; have := z.2.2.us; have := z.2.2.rm; omega
          refine TR.openP (rf_at (i := 3) rfl) (fun g hg => ?_)
          refine TR.weak (fun w hw => hw.allB_get (.tail _ (.tail _ (.tail _ (.head _)))) (rowsF_mem hu64)) ?_
          refine TR.skip ?_
          refine NX.seq ?_
          refine TR.seq ?_
          refine TR.block ?_
          refine TR.seq ?_
          refine TR.region ?_
          refine RL.move rfl rfl rfl ?_
          refine RL.move rfl rfl rfl ?_
          refine RL.call rfl rfl Try.call16 rfl (Ctr.pick 4 [1, 0, 2, 3] rfl (p_read_on (n := u) q3.2 (.tail _ (.tail _ (.head _))) hu64 rfl)) (fun ra => ?_)
          refine RL.weak (fun w hw => hw.keepSl) ?_
          refine RL.move rfl rfl rfl ?_
          refine RL.extract rfl rfl rfl rfl ?_
          refine RL.extract rfl rfl rfl rfl ?_
          refine RL.assign rfl rfl rfl ?_
          refine RL.assign rfl rfl rfl ?_
          refine RL.nil ?_
          refine NX.seq ?_
          refine TR.seq ?_
          refine TR.region ?_
          refine RL.move rfl rfl rfl ?_
          refine RL.move rfl rfl rfl ?_
          refine RL.call rfl rfl Try.call16 rfl (Ctr.pick 4 [1, 0, 2, 3] rfl (p_read_on (n := u) q4.2 (.tail _ (.tail _ (.head _))) hu64 rfl)) (fun rb => ?_)
          refine RL.open1 (fun w hw => ⟨hw.ownLen.2, hw⟩) (fun hbc => ?_)
          refine RL.weak (fun w hw => hw.keepSl) ?_
          refine RL.move rfl rfl rfl ?_
          refine RL.extract rfl rfl rfl rfl ?_
          refine RL.extract rfl rfl rfl rfl ?_
          refine RL.assign rfl rfl rfl ?_
          refine RL.assign rfl rfl rfl ?_
          refine RL.nil ?_
          refine NX.seq ?_
          refine TR.seq ?_
          refine TR.seq ?_
          refine TR.region ?_
          refine RL.move rfl rfl rfl ?_
          refine RL.bin rfl rfl rfl (BinV.to (d := false) BinV.neq (decide_eq_false (by simp))) rfl ?_
          refine RL.move rfl rfl rfl ?_
          refine RL.move rfl rfl rfl ?_
          refine RL.bin rfl rfl rfl (BinV.to (d := false) BinV.neq (decide_eq_false (by simp))) rfl ?_
          refine RL.pickF rfl rfl rfl rfl ?_
          refine RL.move rfl rfl rfl ?_
          refine RL.move rfl rfl rfl ?_
          refine RL.move rfl rfl rfl ?_
          refine RL.nilCheck rfl rfl rfl ?_
          refine RL.fieldAddr rfl eg_tf58_1 rfl rfl ?_
          refine RL.loadS rfl rfl (rf_cell (j := 1) (v := .slice z.1.2.2.ba 64 64) (i := 3) rfl eg_ts22 rfl) rfl ?_
          refine RL.move rfl rfl rfl ?_
          refine RL.indexAddr rfl eg_tl22 eg_tz27 (congrArg (fun a => some (Value.slice a _ _)) hg) rfl (by omega) (by omega) rfl ?_
          refine RL.loadS rfl rfl (rf_row (n := u) (i := 3) rfl hg eg_ts27 rfl hu64) rfl ?_
          refine RL.call rfl rfl Try.call17 rfl (Ctr.boolT (decide_eq_true hcA) (sameB_spec (xs := ((crashA (syncA (armA z.1.2.2.a (-1))).2 (ks.take 4) fl).B u)) (ys := z.1.2.2.a.B u) (.tail _ (.head _)) (.tail _ (.tail _ (.head _))) (by rw [hcA]; exact hrl))) (fun _ => ?_)
          refine RL.not rfl rfl rfl ?_
          refine RL.pickF rfl rfl rfl rfl ?_
          refine RL.move rfl rfl rfl ?_
          refine RL.move rfl rfl rfl ?_
          refine RL.lenSlice rfl eg_tl27 rfl rfl ?_
          refine RL.move rfl rfl rfl ?_
          refine RL.lenSlice rfl eg_tl27 rfl rfl ?_
          refine RL.bin rfl rfl rfl (BinV.to (d := false) BinV.lss (decide_eq_false (by have := congrArg List.length hcA; omega))) rfl ?_
          refine RL.pickF rfl rfl rfl rfl ?_
          refine RL.move rfl rfl rfl ?_
          refine RL.move rfl rfl rfl ?_
          refine RL.move rfl rfl rfl ?_
          refine RL.lenSlice rfl eg_tl27 rfl rfl ?_
          refine RL.sliceToB (k := (z.1.2.2.a.B u).length) (cap := rb.2) rfl eg_tl27 eg_tz5 rfl rfl (by rw [htk]; exact congrArg (fun l : List UInt8 => ((l.length : Nat) : Int)) hcA) hbc (.head _) rfl ?_
          refine RL.move rfl rfl rfl ?_
          refine RL.call rfl rfl Try.call17 rfl (Ctr.boolT (decide_eq_true (htk.trans hcA.symm)) (sameB_spec (xs := ((crashA x.a (ks.take 4) fl).B u).take (z.1.2.2.a.B u).length) (ys := ((crashA (syncA (armA z.1.2.2.a (-1))).2 (ks.take 4) fl).B u)) (.head _) (.tail _ (.tail _ (.head _))) (by rw [htk]; exact hrl))) (fun _ => ?_)
          refine RL.not rfl rfl rfl ?_
          refine RL.pickF rfl rfl rfl rfl ?_
          refine RL.nil ?_
          refine NX.seq ?_
          refine TR.condF rfl ?_
          refine TR.skip ?_
          refine NX.seq ?_
          refine TR.seq ?_
          refine TR.seq ?_
          refine TR.region ?_
          refine RL.move rfl rfl rfl ?_
          refine RL.bin rfl rfl rfl (BinV.eqlPtrNil eg_tp23) rfl ?_
          refine RL.nil ?_
          refine NX.seq ?_
          refine TR.condF rfl ?_
          refine TR.skip ?_
          refine NX.seq ?_
          refine TR.seq ?_
          refine TR.region ?_
          refine RL.move rfl rfl rfl ?_
          refine RL.move rfl rfl rfl ?_
          refine RL.call rfl rfl Try.call16 rfl (Ctr.pick 4 [2, 0, 1, 3] rfl (p_read_on (n := u) (hx.2.1.copy _) (.tail _ (.tail _ (.tail _ (.tail _ (.tail _ (.tail _ (.head _))))))) hu64 hx.2.2.off)) (fun rg => ?_)
          refine RL.weak (fun w hw => hw.keepSl) ?_
          refine RL.move rfl rfl rfl ?_
          refine RL.extract rfl rfl rfl rfl ?_
          refine RL.extract rfl rfl rfl rfl ?_
          refine RL.assign rfl rfl rfl ?_
          refine RL.assign rfl rfl rfl ?_
          refine RL.nil ?_
          refine NX.seq ?_
          refine TR.seq ?_
          refine TR.region ?_
          refine RL.move rfl rfl rfl ?_
          refine RL.lenSlice rfl eg_tl27 rfl rfl ?_
          refine RL.move rfl rfl rfl ?_
          refine RL.lenSlice rfl eg_tl27 rfl rfl ?_
          refine RL.bin rfl rfl rfl (BinV.to (d := false) BinV.gtr (decide_eq_false (by omega))) rfl ?_
          refine RL.nil ?_
          refine NX.seq ?_
          refine TR.condF rfl ?_
          refine TR.skip ?_
          refine NX.off ?_
          refine NX.seq ?_
          refine TR.region ?_
          refine RL.move rfl rfl rfl ?_
          refine RL.bin rfl rfl rfl (BinV.add ((u + 1 : Nat) : Int) (by omega) (by omega) (by omega)) rfl ?_
          refine RL.assign rfl rfl rfl ?_
          refine RL.nil ?_
          refine NX.roundP (u + 1) ⟨by omega, trivial⟩ (by omega) ⟨rfl, rfl, rfl, rfl, rfl, trivial⟩ (fun w hw => (hw.to 4 [1, 2, 0, 3] 9 [5, 6, 7, 8] rfl))
        · skip
          refine TR.exit ?_
          refine NX.exitThen ?_
          refine NX.exitThen ?_
          refine NX.exitHere ?_
          refine NX.seq ?_
          refine TR.seq ?_
          refine TR.region ?_
          refine RL.call rfl rfl Try.call18 rfl (lives_spec) (fun _ => ?_)
          refine RL.assign rfl rfl rfl ?_
          refine RL.nil ?_
          refine NX.seq ?_
          refine TR.ret ?_
          exact NX.ret1 () rfl rfl rfl (fun w hw => (hw.to 4 [] 4 [] rfl))
    · skip
      refine RL.skip rfl rfl rfl ?_
      refine RL.skip rfl rfl rfl ?_
      refine RL.pickF rfl rfl rfl rfl ?_
      refine RL.nil ?_
      refine NX.seq ?_
      refine TR.condF rfl ?_
      refine TR.exit ?_
      refine NX.exitThen ?_
      refine NX.exitThen ?_
      refine NX.exitHere ?_
      refine NX.seq ?_
      refine TR.seq ?_
      refine TR.region ?_
      refine RL.move rfl rfl rfl ?_
      refine RL.call rfl rfl Try.call29 rfl (copy_d (s := x.s)) (fun y2 => ?_)
      refine RL.weak (fun w hw => hw.derive (ψ := AllF ({ x.s with m := y2.2 } : Ds).fs) (fun K hf => hf (AllF x.s.fs) (.head _))) ?_
      refine RL.assign rfl rfl rfl ?_
      refine RL.nil ?_
      refine NX.seq ?_
      refine TR.seq ?_
      refine TR.region ?_
      refine RL.move rfl rfl rfl ?_
      refine RL.move rfl rfl rfl ?_
      refine RL.move rfl rfl rfl ?_
      refine RL.call rfl rfl Try.call15 rfl (Ctr.pick 4 [1, 0, 2, 3] rfl (p_crash (ks := (ks.take 4)) hx.2.1 (.tail _ (.head _)) (.tail _ (.tail _ (.tail _ (.tail _ (.head _))))) ⟨by rw [List.length_take]; omega, fun v hv => hok.2 v (List.mem_of_mem_take hv)⟩ hfl)) (fun q4 => ?_)
      refine RL.nil ?_
      refine NX.seq ?_
      refine TR.seq ?_
      refine TR.seq ?_
      refine TR.region ?_
      refine RL.assign rfl rfl rfl ?_
      refine RL.nil ?_
      refine NX.seq ?_
      refine TR.block ?_
      refine TR.loopP (ι := Nat) (fun u => u ≤ 4 ∧ True) (fun u => [(11, .pointer (some ⟨z.1.1.1, 0, none⟩)), (12, .pointer (some ⟨z.1.1.2, 0, none⟩)), (13, .pointer (some ⟨y.1, 0, none⟩)), (16, .pointer (some ⟨y2.1, 0, none⟩)), (17, I (u : Nat))]) (fun u => DkB 66 z.1.1.1 (q4.1) :: DkB 66 y.1 (q3.1) :: DkB 66 y2.1 (({ x.s with m := y2.2 } : Ds)) :: RfB 58 27 3 z.1.1.2 (z.1.2.2) :: M) (fun u => AllF q4.1.fs :: AllF q3.1.fs :: AllF ({ x.s with m := y2.2 } : Ds).fs :: AllB (rowsF z.1.2.2.a.B z.1.2.2.x) :: F) (fun u => 4 - u) 0 ⟨Nat.zero_le _, trivial⟩ ⟨rfl, rfl, rfl, rfl, rfl, trivial⟩ (fun w hw => (hw.to 4 [0, 2, 1, 3] 6 [0, 3, 1, 4] rfl)) (fun u hu => ?_)
      refine TR.seq ?_
      refine TR.seq ?_
      refine TR.region ?_
      refine RL.move rfl rfl rfl ?_
      refine RL.bin rfl rfl rfl BinV.lss rfl ?_
      refine RL.nil ?_
      refine NX.seq ?_
      refine TR.cond rfl (fun h6 => ?_) (fun h6 => ?_)
      · skip
        have hu4 : u < 4 := by have := of_decide_eq_true h6; omega
        have hu64 : u < 64 := by omega
        have hd := hs.dur hx.2.2 (ks.take 4) fl u
        have hcA : ((crashA (syncA (armA z.1.2.2.a (-1))).2 (ks.take 4) fl).B u) = z.1.2.2.a.B u := hd.c
        have hle : (z.1.2.2.a.B u).length ≤ ((crashA x.a (ks.take 4) fl).B u).length := hd.le
        have htk : ((crashA x.a (ks.take 4) fl).B u).take (z.1.2.2.a.B u).length = z.1.2.2.a.B u := hd.tk
        have hup : ((crashA x.a (ks.take 4) fl).B u).length ≤ (x.a.B u).length := hd.up
        have hrl : (z.1.2.2.a.B u).length ≤ 4611686018427387904 := by have := used_one (B := z.1.2.2.a.B) hu64; have := z.2.2.us; have := z.2.2.rm; omega
        refine TR.openP (rf_at (i := 3) rfl) (fun g hg => ?_)
        refine TR.weak (fun w hw => hw.allB_get (.tail _ (.tail _ (.tail _ (.head _)))) (rowsF_mem hu64)) ?_
        refine TR.skip ?_
        refine NX.seq ?_
        refine TR.seq ?_
        refine TR.block ?_
        refine TR.seq ?_
        refine TR.region ?_
        refine RL.move rfl rfl rfl ?_
        refine RL.move rfl rfl rfl ?_
        refine RL.call rfl rfl Try.call16 rfl (Ctr.pick 4 [1, 0, 2, 3] rfl (p_read_on (n := u) q3.2 (.tail _ (.tail _ (.head _))) hu64 rfl)) (fun ra => ?_)
        refine RL.weak (fun w hw => hw.keepSl) ?_
        refine RL.move rfl rfl rfl ?_
        refine RL.extract rfl rfl rfl rfl ?_
        refine RL.extract rfl rfl rfl rfl ?_
        refine RL.assign rfl rfl rfl ?_
        refine RL.assign rfl rfl rfl ?_
        refine RL.nil ?_
        refine NX.seq ?_
        refine TR.seq ?_
        refine TR.region ?_
        refine RL.move rfl rfl rfl ?_
        refine RL.move rfl rfl rfl ?_
        refine RL.call rfl rfl Try.call16 rfl (Ctr.pick 4 [1, 0, 2, 3] rfl (p_read_on (n := u) q4.2 (.tail _ (.tail _ (.head _))) hu64 rfl)) (fun rb => ?_)
        refine RL.open1 (fun w hw => ⟨hw.ownLen.2, hw⟩) (fun hbc => ?_)
        refine RL.weak (fun w hw => hw.keepSl) ?_
        refine RL.move rfl rfl rfl ?_
        refine RL.extract rfl rfl rfl rfl ?_
        refine RL.extract rfl rfl rfl rfl ?_
        refine RL.assign rfl rfl rfl ?_
        refine RL.assign rfl rfl rfl ?_
        refine RL.nil ?_
        refine NX.seq ?_
        refine TR.seq ?_
        refine TR.seq ?_
        refine TR.region ?_
        refine RL.move rfl rfl rfl ?_
        refine RL.bin rfl rfl rfl (BinV.to (d := false) BinV.neq (decide_eq_false (by simp))) rfl ?_
        refine RL.move rfl rfl rfl ?_
        refine RL.move rfl rfl rfl ?_
        refine RL.bin rfl rfl rfl (BinV.to (d := false) BinV.neq (decide_eq_false (by simp))) rfl ?_
        refine RL.pickF rfl rfl rfl rfl ?_
        refine RL.move rfl rfl rfl ?_
        refine RL.move rfl rfl rfl ?_
        refine RL.move rfl rfl rfl ?_
        refine RL.nilCheck rfl rfl rfl ?_
        refine RL.fieldAddr rfl eg_tf58_1 rfl rfl ?_
        refine RL.loadS rfl rfl (rf_cell (j := 1) (v := .slice z.1.2.2.ba 64 64) (i := 3) rfl eg_ts22 rfl) rfl ?_
        refine RL.move rfl rfl rfl ?_
        refine RL.indexAddr rfl eg_tl22 eg_tz27 (congrArg (fun a => some (Value.slice a _ _)) hg) rfl (by omega) (by omega) rfl ?_
        refine RL.loadS rfl rfl (rf_row (n := u) (i := 3) rfl hg eg_ts27 rfl hu64) rfl ?_
        refine RL.call rfl rfl Try.call17 rfl (Ctr.boolT (decide_eq_true hcA) (sameB_spec (xs := ((crashA (syncA (armA z.1.2.2.a (-1))).2 (ks.take 4) fl).B u)) (ys := z.1.2.2.a.B u) (.tail _ (.head _)) (.tail _ (.tail _ (.head _))) (by rw [hcA]; exact hrl))) (fun _ => ?_)
        refine RL.not rfl rfl rfl ?_
        refine RL.pickF rfl rfl rfl rfl ?_
        refine RL.move rfl rfl rfl ?_
        refine RL.move rfl rfl rfl ?_
        refine RL.lenSlice rfl eg_tl27 rfl rfl ?_
        refine RL.move rfl rfl rfl ?_
        refine RL.lenSlice rfl eg_tl27 rfl rfl ?_
        refine RL.bin rfl rfl rfl (BinV.to (d := false) BinV.lss (decide_eq_false (by have := congrArg List.length hcA; omega))) rfl ?_
        refine RL.pickF rfl rfl rfl rfl ?_
        refine RL.move rfl rfl rfl ?_
        refine RL.move rfl rfl rfl ?_
        refine RL.move rfl rfl rfl ?_
        refine RL.lenSlice rfl eg_tl27 rfl rfl ?_
        refine RL.sliceToB (k := (z.1.2.2.a.B u).length) (cap := rb.2) rfl eg_tl27 eg_tz5 rfl rfl (by rw [htk]; exact congrArg (fun l : List UInt8 => ((l.length : Nat) : Int)) hcA) hbc (.head _) rfl ?_
        refine RL.move rfl rfl rfl ?_
        refine RL.call rfl rfl Try.call17 rfl (Ctr.boolT (decide_eq_true (htk.trans hcA.symm)) (sameB_spec (xs := ((crashA x.a (ks.take 4) fl).B u).take (z.1.2.2.a.B u).length) (ys := ((crashA (syncA (armA z.1.2.2.a (-1))).2 (ks.take 4) fl).B u)) (.head _) (.tail _ (.tail _ (.head _))) (by rw [htk]; exact hrl))) (fun _ => ?_)
        refine RL.not rfl rfl rfl ?_
        refine RL.pickF rfl rfl rfl rfl ?_
        refine RL.nil ?_
        refine NX.seq ?_
        refine TR.condF rfl ?_
        refine TR.skip ?_
        refine NX.seq ?_
        refine TR.seq ?_
        refine TR.seq ?_
        refine TR.region ?_
        refine RL.move rfl rfl rfl ?_
        refine RL.bin rfl rfl rfl (BinV.eqlPtrNil eg_tp23) rfl ?_
        refine RL.nil ?_
        refine NX.seq ?_
        refine TR.condF rfl ?_
        refine TR.skip ?_
        refine NX.seq ?_
        refine TR.seq ?_
        refine TR.region ?_
        refine RL.move rfl rfl rfl ?_
        refine RL.move rfl rfl rfl ?_
        refine RL.call rfl rfl Try.call16 rfl (Ctr.pick 4 [2, 0, 1, 3] rfl (p_read_on (n := u) (hx.2.1.copy _) (.tail _ (.tail _ (.tail _ (.tail _ (.tail _ (.tail _ (.head _))))))) hu64 hx.2.2.off)) (fun rg => ?_)
        refine RL.weak (fun w hw => hw.keepSl) ?_
        refine RL.move rfl rfl rfl ?_
        refine RL.extract rfl rfl rfl rfl ?_
        refine RL.extract rfl rfl rfl rfl ?_
        refine RL.assign rfl rfl rfl ?_
        refine RL.assign rfl rfl rfl ?_
        refine RL.nil ?_
        refine NX.seq ?_
        refine TR.seq ?_
        refine TR.region ?_
        refine RL.move rfl rfl rfl ?_
        refine RL.lenSlice rfl eg_tl27 rfl rfl ?_
        refine RL.move rfl rfl rfl ?_
        refine RL.lenSlice rfl eg_tl27 rfl rfl ?_
        refine RL.bin rfl rfl rfl (BinV.to (d := false) BinV.gtr (decide_eq_false (by omega))) rfl ?_
        refine RL.nil ?_
        refine NX.seq ?_
        refine TR.condF rfl ?_
        refine TR.skip ?_
        refine NX.off ?_
        refine NX.seq ?_
        refine TR.region ?_
        refine RL.move rfl rfl rfl ?_
        refine RL.bin rfl rfl rfl (BinV.add ((u + 1 : Nat) : Int) (by omega) (by omega) (by omega)) rfl ?_
        refine RL.assign rfl rfl rfl ?_
        refine RL.nil ?_
        refine NX.roundP (u + 1) ⟨by omega, trivial⟩ (by omega) ⟨rfl, rfl, rfl, rfl, rfl, trivial⟩ (fun w hw => (hw.to 4 [1, 2, 0, 3] 9 [5, 6, 7, 8] rfl))
      · skip
        refine TR.exit ?_
        refine NX.exitThen ?_
        refine NX.exitThen ?_
        refine NX.exitHere ?_
        refine NX.seq ?_
        refine TR.seq ?_
        refine TR.region ?_
        refine RL.call rfl rfl Try.call18 rfl (lives_spec) (fun _ => ?_)
        refine RL.assign rfl rfl rfl ?_
        refine RL.nil ?_
        refine NX.seq ?_
        refine TR.ret ?_
        exact NX.ret1 () rfl rfl rfl (fun w hw => (hw.to 4 [] 4 [] rfl))

end Go.Proofs.Ytdnjoffkanjjhaa

namespace Go.Proofs.Ytdnjoffkanjjhaa
open Go.ChangeShapes Go.WideShapes Go.ChangeAt Go.RowKit Go.GL Go.GL.Tree
theorem diskDurable_params : Try.f6.params = #[3, 33, 33, 33, 3] := by kernel_rfl
set_option maxRecDepth 100000 in
theorem diskDurable_lifted (os : Os) (started : os.Started) (H : Type) (enc : TypeId × Value → H) :
    ReturnsInHanded {} Try.checked os 6 .any (Rows.diskDurableSpec.pre6 enc Try.prog Try.f6 Rows.diskDurableRow.domain false) (Rows.diskDurableSpec.post enc Try.prog Try.f6 false true false false) := by
  refine returnsInHanded_of_change (C := Try.checked) own_ started (by kernel_rfl) Try.func6
    (ChangeSpec.witness6 (enc := enc) (C := Try.checked) false ⟨#[], #[.int .i64 0, .slice none 0 0, .slice none 0 0, .slice none 0 0, .int .i64 0], []⟩ 8 (by kernel_rfl) (by kernel_rfl) (by kernel_rfl) (by kernel_rfl)) ?_
  intro W base args ds gs before hval0 hW _ _
  have hval : ∀ (j : Nat) t v, Try.f6.params[j]? = some t → args[j]? = some v → Value.okWide Try.prog W .any base t v := hval0
  have hW' := hW
  obtain ⟨p, q, hA0, hV, rfl, hfz, hnd⟩ := hW
  have hA : DataW.TrodAll enc Try.prog W 0 (fun _ => true) true Try.f6.params.toList args.toList ds p := hA0
  rw [diskDurable_params] at hA hval
  obtain ⟨v0, vs0, d0, ds0, p0, q0, hargs, rfl, rfl, h0, r0⟩ := trodAll_cons hA
  obtain ⟨v1, vs1, d1, ds1, p1, q1, rfl, rfl, rfl, h1, r1⟩ := trodAll_cons r0
  obtain ⟨v2, vs2, d2, ds2, p2, q2, rfl, rfl, rfl, h2, r2⟩ := trodAll_cons r1
  obtain ⟨v3, vs3, d3, ds3, p3, q3, rfl, rfl, rfl, h3, r3⟩ := trodAll_cons r2
  obtain ⟨v4, vs4, d4, ds4, p4, q4, rfl, rfl, rfl, h4, r4⟩ := trodAll_cons r3
  obtain ⟨rfl, rfl, rfl⟩ := trodAll_nil r4
  obtain rfl : args = #[v0, v1, v2, v3, v4] := by cases args; simp_all
  obtain ⟨o0, rfl, _, _, ho0⟩ := open_int (isI64_is i64_3) (hval 0 3 v0 rfl rfl) h0
  have hoi0 : -9223372036854775808 ≤ o0 ∧ o0 ≤ 9223372036854775807 := by simpa [Lit.wf, IntKind.min, IntKind.max, IntKind.signed, IntKind.bits] using ho0
  obtain ⟨oa1, ca1, xs1, rfl, hxa1, hxl1, hxm1, hxr1⟩ := in_ints1 sl33 i64_3 one3 (hval 1 33 v1 rfl rfl) h1
  have hok1 : IntsOk xs1 := ⟨by simp [maxLen] at hxm1; omega, hxr1⟩
  obtain ⟨oa2, ca2, xs2, rfl, hxa2, hxl2, hxm2, hxr2⟩ := in_ints1 sl33 i64_3 one3 (hval 2 33 v2 rfl rfl) h2
  have hok2 : IntsOk xs2 := ⟨by simp [maxLen] at hxm2; omega, hxr2⟩
  obtain ⟨oa3, ca3, xs3, rfl, hxa3, hxl3, hxm3, hxr3⟩ := in_ints1 sl33 i64_3 one3 (hval 3 33 v3 rfl rfl) h3
  have hok3 : IntsOk xs3 := ⟨by simp [maxLen] at hxm3; omega, hxr3⟩
  obtain ⟨o4, rfl, _, _, ho4⟩ := open_int (isI64_is i64_3) (hval 4 3 v4 rfl rfl) h4
  have hoi4 : -9223372036854775808 ≤ o4 ∧ o4 ≤ 9223372036854775807 := by simpa [Lit.wf, IntKind.min, IntKind.max, IntKind.signed, IntKind.bits] using ho4
  have hwalk := law_run (W := W) (law_durable34 (n := o0) (fl := o4) (l := xs1) (mo := xs2) (ks := xs3) (oa := oa1) (ob := oa2) (oc := oa3) (ca := ca1) (cb := ca2) (cc := ca3) (M := []) (F := [OldF W, ArrF oa1 (ints xs1), ArrF oa2 (ints xs2), ArrF oa3 (ints xs3)]) hoi0 (.tail _ (.head _)) hok1 (.tail _ (.tail _ (.head _))) hok2 (.tail _ (.tail _ (.tail _ (.head _)))) hok3 hxl3 hoi4) (fun φ hφ => by
      rcases List.mem_cons.1 hφ with e | hφ
      · subst e; exact hxa1
      rcases List.mem_cons.1 hφ with e | hφ
      · subst e; exact hxa2
      rcases List.mem_cons.1 hφ with e | hφ
      · subst e; exact hxa3
      cases hφ)
  exact hwalk.mono fun e W' ⟨he, hb⟩ => ⟨_, he, law_post (tb := 4) laidOut_ (by kernel_rfl) rfl (by kernel_rfl) (by kernel_rfl) rfl hW' hb⟩
theorem diskDurable_holds : Rows.DiskDurableSaid :=
  OpenClaim.holds_of_wide 6 Try.f6 rfl rfl rfl rfl rfl rfl rfl ⟨rfl, rfl, rfl, rfl, rfl⟩ rfl rfl rfl rfl rfl (by kernel_rfl) Try.func6 (by kernel_rfl)
    (of_decide_eq_true (by kernel_rfl)) (by unfold Func.isWrapper; first | (rw [if_pos (by decide +kernel)]; kernel_rfl) | (rw [if_neg (by decide +kernel)]; exact ⟨rfl, rfl⟩))
    (fun os started H enc _ => diskDurable_lifted os started H enc)
end Go.Proofs.Ytdnjoffkanjjhaa
