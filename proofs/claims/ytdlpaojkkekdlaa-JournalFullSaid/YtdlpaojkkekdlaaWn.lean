/- Walks of functions of the program. Printed by sx.py. -/
import Derived.Test.YtdlpaojkkekdlaaWk
import Derived.Test.YtdlpaojkkekdlaaDtd
namespace Go.Proofs.Ytdlpaojkkekdlaa
open Go.GL
set_option linter.unusedVariables false
theorem wn_ti3 : tyInt Try.prog 3 .i64 = true := by kernel_rfl
theorem wn_ti65 : tyInt Try.prog 65 .u64 = true := by kernel_rfl
theorem wn_ti66 : tyInt Try.prog 66 .u64 = true := by kernel_rfl
theorem wn_tl23 : tySlice Try.prog 23 5 = true := by kernel_rfl
theorem wn_tl27 : tySlice Try.prog 27 23 = true := by kernel_rfl
theorem wn_tp57 : tyPtr Try.prog 57 105 = true := by kernel_rfl
theorem wn_ts5 : tyScalar Try.prog 5 = true := by kernel_rfl
theorem wn_tz5 : tySize Try.prog 5 1 = true := by kernel_rfl
theorem rRaw_at {b : Nat} {l A B : List UInt8} {oa : Option Addr} {c : Nat} {M : List HP} {F : List Fact} (ha : ArrF oa (bytesV l) ∈ F) (hc : l.length ≤ c) (hl : l.length ≤ 70368744177664) (hrd : rdRaw l 0 = (A, B, 0)) : Ctr Try.prog 38 [.pointer (some ⟨b, 0, none⟩)] (Box b 105 [.slice oa l.length c, I 0] :: M) F {z : RwX // B.length ≤ z.c} (fun z => .slice z.1.ro A.length z.1.rc) (fun z => OwnSl 5 1 z.1.ro A.length z.1.rc (bytesV A) :: Box b 105 [.slice z.1.oa B.length z.1.c, I 0] :: M) (fun z => ArrF z.1.oa (bytesV B) :: F) := by
  have h := rRaw_spec (b := b) (e := 0) (M := M) ha hc hl
  rw [hrd] at h
  exact h

theorem rUint_at {b n : Nat} {l B : List UInt8} {oa : Option Addr} {c : Nat} {M : List HP} {F : List Fact} (ha : ArrF oa (bytesV l) ∈ F) (hc : l.length ≤ c) (hrd : rdU l 0 = (n, B, 0)) : Ctr Try.prog 39 [.pointer (some ⟨b, 0, none⟩)] (Box b 105 [.slice oa l.length c, I 0] :: M) F {z : RdX // B.length ≤ z.c} (fun z => U n) (fun z => Box b 105 [.slice z.1.oa B.length z.1.c, I 0] :: M) (fun z => ArrF z.1.oa (bytesV B) :: F) := by
  have h := rUint_spec (b := b) (e := 0) (M := M) ha hc
  rw [hrd] at h
  exact h

set_option maxHeartbeats 1000000 in
theorem law_detects {b : List UInt8} {n : Int} {ob : Option Addr} {cb : Nat} {M : List HP} {F : List Fact} (hb : ArrF ob (bytesV b) ∈ F) (hbc : b.length ≤ cb) (hn : -9223372036854775808 ≤ n ∧ n ≤ 9223372036854775807) : Ctr Try.prog 6 [.slice ob b.length cb, I n] M F Unit (fun _ => .bool true) (fun _ => M) (fun _ => F) := by
  refine Ctr.body Try.func6 rfl rfl ?_
  refine TR.seq ?_
  refine TR.region ?_
  refine RL.assign rfl rfl rfl ?_
  refine RL.nil ?_
  refine NX.seq ?_
  refine TR.seq ?_
  refine TR.region ?_
  have hol : (b.take 200).length ≤ 200 := by rw [List.length_take]; omega
  have hfl := frameJ_len (i := 0) (x := (b.take 200)) (by decide) (by decide) (by omega)
  have hcl := coreJ_len (i := 0) (x := (b.take 200)) (by decide) (by decide) (by omega)
  have h10 := encU_len10 (n := (coreJ 0 (b.take 200)).length) (by omega)
  have hal : (encU (coreJ 0 (b.take 200)).length).length < (frameJ 0 (b.take 200)).length := ahead_lt
  have hrd := rd_frame (i := 0) (x := (b.take 200)) (by decide) (by decide) (by omega)
  have hru := rd_hash (hashN_lt (label := jl) (b := (coreJ 0 (b.take 200))))
  refine RL.move rfl rfl rfl ?_
  refine RL.call rfl rfl Try.call11 rfl (few_spec (m := 200) hb hbc (by decide)) (fun z => ?_)
  refine RL.weak (fun w hw => hw.keepSl) ?_
  refine RL.assign rfl rfl rfl ?_
  refine RL.nil ?_
  refine NX.seq ?_
  refine TR.seq ?_
  refine TR.region ?_
  refine RL.move rfl rfl rfl ?_
  refine RL.call rfl rfl Try.call13 rfl (frame_spec (i := 0) (x := (b.take 200)) (rd_fact (.head _)) (by decide) (by decide) (by omega)) (fun f => ?_)
  refine RL.open1 (fun w hw => ⟨hw.ownLen.2, hw⟩) (fun hfc => ?_)
  refine RL.weak (fun w hw => hw.keepSl) ?_
  refine RL.assign rfl rfl rfl ?_
  refine RL.nil ?_
  refine NX.seq ?_
  refine TR.seq ?_
  refine TR.region ?_
  refine RL.allocA rfl (Try.zeroValue50) rfl (fun b1 => ?_)
  refine RL.weak (fun w hw => St.wrNew (e := 5) hw) ?_
  refine RL.nil ?_
  refine NX.seq ?_
  refine TR.seq ?_
  refine TR.region ?_
  refine RL.call rfl rfl Try.call27 rfl (wInt_spec (l := []) (by decide) (by decide) (by decide)) (fun _ => ?_)
  refine RL.nil ?_
  refine NX.seq ?_
  refine TR.seq ?_
  refine TR.region ?_
  refine RL.move rfl rfl rfl ?_
  refine RL.call rfl rfl Try.call36 rfl (wRaw_spec (x := (b.take 200)) (l := [] ++ encU (zz 0)) (rd_fact (by first | exact .head _ | exact .tail _ (.head _) | exact .tail _ (.tail _ (.head _)) | exact .tail _ (.tail _ (.tail _ (.head _))) | exact .tail _ (.tail _ (.tail _ (.tail _ (.head _)))) | exact .tail _ (.tail _ (.tail _ (.tail _ (.tail _ (.head _))))) | exact .tail _ (.tail _ (.tail _ (.tail _ (.tail _ (.tail _ (.head _)))))) | exact .tail _ (.tail _ (.tail _ (.tail _ (.tail _ (.tail _ (.tail _ (.head _))))))) | exact .tail _ (.tail _ (.tail _ (.tail _ (.tail _ (.tail _ (.tail _ (.tail _ (.head _)))))))) | exact .tail _ (.tail _ (.tail _ (.tail _ (.tail _ (.tail _ (.tail _ (.tail _ (.tail _ (.head _))))))))) | exact .tail _ (.tail _ (.tail _ (.tail _ (.tail _ (.tail _ (.tail _ (.tail _ (.tail _ (.tail _ (.head _)))))))))) | exact .tail _ (.tail _ (.tail _ (.tail _ (.tail _ (.tail _ (.tail _ (.tail _ (.tail _ (.tail _ (.tail _ (.head _))))))))))) | exact .tail _ (.tail _ (.tail _ (.tail _ (.tail _ (.tail _ (.tail _ (.tail _ (.tail _ (.tail _ (.tail _ (.tail _ (.head _)))))))))))) | exact .tail _ (.tail _ (.tail _ (.tail _ (.tail _ (.tail _ (.tail _ (.tail _ (.tail _ (.tail _ (.tail _ (.tail _ (.tail _ (.head _))))))))))))) | exact .tail _ (.tail _ (.tail _ (.tail _ (.tail _ (.tail _ (.tail _ (.tail _ (.tail _ (.tail _ (.tail _ (.tail _ (.tail _ (.tail _ (.head _)))))))))))))) | exact .tail _ (.tail _ (.tail _ (.tail _ (.tail _ (.tail _ (.tail _ (.tail _ (.tail _ (.tail _ (.tail _ (.tail _ (.tail _ (.tail _ (.tail _ (.head _))))))))))))))) | exact .tail _ (.tail _ (.tail _ (.tail _ (.tail _ (.tail _ (.tail _ (.tail _ (.tail _ (.tail _ (.tail _ (.tail _ (.tail _ (.tail _ (.tail _ (.tail _ (.head _)))))))))))))))))) (by have := encU_len10 (zz_lt (n := 0) (by decide) (by decide)); rw [List.nil_append]; omega) (by omega)) (fun _ => ?_)
  refine RL.nil ?_
  refine NX.seq ?_
  refine TR.seq ?_
  refine TR.region ?_
  refine RL.call rfl rfl Try.call30 rfl (wDone_spec (l := (coreJ 0 (b.take 200))) (by omega)) (fun c => ?_)
  refine RL.weak (fun w hw => hw.keepSl.drop 0 rfl) ?_
  refine RL.assign rfl rfl rfl ?_
  refine RL.nil ?_
  refine NX.seq ?_
  refine TR.seq ?_
  refine TR.region ?_
  refine RL.allocA rfl (Try.zeroValue50) rfl (fun b2 => ?_)
  refine RL.weak (fun w hw => St.wrNew (e := 5) hw) ?_
  refine RL.nil ?_
  refine NX.seq ?_
  refine TR.seq ?_
  refine TR.region ?_
  refine RL.move rfl rfl rfl ?_
  refine RL.lenSlice rfl wn_tl23 rfl rfl ?_
  refine RL.conv rfl rfl (ConvV.iu wn_ti3 wn_ti65 (by omega)) rfl ?_
  refine RL.call rfl rfl Try.call37 rfl (wUint_spec (n := (coreJ 0 (b.take 200)).length) (l := []) (by omega) (by decide)) (fun _ => ?_)
  refine RL.nil ?_
  refine NX.seq ?_
  refine TR.seq ?_
  refine TR.region ?_
  refine RL.call rfl rfl Try.call30 rfl (wDone_spec (l := encU (coreJ 0 (b.take 200)).length) (by omega)) (fun d => ?_)
  refine RL.weak (fun w hw => hw.drop 0 rfl) ?_
  refine RL.lenSlice rfl wn_tl23 rfl rfl ?_
  refine RL.assign rfl rfl rfl ?_
  refine RL.nil ?_
  refine NX.seq ?_
  refine TR.seq ?_
  refine TR.region ?_
  refine RL.move rfl rfl rfl ?_
  refine RL.call rfl rfl Try.call36 rfl (wRaw_spec (x := (coreJ 0 (b.take 200))) (l := encU (coreJ 0 (b.take 200)).length) (rd_fact (by first | exact .head _ | exact .tail _ (.head _) | exact .tail _ (.tail _ (.head _)) | exact .tail _ (.tail _ (.tail _ (.head _))) | exact .tail _ (.tail _ (.tail _ (.tail _ (.head _)))) | exact .tail _ (.tail _ (.tail _ (.tail _ (.tail _ (.head _))))) | exact .tail _ (.tail _ (.tail _ (.tail _ (.tail _ (.tail _ (.head _)))))) | exact .tail _ (.tail _ (.tail _ (.tail _ (.tail _ (.tail _ (.tail _ (.head _))))))) | exact .tail _ (.tail _ (.tail _ (.tail _ (.tail _ (.tail _ (.tail _ (.tail _ (.head _)))))))) | exact .tail _ (.tail _ (.tail _ (.tail _ (.tail _ (.tail _ (.tail _ (.tail _ (.tail _ (.head _))))))))) | exact .tail _ (.tail _ (.tail _ (.tail _ (.tail _ (.tail _ (.tail _ (.tail _ (.tail _ (.tail _ (.head _)))))))))) | exact .tail _ (.tail _ (.tail _ (.tail _ (.tail _ (.tail _ (.tail _ (.tail _ (.tail _ (.tail _ (.tail _ (.head _))))))))))) | exact .tail _ (.tail _ (.tail _ (.tail _ (.tail _ (.tail _ (.tail _ (.tail _ (.tail _ (.tail _ (.tail _ (.tail _ (.head _)))))))))))) | exact .tail _ (.tail _ (.tail _ (.tail _ (.tail _ (.tail _ (.tail _ (.tail _ (.tail _ (.tail _ (.tail _ (.tail _ (.tail _ (.head _))))))))))))) | exact .tail _ (.tail _ (.tail _ (.tail _ (.tail _ (.tail _ (.tail _ (.tail _ (.tail _ (.tail _ (.tail _ (.tail _ (.tail _ (.tail _ (.head _)))))))))))))) | exact .tail _ (.tail _ (.tail _ (.tail _ (.tail _ (.tail _ (.tail _ (.tail _ (.tail _ (.tail _ (.tail _ (.tail _ (.tail _ (.tail _ (.tail _ (.head _))))))))))))))) | exact .tail _ (.tail _ (.tail _ (.tail _ (.tail _ (.tail _ (.tail _ (.tail _ (.tail _ (.tail _ (.tail _ (.tail _ (.tail _ (.tail _ (.tail _ (.tail _ (.head _)))))))))))))))))) (by omega) (by omega)) (fun _ => ?_)
  refine RL.weak (fun w hw => hw.drop 0 rfl) ?_
  refine RL.nil ?_
  refine NX.seq ?_
  refine TR.seq ?_
  refine TR.seq ?_
  refine TR.region ?_
  refine RL.move rfl rfl rfl ?_
  refine RL.lenSlice rfl wn_tl23 rfl rfl ?_
  refine RL.move rfl rfl rfl ?_
  refine RL.bin rfl rfl rfl (BinV.to (d := false) BinV.leq (decide_eq_false (by omega))) rfl ?_
  refine RL.nil ?_
  refine NX.seq ?_
  refine TR.condF rfl ?_
  refine TR.skip ?_
  refine NX.seq ?_
  refine TR.seq ?_
  refine TR.region ?_
  refine RL.move rfl rfl rfl ?_
  refine RL.move rfl rfl rfl ?_
  refine RL.lenSlice rfl wn_tl23 rfl rfl ?_
  refine RL.move rfl rfl rfl ?_
  refine RL.bin rfl rfl rfl (BinV.sub _ rfl (by omega) (by omega)) rfl ?_
  refine RL.bin rfl rfl rfl (BinV.mul _ rfl (by omega) (by omega)) rfl ?_
  refine RL.call rfl rfl Try.call20 rfl (around_spec (by omega) hn.1 hn.2) (fun r => ?_)
  refine RL.assign rfl rfl rfl ?_
  refine RL.nil ?_
  refine NX.seq ?_
  refine TR.seq ?_
  refine TR.region ?_
  refine RL.move rfl rfl rfl ?_
  refine RL.move rfl rfl rfl ?_
  refine RL.lenSlice rfl wn_tl23 rfl rfl ?_
  refine RL.call rfl rfl Try.call11 rfl (few_spec (b := (frameJ 0 (b.take 200))) (m := (frameJ 0 (b.take 200)).length) (by first | exact .head _ | exact .tail _ (.head _) | exact .tail _ (.tail _ (.head _)) | exact .tail _ (.tail _ (.tail _ (.head _))) | exact .tail _ (.tail _ (.tail _ (.tail _ (.head _)))) | exact .tail _ (.tail _ (.tail _ (.tail _ (.tail _ (.head _))))) | exact .tail _ (.tail _ (.tail _ (.tail _ (.tail _ (.tail _ (.head _)))))) | exact .tail _ (.tail _ (.tail _ (.tail _ (.tail _ (.tail _ (.tail _ (.head _))))))) | exact .tail _ (.tail _ (.tail _ (.tail _ (.tail _ (.tail _ (.tail _ (.tail _ (.head _)))))))) | exact .tail _ (.tail _ (.tail _ (.tail _ (.tail _ (.tail _ (.tail _ (.tail _ (.tail _ (.head _))))))))) | exact .tail _ (.tail _ (.tail _ (.tail _ (.tail _ (.tail _ (.tail _ (.tail _ (.tail _ (.tail _ (.head _)))))))))) | exact .tail _ (.tail _ (.tail _ (.tail _ (.tail _ (.tail _ (.tail _ (.tail _ (.tail _ (.tail _ (.tail _ (.head _))))))))))) | exact .tail _ (.tail _ (.tail _ (.tail _ (.tail _ (.tail _ (.tail _ (.tail _ (.tail _ (.tail _ (.tail _ (.tail _ (.head _)))))))))))) | exact .tail _ (.tail _ (.tail _ (.tail _ (.tail _ (.tail _ (.tail _ (.tail _ (.tail _ (.tail _ (.tail _ (.tail _ (.tail _ (.head _))))))))))))) | exact .tail _ (.tail _ (.tail _ (.tail _ (.tail _ (.tail _ (.tail _ (.tail _ (.tail _ (.tail _ (.tail _ (.tail _ (.tail _ (.tail _ (.head _)))))))))))))) | exact .tail _ (.tail _ (.tail _ (.tail _ (.tail _ (.tail _ (.tail _ (.tail _ (.tail _ (.tail _ (.tail _ (.tail _ (.tail _ (.tail _ (.tail _ (.head _))))))))))))))) | exact .tail _ (.tail _ (.tail _ (.tail _ (.tail _ (.tail _ (.tail _ (.tail _ (.tail _ (.tail _ (.tail _ (.tail _ (.tail _ (.tail _ (.tail _ (.tail _ (.head _))))))))))))))))) hfc (by omega)) (fun tn => ?_)
  rw [List.take_length]
  refine RL.assign rfl rfl rfl ?_
  refine RL.nil ?_
  refine NX.seq ?_
  refine TR.seq ?_
  refine TR.region ?_
  have hr := r.2
  have hpx : (0 : Int) ≤ (((encU (coreJ 0 (b.take 200)).length).length : Nat) : Int) + r.1 / 8 ∧ (((encU (coreJ 0 (b.take 200)).length).length : Nat) : Int) + r.1 / 8 < ((frameJ 0 (b.take 200)).length : Int) := by omega
  have hpl : ((((encU (coreJ 0 (b.take 200)).length).length : Nat) : Int) + r.1 / 8).toNat < (frameJ 0 (b.take 200)).length := by omega
  have hap : aheadJ 0 (b.take 200) ≤ ((((encU (coreJ 0 (b.take 200)).length).length : Nat) : Int) + r.1 / 8).toNat := by show (encU (coreJ 0 (b.take 200)).length).length ≤ _; omega
  have hm8 : 0 ≤ r.1.tmod 8 ∧ r.1.tmod 8 < 8 := ⟨Int.tmod_nonneg _ r.2.1, Int.tmod_lt_of_pos _ (by omega)⟩
  have hvne : (UInt8.ofNat ((frameJ 0 (b.take 200))[((((encU (coreJ 0 (b.take 200)).length).length : Nat) : Int) + r.1 / 8).toNat].toNat ^^^ (1 * 2 ^ (r.1.tmod 8).toNat % 256))) ≠ (frameJ 0 (b.take 200))[((((encU (coreJ 0 (b.take 200)).length).length : Nat) : Int) + r.1 / 8).toNat] := flip_ne (by omega)
  have hlt2 := flip_lt (a := (frameJ 0 (b.take 200))[((((encU (coreJ 0 (b.take 200)).length).length : Nat) : Int) + r.1 / 8).toNat]) (s := (r.1.tmod 8).toNat)
  refine RL.openP (fun w hw => own_at (i := 0) (M := _ :: M) rfl (bytesV_ne (i := ((((encU (coreJ 0 (b.take 200)).length).length : Nat) : Int) + r.1 / 8).toNat) hpl) hw) (fun g hga => ?_)
  refine RL.move rfl rfl rfl ?_
  refine RL.move rfl rfl rfl ?_
  refine RL.move rfl rfl rfl ?_
  refine RL.bin rfl rfl rfl (BinV.quo (by omega) (r.1 / 8) (Int.tdiv_eq_ediv_of_nonneg r.2.1) (by omega) (by omega)) rfl ?_
  refine RL.bin rfl rfl rfl (BinV.add _ rfl (by omega) (by omega)) rfl ?_
  refine RL.move rfl rfl rfl ?_
  refine RL.move rfl rfl rfl ?_
  refine RL.move rfl rfl rfl ?_
  refine RL.bin rfl rfl rfl (BinV.quo (by omega) (r.1 / 8) (Int.tdiv_eq_ediv_of_nonneg r.2.1) (by omega) (by omega)) rfl ?_
  refine RL.bin rfl rfl rfl (BinV.add _ rfl (by omega) (by omega)) rfl ?_
  refine RL.indexAddr rfl wn_tl23 wn_tz5 (congrArg (fun a => some (Value.slice a _ _)) hga) rfl (by omega) (by omega) rfl ?_
  refine RL.loadS rfl rfl (own_one (i := 0) rfl hga wn_ts5 (bytesV_at hpl)) rfl ?_
  refine RL.move rfl rfl rfl ?_
  refine RL.bin rfl rfl rfl (BinV.rem (by omega)) rfl ?_
  refine RL.conv rfl rfl (ConvV.iuz wn_ti3 wn_ti66 hm8.1 (by omega)) rfl ?_
  refine RL.bin rfl rfl rfl (BinV.shlB (a := 1) (s := (r.1.tmod 8).toNat) (by omega)) rfl ?_
  refine RL.bin rfl rfl rfl (BinV.xorB (a := (frameJ 0 (b.take 200))[((((encU (coreJ 0 (b.take 200)).length).length : Nat) : Int) + r.1 / 8).toNat].toNat) (b := (1 * 2 ^ (r.1.tmod 8).toNat % 256)) (frameJ 0 (b.take 200))[((((encU (coreJ 0 (b.take 200)).length).length : Nat) : Int) + r.1 / 8).toNat].toNat_lt (Nat.mod_lt _ (by decide))) rfl ?_
  refine RL.indexAddr rfl wn_tl23 wn_tz5 (congrArg (fun a => some (Value.slice a _ _)) hga) rfl (by omega) (by omega) rfl ?_
  refine RL.ofEV rfl rfl (EV.storeO (vs := [B8 ((frameJ 0 (b.take 200))[((((encU (coreJ 0 (b.take 200)).length).length : Nat) : Int) + r.1 / 8).toNat].toNat ^^^ (1 * 2 ^ (r.1.tmod 8).toNat % 256))]) 0 rfl rfl rfl hga wn_tz5 rfl (by rw [bytesV_length]; show 0 + ((((encU (coreJ 0 (b.take 200)).length).length : Nat) : Int) + r.1 / 8).toNat * 1 + 1 ≤ _; omega) rfl) ?_
  have hset : bytesV ((frameJ 0 (b.take 200)).set ((((encU (coreJ 0 (b.take 200)).length).length : Nat) : Int) + r.1 / 8).toNat (UInt8.ofNat ((((frameJ 0 (b.take 200))[((((encU (coreJ 0 (b.take 200)).length).length : Nat) : Int) + r.1 / 8).toNat].toNat ^^^ (1 * 2 ^ (r.1.tmod 8).toNat % 256) : Nat) : Int)).toNat)) = (bytesV (frameJ 0 (b.take 200))).take (0 + ((((encU (coreJ 0 (b.take 200)).length).length : Nat) : Int) + r.1 / 8).toNat * 1) ++ [B8 ((frameJ 0 (b.take 200))[((((encU (coreJ 0 (b.take 200)).length).length : Nat) : Int) + r.1 / 8).toNat].toNat ^^^ (1 * 2 ^ (r.1.tmod 8).toNat % 256))] ++ (bytesV (frameJ 0 (b.take 200))).drop (0 + ((((encU (coreJ 0 (b.take 200)).length).length : Nat) : Int) + r.1 / 8).toNat * 1 + 1) := bytesV_set (by omega) (by omega) hpl
  rw [Int.toNat_natCast] at hset
  revert hset hvne
  generalize (UInt8.ofNat ((frameJ 0 (b.take 200))[((((encU (coreJ 0 (b.take 200)).length).length : Nat) : Int) + r.1 / 8).toNat].toNat ^^^ (1 * 2 ^ (r.1.tmod 8).toNat % 256))) = v
  intro hvne hset
  refine RL.open1 (fun w hw => ⟨hw.ownLen.2, hw⟩) (fun htc => ?_)
  refine RL.weak (fun w hw => by
    have h9 := hw.keepSl
    exact h9) ?_
  refine RL.sub (E' := [(6, .slice f.1 (frameJ 0 (b.take 200)).length f.2), (8, .slice c.1 (coreJ 0 (b.take 200)).length c.2), (12, .slice tn.1 ((frameJ 0 (b.take 200)).set ((((encU (coreJ 0 (b.take 200)).length).length : Nat) : Int) + r.1 / 8).toNat v).length tn.2)]) ⟨rfl, rfl, by rw [List.length_set]; rfl, trivial⟩ ?_
  refine RL.weak (F' := ArrF tn.1 (bytesV ((frameJ 0 (b.take 200)).set ((((encU (coreJ 0 (b.take 200)).length).length : Nat) : Int) + r.1 / 8).toNat v)) :: ArrF c.1 (bytesV (coreJ 0 (b.take 200))) :: ArrF f.1 (bytesV (frameJ 0 (b.take 200))) :: ArrF z.1 (bytesV (b.take 200)) :: F) (fun w hw => by rw [hset]; exact hw) ?_
  have hts : scanJ 0 ((frameJ 0 (b.take 200)).set ((((encU (coreJ 0 (b.take 200)).length).length : Nat) : Int) + r.1 / 8).toNat v) = [] := turned_scan hol hap hpl hvne
  refine RL.nil ?_
  refine NX.seq ?_
  refine TR.seq ?_
  refine TR.region ?_
  refine RL.move rfl rfl rfl ?_
  refine RL.call rfl rfl Try.call16 rfl (scan_spec (b := ((frameJ 0 (b.take 200)).set ((((encU (coreJ 0 (b.take 200)).length).length : Nat) : Int) + r.1 / 8).toNat v)) (by first | exact .head _ | exact .tail _ (.head _) | exact .tail _ (.tail _ (.head _)) | exact .tail _ (.tail _ (.tail _ (.head _))) | exact .tail _ (.tail _ (.tail _ (.tail _ (.head _)))) | exact .tail _ (.tail _ (.tail _ (.tail _ (.tail _ (.head _))))) | exact .tail _ (.tail _ (.tail _ (.tail _ (.tail _ (.tail _ (.head _)))))) | exact .tail _ (.tail _ (.tail _ (.tail _ (.tail _ (.tail _ (.tail _ (.head _))))))) | exact .tail _ (.tail _ (.tail _ (.tail _ (.tail _ (.tail _ (.tail _ (.tail _ (.head _)))))))) | exact .tail _ (.tail _ (.tail _ (.tail _ (.tail _ (.tail _ (.tail _ (.tail _ (.tail _ (.head _))))))))) | exact .tail _ (.tail _ (.tail _ (.tail _ (.tail _ (.tail _ (.tail _ (.tail _ (.tail _ (.tail _ (.head _)))))))))) | exact .tail _ (.tail _ (.tail _ (.tail _ (.tail _ (.tail _ (.tail _ (.tail _ (.tail _ (.tail _ (.tail _ (.head _))))))))))) | exact .tail _ (.tail _ (.tail _ (.tail _ (.tail _ (.tail _ (.tail _ (.tail _ (.tail _ (.tail _ (.tail _ (.tail _ (.head _)))))))))))) | exact .tail _ (.tail _ (.tail _ (.tail _ (.tail _ (.tail _ (.tail _ (.tail _ (.tail _ (.tail _ (.tail _ (.tail _ (.tail _ (.head _))))))))))))) | exact .tail _ (.tail _ (.tail _ (.tail _ (.tail _ (.tail _ (.tail _ (.tail _ (.tail _ (.tail _ (.tail _ (.tail _ (.tail _ (.tail _ (.head _)))))))))))))) | exact .tail _ (.tail _ (.tail _ (.tail _ (.tail _ (.tail _ (.tail _ (.tail _ (.tail _ (.tail _ (.tail _ (.tail _ (.tail _ (.tail _ (.tail _ (.head _))))))))))))))) | exact .tail _ (.tail _ (.tail _ (.tail _ (.tail _ (.tail _ (.tail _ (.tail _ (.tail _ (.tail _ (.tail _ (.tail _ (.tail _ (.tail _ (.tail _ (.tail _ (.head _))))))))))))))))) (by rw [List.length_set]; exact htc) (by rw [List.length_set]; omega)) (fun S1 => ?_)
  refine RL.weak (fun w hw => hw.drop 0 rfl) ?_
  refine RL.move rfl rfl rfl ?_
  refine RL.extract rfl rfl rfl rfl ?_
  refine RL.extract rfl rfl rfl rfl ?_
  refine RL.assign rfl rfl rfl ?_
  refine RL.assign rfl rfl rfl ?_
  refine RL.nil ?_
  refine NX.seq ?_
  refine TR.seq ?_
  refine TR.region ?_
  refine RL.move rfl rfl rfl ?_
  refine RL.call rfl rfl Try.call16 rfl (scan_spec (b := (frameJ 0 (b.take 200))) (by first | exact .head _ | exact .tail _ (.head _) | exact .tail _ (.tail _ (.head _)) | exact .tail _ (.tail _ (.tail _ (.head _))) | exact .tail _ (.tail _ (.tail _ (.tail _ (.head _)))) | exact .tail _ (.tail _ (.tail _ (.tail _ (.tail _ (.head _))))) | exact .tail _ (.tail _ (.tail _ (.tail _ (.tail _ (.tail _ (.head _)))))) | exact .tail _ (.tail _ (.tail _ (.tail _ (.tail _ (.tail _ (.tail _ (.head _))))))) | exact .tail _ (.tail _ (.tail _ (.tail _ (.tail _ (.tail _ (.tail _ (.tail _ (.head _)))))))) | exact .tail _ (.tail _ (.tail _ (.tail _ (.tail _ (.tail _ (.tail _ (.tail _ (.tail _ (.head _))))))))) | exact .tail _ (.tail _ (.tail _ (.tail _ (.tail _ (.tail _ (.tail _ (.tail _ (.tail _ (.tail _ (.head _)))))))))) | exact .tail _ (.tail _ (.tail _ (.tail _ (.tail _ (.tail _ (.tail _ (.tail _ (.tail _ (.tail _ (.tail _ (.head _))))))))))) | exact .tail _ (.tail _ (.tail _ (.tail _ (.tail _ (.tail _ (.tail _ (.tail _ (.tail _ (.tail _ (.tail _ (.tail _ (.head _)))))))))))) | exact .tail _ (.tail _ (.tail _ (.tail _ (.tail _ (.tail _ (.tail _ (.tail _ (.tail _ (.tail _ (.tail _ (.tail _ (.tail _ (.head _))))))))))))) | exact .tail _ (.tail _ (.tail _ (.tail _ (.tail _ (.tail _ (.tail _ (.tail _ (.tail _ (.tail _ (.tail _ (.tail _ (.tail _ (.tail _ (.head _)))))))))))))) | exact .tail _ (.tail _ (.tail _ (.tail _ (.tail _ (.tail _ (.tail _ (.tail _ (.tail _ (.tail _ (.tail _ (.tail _ (.tail _ (.tail _ (.tail _ (.head _))))))))))))))) | exact .tail _ (.tail _ (.tail _ (.tail _ (.tail _ (.tail _ (.tail _ (.tail _ (.tail _ (.tail _ (.tail _ (.tail _ (.tail _ (.tail _ (.tail _ (.tail _ (.head _))))))))))))))))) hfc (by omega)) (fun S2 => ?_)
  refine RL.weak (fun w hw => hw.drop 0 rfl) ?_
  refine RL.move rfl rfl rfl ?_
  refine RL.extract rfl rfl rfl rfl ?_
  refine RL.extract rfl rfl rfl rfl ?_
  refine RL.assign rfl rfl rfl ?_
  refine RL.assign rfl rfl rfl ?_
  refine RL.nil ?_
  refine NX.seq ?_
  refine TR.seq ?_
  refine TR.region ?_
  refine RL.move rfl rfl rfl ?_
  refine RL.call rfl rfl Try.call32 rfl (read_spec (l := (frameJ 0 (b.take 200))) (by first | exact .head _ | exact .tail _ (.head _) | exact .tail _ (.tail _ (.head _)) | exact .tail _ (.tail _ (.tail _ (.head _))) | exact .tail _ (.tail _ (.tail _ (.tail _ (.head _)))) | exact .tail _ (.tail _ (.tail _ (.tail _ (.tail _ (.head _))))) | exact .tail _ (.tail _ (.tail _ (.tail _ (.tail _ (.tail _ (.head _)))))) | exact .tail _ (.tail _ (.tail _ (.tail _ (.tail _ (.tail _ (.tail _ (.head _))))))) | exact .tail _ (.tail _ (.tail _ (.tail _ (.tail _ (.tail _ (.tail _ (.tail _ (.head _)))))))) | exact .tail _ (.tail _ (.tail _ (.tail _ (.tail _ (.tail _ (.tail _ (.tail _ (.tail _ (.head _))))))))) | exact .tail _ (.tail _ (.tail _ (.tail _ (.tail _ (.tail _ (.tail _ (.tail _ (.tail _ (.tail _ (.head _)))))))))) | exact .tail _ (.tail _ (.tail _ (.tail _ (.tail _ (.tail _ (.tail _ (.tail _ (.tail _ (.tail _ (.tail _ (.head _))))))))))) | exact .tail _ (.tail _ (.tail _ (.tail _ (.tail _ (.tail _ (.tail _ (.tail _ (.tail _ (.tail _ (.tail _ (.tail _ (.head _)))))))))))) | exact .tail _ (.tail _ (.tail _ (.tail _ (.tail _ (.tail _ (.tail _ (.tail _ (.tail _ (.tail _ (.tail _ (.tail _ (.tail _ (.head _))))))))))))) | exact .tail _ (.tail _ (.tail _ (.tail _ (.tail _ (.tail _ (.tail _ (.tail _ (.tail _ (.tail _ (.tail _ (.tail _ (.tail _ (.tail _ (.head _)))))))))))))) | exact .tail _ (.tail _ (.tail _ (.tail _ (.tail _ (.tail _ (.tail _ (.tail _ (.tail _ (.tail _ (.tail _ (.tail _ (.tail _ (.tail _ (.tail _ (.head _))))))))))))))) | exact .tail _ (.tail _ (.tail _ (.tail _ (.tail _ (.tail _ (.tail _ (.tail _ (.tail _ (.tail _ (.tail _ (.tail _ (.tail _ (.tail _ (.tail _ (.tail _ (.head _))))))))))))))))) (by omega)) (fun R => ?_)
  refine RL.assign rfl rfl rfl ?_
  refine RL.nil ?_
  refine NX.seq ?_
  refine TR.seq ?_
  refine TR.seq ?_
  refine TR.region ?_
  refine RL.move rfl rfl rfl ?_
  refine RL.bin rfl rfl rfl (BinV.eqlPtrNil wn_tp57) rfl ?_
  refine RL.nil ?_
  refine NX.seq ?_
  refine TR.condF rfl ?_
  refine TR.skip ?_
  refine NX.seq ?_
  refine TR.seq ?_
  refine TR.region ?_
  refine RL.move rfl rfl rfl ?_
  refine RL.call rfl rfl Try.call38 rfl (rRaw_at (.head _) R.2 (by omega) hrd) (fun w0 => ?_)
  refine RL.weak (fun w hw => hw.keepSl) ?_
  refine RL.assign rfl rfl rfl ?_
  refine RL.nil ?_
  refine NX.seq ?_
  refine TR.seq ?_
  refine TR.region ?_
  refine RL.move rfl rfl rfl ?_
  refine RL.call rfl rfl Try.call39 rfl (rUint_at (.tail _ (.head _)) w0.2 hru) (fun u => ?_)
  refine RL.assign rfl rfl rfl ?_
  refine RL.nil ?_
  refine NX.seq ?_
  refine TR.seq ?_
  refine TR.region ?_
  refine RL.move rfl rfl rfl ?_
  refine RL.lenSlice rfl wn_tl27 rfl rfl ?_
  refine RL.bin rfl rfl rfl (BinV.to (d := true) BinV.eql (decide_eq_true (by rw [map_fst_len S1.2.1, hts]; rfl))) rfl ?_
  refine RL.move rfl rfl rfl ?_
  refine RL.move rfl rfl rfl ?_
  refine RL.bin rfl rfl rfl (BinV.to (d := true) BinV.eql (decide_eq_true (by rw [hts]; rfl))) rfl ?_
  refine RL.pickT rfl rfl rfl rfl ?_
  refine RL.move rfl rfl rfl ?_
  refine RL.move rfl rfl rfl ?_
  refine RL.lenSlice rfl wn_tl27 rfl rfl ?_
  refine RL.bin rfl rfl rfl (BinV.to (d := true) BinV.eql (decide_eq_true (by rw [map_fst_len S2.2.1, scan_one (by omega)]; rfl))) rfl ?_
  refine RL.pickT rfl rfl rfl rfl ?_
  refine RL.move rfl rfl rfl ?_
  refine RL.move rfl rfl rfl ?_
  refine RL.move rfl rfl rfl ?_
  refine RL.lenSlice rfl wn_tl23 rfl rfl ?_
  refine RL.bin rfl rfl rfl (BinV.to (d := true) BinV.eql (decide_eq_true (by rw [end_one (by omega)]))) rfl ?_
  refine RL.pickT rfl rfl rfl rfl ?_
  refine RL.move rfl rfl rfl ?_
  refine RL.move rfl rfl rfl ?_
  refine RL.call rfl rfl Try.call35 rfl (rEnd_spec (n := 0) (e := 0)) (fun _ => ?_)
  refine RL.bin rfl rfl rfl (BinV.to (d := true) BinV.eql (decide_eq_true (by simp))) rfl ?_
  refine RL.pickT rfl rfl rfl rfl ?_
  refine RL.move rfl rfl rfl ?_
  refine RL.move rfl rfl rfl ?_
  refine RL.move rfl rfl rfl ?_
  refine RL.call rfl rfl Try.call12 rfl (Ctr.boolT (decide_eq_true rfl) (sameB_spec (xs := (coreJ 0 (b.take 200))) (ys := (coreJ 0 (b.take 200))) (by first | exact .head _ | exact .tail _ (.head _) | exact .tail _ (.tail _ (.head _)) | exact .tail _ (.tail _ (.tail _ (.head _))) | exact .tail _ (.tail _ (.tail _ (.tail _ (.head _)))) | exact .tail _ (.tail _ (.tail _ (.tail _ (.tail _ (.head _))))) | exact .tail _ (.tail _ (.tail _ (.tail _ (.tail _ (.tail _ (.head _)))))) | exact .tail _ (.tail _ (.tail _ (.tail _ (.tail _ (.tail _ (.tail _ (.head _))))))) | exact .tail _ (.tail _ (.tail _ (.tail _ (.tail _ (.tail _ (.tail _ (.tail _ (.head _)))))))) | exact .tail _ (.tail _ (.tail _ (.tail _ (.tail _ (.tail _ (.tail _ (.tail _ (.tail _ (.head _))))))))) | exact .tail _ (.tail _ (.tail _ (.tail _ (.tail _ (.tail _ (.tail _ (.tail _ (.tail _ (.tail _ (.head _)))))))))) | exact .tail _ (.tail _ (.tail _ (.tail _ (.tail _ (.tail _ (.tail _ (.tail _ (.tail _ (.tail _ (.tail _ (.head _))))))))))) | exact .tail _ (.tail _ (.tail _ (.tail _ (.tail _ (.tail _ (.tail _ (.tail _ (.tail _ (.tail _ (.tail _ (.tail _ (.head _)))))))))))) | exact .tail _ (.tail _ (.tail _ (.tail _ (.tail _ (.tail _ (.tail _ (.tail _ (.tail _ (.tail _ (.tail _ (.tail _ (.tail _ (.head _))))))))))))) | exact .tail _ (.tail _ (.tail _ (.tail _ (.tail _ (.tail _ (.tail _ (.tail _ (.tail _ (.tail _ (.tail _ (.tail _ (.tail _ (.tail _ (.head _)))))))))))))) | exact .tail _ (.tail _ (.tail _ (.tail _ (.tail _ (.tail _ (.tail _ (.tail _ (.tail _ (.tail _ (.tail _ (.tail _ (.tail _ (.tail _ (.tail _ (.head _))))))))))))))) | exact .tail _ (.tail _ (.tail _ (.tail _ (.tail _ (.tail _ (.tail _ (.tail _ (.tail _ (.tail _ (.tail _ (.tail _ (.tail _ (.tail _ (.tail _ (.tail _ (.head _))))))))))))))))) (by first | exact .head _ | exact .tail _ (.head _) | exact .tail _ (.tail _ (.head _)) | exact .tail _ (.tail _ (.tail _ (.head _))) | exact .tail _ (.tail _ (.tail _ (.tail _ (.head _)))) | exact .tail _ (.tail _ (.tail _ (.tail _ (.tail _ (.head _))))) | exact .tail _ (.tail _ (.tail _ (.tail _ (.tail _ (.tail _ (.head _)))))) | exact .tail _ (.tail _ (.tail _ (.tail _ (.tail _ (.tail _ (.tail _ (.head _))))))) | exact .tail _ (.tail _ (.tail _ (.tail _ (.tail _ (.tail _ (.tail _ (.tail _ (.head _)))))))) | exact .tail _ (.tail _ (.tail _ (.tail _ (.tail _ (.tail _ (.tail _ (.tail _ (.tail _ (.head _))))))))) | exact .tail _ (.tail _ (.tail _ (.tail _ (.tail _ (.tail _ (.tail _ (.tail _ (.tail _ (.tail _ (.head _)))))))))) | exact .tail _ (.tail _ (.tail _ (.tail _ (.tail _ (.tail _ (.tail _ (.tail _ (.tail _ (.tail _ (.tail _ (.head _))))))))))) | exact .tail _ (.tail _ (.tail _ (.tail _ (.tail _ (.tail _ (.tail _ (.tail _ (.tail _ (.tail _ (.tail _ (.tail _ (.head _)))))))))))) | exact .tail _ (.tail _ (.tail _ (.tail _ (.tail _ (.tail _ (.tail _ (.tail _ (.tail _ (.tail _ (.tail _ (.tail _ (.tail _ (.head _))))))))))))) | exact .tail _ (.tail _ (.tail _ (.tail _ (.tail _ (.tail _ (.tail _ (.tail _ (.tail _ (.tail _ (.tail _ (.tail _ (.tail _ (.tail _ (.head _)))))))))))))) | exact .tail _ (.tail _ (.tail _ (.tail _ (.tail _ (.tail _ (.tail _ (.tail _ (.tail _ (.tail _ (.tail _ (.tail _ (.tail _ (.tail _ (.tail _ (.head _))))))))))))))) | exact .tail _ (.tail _ (.tail _ (.tail _ (.tail _ (.tail _ (.tail _ (.tail _ (.tail _ (.tail _ (.tail _ (.tail _ (.tail _ (.tail _ (.tail _ (.tail _ (.head _))))))))))))))))) (by omega))) (fun _ => ?_)
  refine RL.pickT rfl rfl rfl rfl ?_
  refine RL.move rfl rfl rfl ?_
  refine RL.move rfl rfl rfl ?_
  refine RL.move rfl rfl rfl ?_
  refine RL.call rfl rfl Try.call40 rfl (hBytes_spec (lb := jl) (b := (coreJ 0 (b.take 200))) (by first | exact .head _ | exact .tail _ (.head _) | exact .tail _ (.tail _ (.head _)) | exact .tail _ (.tail _ (.tail _ (.head _))) | exact .tail _ (.tail _ (.tail _ (.tail _ (.head _)))) | exact .tail _ (.tail _ (.tail _ (.tail _ (.tail _ (.head _))))) | exact .tail _ (.tail _ (.tail _ (.tail _ (.tail _ (.tail _ (.head _)))))) | exact .tail _ (.tail _ (.tail _ (.tail _ (.tail _ (.tail _ (.tail _ (.head _))))))) | exact .tail _ (.tail _ (.tail _ (.tail _ (.tail _ (.tail _ (.tail _ (.tail _ (.head _)))))))) | exact .tail _ (.tail _ (.tail _ (.tail _ (.tail _ (.tail _ (.tail _ (.tail _ (.tail _ (.head _))))))))) | exact .tail _ (.tail _ (.tail _ (.tail _ (.tail _ (.tail _ (.tail _ (.tail _ (.tail _ (.tail _ (.head _)))))))))) | exact .tail _ (.tail _ (.tail _ (.tail _ (.tail _ (.tail _ (.tail _ (.tail _ (.tail _ (.tail _ (.tail _ (.head _))))))))))) | exact .tail _ (.tail _ (.tail _ (.tail _ (.tail _ (.tail _ (.tail _ (.tail _ (.tail _ (.tail _ (.tail _ (.tail _ (.head _)))))))))))) | exact .tail _ (.tail _ (.tail _ (.tail _ (.tail _ (.tail _ (.tail _ (.tail _ (.tail _ (.tail _ (.tail _ (.tail _ (.tail _ (.head _))))))))))))) | exact .tail _ (.tail _ (.tail _ (.tail _ (.tail _ (.tail _ (.tail _ (.tail _ (.tail _ (.tail _ (.tail _ (.tail _ (.tail _ (.tail _ (.head _)))))))))))))) | exact .tail _ (.tail _ (.tail _ (.tail _ (.tail _ (.tail _ (.tail _ (.tail _ (.tail _ (.tail _ (.tail _ (.tail _ (.tail _ (.tail _ (.tail _ (.head _))))))))))))))) | exact .tail _ (.tail _ (.tail _ (.tail _ (.tail _ (.tail _ (.tail _ (.tail _ (.tail _ (.tail _ (.tail _ (.tail _ (.tail _ (.tail _ (.tail _ (.tail _ (.head _))))))))))))))))) (by decide) (by omega)) (fun _ => ?_)
  refine RL.bin rfl rfl rfl (BinV.to (d := true) BinV.eql (decide_eq_true rfl)) rfl ?_
  refine RL.pickT rfl rfl rfl rfl ?_
  refine RL.move rfl rfl rfl ?_
  refine RL.call rfl rfl Try.call19 rfl (lives_spec) (fun _ => ?_)
  refine RL.pickT rfl rfl rfl rfl ?_
  refine RL.assign rfl rfl rfl ?_
  refine RL.nil ?_
  refine NX.seq ?_
  refine TR.ret ?_
  exact NX.ret1 () rfl rfl rfl (fun w hw => (hw.drop 0 rfl).facts (fun φ h => .tail _ (.tail _ (.tail _ (.tail _ (.tail _ (.tail _ (.tail _ (.tail _ (.tail _ (.tail _ (h))))))))))))

end Go.Proofs.Ytdlpaojkkekdlaa
