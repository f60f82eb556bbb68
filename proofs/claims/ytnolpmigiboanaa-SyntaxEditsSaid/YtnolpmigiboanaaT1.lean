/- TEST -/
import Derived.Test.YtnolpmigiboanaaOps2
import Derived.Test.YtnolpmigiboanaaRows
namespace Go.Proofs.Ytnolpmigiboanaa
open Go.GL Go.GL.Tree
theorem ta25 : tyAgg Try.prog 25 4 = true := by kernel_rfl
theorem tf25_1 : fieldOff Try.prog 25 1 1 = true := by kernel_rfl
theorem tf25_2 : fieldOff Try.prog 25 2 2 = true := by kernel_rfl
theorem tf25_3 : fieldOff Try.prog 25 3 3 = true := by kernel_rfl
theorem tl23 : tySlice Try.prog 23 25 = true := by kernel_rfl
theorem ts23 : tyScalar Try.prog 23 = true := by kernel_rfl
theorem ts3 : tyScalar Try.prog 3 = true := by kernel_rfl
theorem ts35 : tyScalar Try.prog 35 = true := by kernel_rfl
theorem ts9 : tyScalar Try.prog 9 = true := by kernel_rfl
theorem tstr9 : tyStr Try.prog 9 = true := by kernel_rfl
theorem tz25 : tySize Try.prog 25 4 = true := by kernel_rfl
theorem leaf_spec (i k : Int) (t : List UInt8) (a : Option Addr) (len cap : Nat) (M : List HP) (F : List Fact) : Ctr Try.prog 53 [.agg #[I i, I k, S t, .slice a len cap]] M F Unit (fun _ => .bool (decide (0 ≤ k) && decide (k ≤ 8))) (fun _ => M) (fun _ => F) := by
  refine Ctr.body Try.func53 rfl rfl ?_
  refine TR.seq ?_
  refine TR.region ?_
  refine RL.boxA rfl rfl rfl (fun b1 => ?_)
  refine RL.assign rfl rfl rfl ?_
  refine RL.nil ?_
  refine NX.seq ?_
  refine TR.seq ?_
  refine TR.region ?_
  refine RL.fieldAddr rfl tf25_1 rfl rfl ?_
  refine RL.load1 0 rfl ts3 rfl rfl rfl rfl ?_
  refine RL.bin rfl rfl rfl BinV.geq rfl ?_
  refine RL.move rfl rfl rfl ?_
  refine RL.part (fun h2 => ?_) (fun h2 => ?_)
  · skip
    refine RL.fieldAddr rfl tf25_1 rfl rfl ?_
    refine RL.load1 0 rfl ts3 rfl rfl rfl rfl ?_
    refine RL.bin rfl rfl rfl BinV.leq rfl ?_
    refine RL.pickT rfl rfl rfl rfl ?_
    refine RL.assign rfl rfl rfl ?_
    refine RL.nil ?_
    refine NX.seq ?_
    refine TR.ret ?_
    refine NX.ret1 () rfl rfl ?_ (fun w hw => hw.tail)
    simp [*]
  · skip
    refine RL.skip rfl rfl rfl ?_
    refine RL.skip rfl rfl rfl ?_
    refine RL.skip rfl rfl rfl ?_
    refine RL.pickF rfl rfl rfl rfl ?_
    refine RL.assign rfl rfl rfl ?_
    refine RL.nil ?_
    refine NX.seq ?_
    refine TR.ret ?_
    refine NX.ret1 () rfl rfl ?_ (fun w hw => hw.tail)
    simp [*]

theorem all_spec (cs : List Value) (M : List HP) (F : List Fact) : Ctr Try.prog 52 [.agg cs.toArray] M F Nat (fun b => .func (.func 63) #[] #[.pointer (some ⟨b, 0, none⟩)]) (fun _ => M) (fun b => CellsF b 0 cs :: F) := by
  refine Ctr.body Try.func52 rfl rfl ?_
  refine TR.seq ?_
  refine TR.region ?_
  refine RL.boxA rfl rfl rfl (fun b1 => ?_)
  refine RL.assign rfl rfl rfl ?_
  refine RL.nil ?_
  refine NX.seq ?_
  refine TR.seq ?_
  refine TR.region ?_
  refine RL.makeFunc rfl rfl rfl rfl ?_
  refine RL.assign rfl rfl rfl ?_
  refine RL.nil ?_
  refine NX.seq ?_
  refine TR.ret ?_
  exact NX.ret1 b1 rfl rfl rfl (fun w hw => hw.keep)

def nodeEnc : Tree → List Value → Prop := fun t args => ∃ a len cap, args = [nodeV t a len cap]
theorem nodeEnc_len (x : Tree) (args : List Value) (h : nodeEnc x args) : args.length = 1 := by obtain ⟨a, len, cap, rfl⟩ := h; rfl

theorem kid_facts {t : Tree} {k : Nat} (h : k < t.kids.length) : SizeOf.sizeOf t.kids[k] < SizeOf.sizeOf t ∧ preAll t.kids = preAll (t.kids.take k) ++ (t.kids[k].pre ++ preAll (t.kids.drop (k + 1))) := by
  refine ⟨Tree.kid_lt (List.getElem_mem h), ?_⟩
  conv => lhs; rw [← List.take_append_drop k t.kids, List.drop_eq_getElem_cons h]
  rw [Tree.preAll_append, preAll]
theorem hkid_next {t : Tree} {k : Nat} (h : k < t.kids.length) : preAll (t.kids.take (k + 1)) = preAll (t.kids.take k) ++ t.kids[k].pre := by
  rw [List.take_succ_eq_append_getElem h, Tree.preAll_append]
  simp [preAll]

theorem visit_spec {l : Nat} {J : List Tree → List HP} {F0 : List Fact} {xs : List Tree} {by_ bv : Nat}
    (hY : ∀ pre x suf args, xs = pre ++ x :: suf → nodeEnc x args → ∀ Mi G, (∀ φ, φ ∈ F0 → φ ∈ G) → YSpec Try.prog l args (J pre ++ Mi) G (J (pre ++ [x]) ++ Mi)) {n : Nat} :
    ∀ {t : Tree} {a : Option Addr} {len cap : Nat}, SizeOf.sizeOf t < n → ∀ (pre suf : List Tree), xs = pre ++ t.pre ++ suf → ∀ (Mi : List HP) (G : List Fact), (∀ φ, φ ∈ F0 → φ ∈ G) → TreeF t (nodeV t a len cap) ∈ G → CellsF by_ 0 [.func (.yield l) #[] #[]] ∈ G → CellsF bv 0 [.func (.func 64) #[] #[.pointer (some ⟨by_, 0, none⟩), .pointer (some ⟨bv, 0, none⟩)]] ∈ G →
    Ctr Try.prog 64 [nodeV t a len cap, .pointer (some ⟨by_, 0, none⟩), .pointer (some ⟨bv, 0, none⟩)] (J pre ++ Mi) G Unit (fun _ => .bool true) (fun _ => J (pre ++ t.pre) ++ Mi) (fun _ => G) := by
  induction n with
  | zero => intro t _ _ _ h; omega
  | succ n visit_spec =>
  intro t a len cap hn pre suf hxs Mi G hG ht hy1 hv1
  refine Ctr.body Try.func64 rfl rfl ?_
  refine TR.seq ?_
  refine TR.region ?_
  refine RL.boxA rfl rfl rfl (fun b1 => ?_)
  refine RL.assign rfl rfl rfl ?_
  refine RL.nil ?_
  refine NX.seq ?_
  refine TR.seq ?_
  refine TR.seq ?_
  refine TR.region ?_
  refine RL.loadF rfl rfl (fun w K hF => run_loadCell1 (j := 0) (hF _ hy1) ts35 rfl) rfl ?_
  refine RL.loadA 0 rfl rfl rfl ta25 rfl ?_
  refine RL.callYield rfl rfl rfl rfl (YSpec.frame [Box b1 25 _] (hY pre t (preAll t.kids ++ suf) _ (by rw [hxs, Tree.pre_eq]; simp) ⟨a, len, cap, rfl⟩ _ _ hG)) ?_
  refine RL.not rfl rfl rfl ?_
  refine RL.nil ?_
  refine NX.seq ?_
  refine TR.condF rfl ?_
  refine TR.skip ?_
  refine NX.seq ?_
  refine TR.seq ?_
  refine TR.seq ?_
  refine TR.region ?_
  refine RL.open1 (open_node ht) (fun hlen => ?_)
  have hy2 := List.mem_cons_of_mem (KidsOF a t.kids) hy1
  have hv2 := List.mem_cons_of_mem (KidsOF a t.kids) hv1
  refine RL.fieldAddr rfl tf25_3 rfl rfl ?_
  refine RL.load1 0 rfl ts23 rfl rfl rfl rfl ?_
  refine RL.lenSlice rfl tl23 rfl rfl ?_
  refine RL.move rfl rfl rfl ?_
  refine RL.nil ?_
  refine NX.seq ?_
  refine TR.block ?_
  refine TR.loopP (ι := Nat) (fun k => k ≤ len) (fun k => [(1, .pointer (some ⟨by_, 0, none⟩)), (2, .pointer (some ⟨bv, 0, none⟩)), (12, .slice a len cap), (13, I len), (14, I k)]) (fun k => Box b1 25 (nodeC t a len cap) :: (J (pre ++ t :: preAll (t.kids.take k)) ++ Mi)) (fun _ => KidsOF a t.kids :: G) (fun k => len - k) 0 (Nat.zero_le _) ⟨rfl, rfl, rfl, rfl, rfl, trivial⟩ (fun w hw => by simpa [preAll] using hw) (fun k hk => ?_)
  refine TR.seq ?_
  refine TR.region ?_
  refine RL.bin rfl rfl rfl BinV.lss rfl ?_
  refine RL.nil ?_
  refine NX.seq ?_
  refine TR.seq ?_
  refine TR.cond rfl (fun h2 => ?_) (fun h2 => ?_)
  · skip
    refine TR.skip ?_
    refine NX.seq ?_
    refine TR.seq ?_
    refine TR.block ?_
    refine TR.seq ?_
    refine TR.region ?_
    have hk1 : (k : Int) < len := by simpa using h2
    have hk2 : k < t.kids.length := by omega
    refine RL.openP (open_kid (.head _) (List.getElem?_eq_getElem hk2)) (fun x hx => ?_)
    subst hx
    have hkid := kid_facts hk2
    have hG2 : ∀ φ, φ ∈ F0 → φ ∈ CellsF x.b (x.off + k * 4) (nodeC t.kids[k] x.a x.len x.cap) :: TreeF t.kids[k] (nodeV t.kids[k] x.a x.len x.cap) :: KidsOF (some ⟨x.b, x.off, none⟩) t.kids :: G := fun φ h => List.mem_cons_of_mem _ (List.mem_cons_of_mem _ (List.mem_cons_of_mem _ (hG φ h)))
    have hy3 : CellsF by_ 0 [.func (.yield l) #[] #[]] ∈ CellsF x.b (x.off + k * 4) (nodeC t.kids[k] x.a x.len x.cap) :: TreeF t.kids[k] (nodeV t.kids[k] x.a x.len x.cap) :: KidsOF (some ⟨x.b, x.off, none⟩) t.kids :: G := List.mem_cons_of_mem _ (List.mem_cons_of_mem _ hy2)
    have hv3 : CellsF bv 0 [.func (.func 64) #[] #[.pointer (some ⟨by_, 0, none⟩), .pointer (some ⟨bv, 0, none⟩)]] ∈ CellsF x.b (x.off + k * 4) (nodeC t.kids[k] x.a x.len x.cap) :: TreeF t.kids[k] (nodeV t.kids[k] x.a x.len x.cap) :: KidsOF (some ⟨x.b, x.off, none⟩) t.kids :: G := List.mem_cons_of_mem _ (List.mem_cons_of_mem _ hv2)
    refine RL.indexAddr rfl tl23 tz25 rfl rfl (by omega) (by omega) rfl ?_
    refine RL.loadF rfl rfl (fun w K hF => run_loadCellsAt (hF _ (.head _)) ta25) rfl ?_
    refine RL.allocA rfl (Try.zeroValue25) rfl (fun b3 => ?_)
    refine RL.storeA 0 rfl rfl rfl rfl tz25 rfl rfl ?_
    refine RL.nil ?_
    refine NX.seq ?_
    refine TR.seq ?_
    refine TR.region ?_
    refine RL.loadF rfl rfl (fun w K hF => run_loadCell1 (j := 0) (hF _ hv3) ts35 rfl) rfl ?_
    refine RL.loadA 0 rfl rfl rfl ta25 rfl ?_
    refine RL.callV (fst := []) (cap := [.pointer (some ⟨by_, 0, none⟩), .pointer (some ⟨bv, 0, none⟩)]) rfl rfl rfl Try.call64 rfl (Ctr.frame [Box b3 25 _, Box b1 25 _] (visit_spec (by have := hkid.1; omega) (pre ++ t :: preAll (t.kids.take k)) (preAll (t.kids.drop (k + 1)) ++ suf) (by rw [hxs, Tree.pre_eq, hkid.2]; simp) _ _ hG2 (.tail _ (.head _)) hy3 hv3)) (fun _ => ?_)
    refine RL.not rfl rfl rfl ?_
    refine RL.nil ?_
    refine NX.seq ?_
    refine TR.condF rfl ?_
    refine TR.skip ?_
    refine NX.off ?_
    refine NX.seq ?_
    refine TR.region ?_
    refine RL.bin rfl rfl rfl (BinV.add _ rfl (by omega) (by omega)) rfl ?_
    refine RL.move rfl rfl rfl ?_
    refine RL.nil ?_
    refine NX.roundP (k + 1) (by omega) (by omega) ⟨rfl, rfl, rfl, rfl, rfl, trivial⟩ (fun w hw => ?_)
    have h9 := (hw.drop 0 rfl).facts (F' := KidsOF (some ⟨x.b, x.off, none⟩) t.kids :: G) (fun φ h => List.mem_cons_of_mem _ (List.mem_cons_of_mem _ h))
    rw [hkid_next hk2]
    exact (by simpa using h9)
  · skip
    refine TR.exit ?_
    refine NX.exitThen ?_
    refine NX.exitThen ?_
    refine NX.exitHere ?_
    refine NX.seq ?_
    refine TR.seq ?_
    refine TR.region ?_
    refine RL.assign rfl rfl rfl ?_
    refine RL.nil ?_
    refine NX.seq ?_
    refine TR.ret ?_
    refine NX.ret1 () rfl rfl rfl (fun w hw => ?_)
    have h7 : ¬ (k : Int) < len := by simpa using h2
    have h8 : k = t.kids.length := by omega
    have h9 := (hw.drop 0 rfl).facts (F' := G) (fun φ h => List.mem_cons_of_mem _ h)
    subst h8
    rw [Tree.pre_eq]
    simpa using h9

theorem all_iter {t : Tree} {a : Option Addr} {len cap b : Nat} {F : List Fact} (ht : TreeF t (nodeV t a len cap) ∈ F) (hb : CellsF b 0 (nodeC t a len cap) ∈ F) : IterC Try.prog 63 [.pointer (some ⟨b, 0, none⟩)] nodeEnc t.pre F := by
  intro l J hY Mi G hG
  refine Ctr.body Try.func63 rfl rfl ?_
  refine TR.seq ?_
  refine TR.region ?_
  refine RL.box1 rfl rfl rfl rfl (fun b1 => ?_)
  refine RL.nil ?_
  refine NX.seq ?_
  refine TR.seq ?_
  refine TR.region ?_
  refine RL.alloc1 rfl (Try.zeroValue35) rfl rfl (fun b2 => ?_)
  refine RL.nil ?_
  refine NX.seq ?_
  refine TR.seq ?_
  refine TR.region ?_
  refine RL.makeFunc rfl rfl rfl rfl ?_
  refine RL.store1 0 rfl ts35 rfl rfl rfl rfl rfl ?_
  refine RL.nil ?_
  refine NX.seq ?_
  refine TR.region ?_
  refine RL.load1 0 rfl ts35 rfl rfl rfl rfl ?_
  refine RL.loadF rfl rfl (fun w K hF => run_loadCellsAt (hF _ (hG _ hb)) ta25) rfl ?_
  refine RL.weak (fun w hw => hw.keep.keep) ?_
  refine RL.callV (fst := []) (cap := [.pointer (some ⟨b1, 0, none⟩), .pointer (some ⟨b2, 0, none⟩)]) rfl rfl rfl Try.call64 rfl (visit_spec hY (n := SizeOf.sizeOf t + 1) (by omega) [] [] (by simp) Mi _ (fun φ h => .tail _ (.tail _ (hG φ h))) (.tail _ (.tail _ (hG _ ht))) (.head _) (.tail _ (.head _))) (fun _ => ?_)
  refine RL.nil ?_
  exact NX.end0 () rfl rfl (fun w hw => hw.facts (fun φ h => .tail _ (.tail _ h)))

theorem width_spec {t : Tree} {a : Option Addr} {len cap : Nat} {M : List HP} {F : List Fact} (ht : TreeF t (nodeV t a len cap) ∈ F) (hw1 : t.width ≤ 4611686018427387904) : Ctr Try.prog 23 [nodeV t a len cap] M F Unit (fun _ => I t.width) (fun _ => M) (fun _ => F) := by
  refine Ctr.bodyM Try.func23 rfl rfl ?_
  refine TR.seq ?_
  refine TR.region ?_
  refine RL.boxA rfl rfl rfl (fun b1 => ?_)
  refine RL.assign rfl rfl rfl ?_
  refine RL.nil ?_
  refine NX.seq ?_
  refine TR.seq ?_
  refine TR.region ?_
  refine RL.alloc1 rfl (Try.zeroValue3) rfl rfl (fun b2 => ?_)
  refine RL.store1 0 rfl ts3 rfl rfl rfl rfl rfl ?_
  refine RL.nil ?_
  refine NX.seq ?_
  refine TR.seq ?_
  refine TR.seq ?_
  refine TR.region ?_
  refine RL.loadA 1 rfl rfl rfl ta25 rfl ?_
  refine RL.call rfl rfl Try.call52 rfl (all_spec (nodeC t a len cap) _ _) (fun bc => ?_)
  refine RL.nil ?_
  refine NX.seq ?_
  refine TR.block ?_
  refine TR.rangeFunc (κ := Nat) (xs := t.pre) rfl Try.call63 (by simp) nodeEnc_len (all_iter (.tail _ ht) (.head _)) (fun pre => [Box b2 3 [I (textOf pre).length]]) (Box b1 25 (nodeC t a len cap) :: M) (fun w hw => hw) (fun pre x args b => [(3, .pointer (some ⟨b2, 0, none⟩)), (4, .pointer (some ⟨b, 0, none⟩))]) (fun pre x args b => [Box b 25 (argCells args), Box b2 3 [I (textOf pre).length]]) ?as0 ?bd0 ?ki0
  case as0 =>
    intro l pre x suf args hx he Mi G hG
    obtain ⟨a2, len2, cap2, rfl⟩ := he
    refine TR.region ?_
    refine RL.allocA rfl (Try.zeroValue25) rfl (fun b3 => ?_)
    refine RL.storeA 0 rfl rfl rfl rfl tz25 rfl rfl ?_
    refine RL.nil ?_
    exact NX.meet b3 ⟨rfl, rfl, trivial⟩ (fun w hw => hw)
  case bd0 =>
    intro l pre x suf args i hx he Mi G hG
    obtain ⟨a2, len2, cap2, rfl⟩ := he
    refine TR.block ?_
    refine TR.seq ?_
    refine TR.region ?_
    refine RL.loadA 0 rfl rfl rfl ta25 rfl ?_
    refine RL.call rfl rfl Try.call53 rfl (leaf_spec x.id x.kind x.txt a2 len2 cap2 _ _) (fun _ => ?_)
    refine RL.nil ?_
    refine NX.seq ?_
    refine TR.cond rfl (fun h4 => ?_) (fun h4 => ?_)
    · skip
      have hp := textOf_parts hx
      rw [leafText_T h4] at hp
      unfold Tree.width Tree.text at hw1
      refine TR.region ?_
      refine RL.load1 1 rfl ts3 rfl rfl rfl rfl ?_
      refine RL.fieldAddr rfl tf25_2 rfl rfl ?_
      refine RL.load1 0 rfl ts9 rfl rfl rfl rfl ?_
      refine RL.lenStr rfl tstr9 rfl rfl ?_
      refine RL.bin rfl rfl rfl (BinV.add _ rfl (by omega) (by omega)) rfl ?_
      refine RL.store1 1 rfl ts3 rfl rfl rfl rfl rfl ?_
      refine RL.nil ?_
      refine NX.off ?_
      exact fun a w _ hw => by
        have h9 := hw.drop 0 rfl
        show St w (Box b2 3 [I ((textOf (pre ++ [x])).length : Nat)] :: Mi) G
        have e : (((textOf (pre ++ [x])).length : Nat) : Int) = (textOf pre).length + x.txt.length := by rw [textOf_snoc, leafText_T h4]; simp
        rw [e]
        exact h9
    · skip
      refine TR.skip ?_
      refine NX.off ?_
      exact fun a w _ hw => by
        have h9 := hw.drop 0 rfl
        show St w (Box b2 3 [I ((textOf (pre ++ [x])).length : Nat)] :: Mi) G
        rw [textOf_snoc, leafText_F h4, List.append_nil]
        exact h9
  case ki0 =>
    intro D
    refine NX.off ?_
    refine NX.seq ?_
    refine TR.seq ?_
    refine TR.region ?_
    refine RL.load1 1 rfl ts3 rfl rfl rfl rfl ?_
    refine RL.assign rfl rfl rfl ?_
    refine RL.nil ?_
    refine NX.seq ?_
    refine TR.ret ?_
    refine NX.retM 0 () rfl rfl rfl rfl (fun w hw => (hw.tail.tail).facts (fun φ h => .tail _ h))

theorem count_spec {t : Tree} {a : Option Addr} {len cap : Nat} {M : List HP} {F : List Fact} (ht : TreeF t (nodeV t a len cap) ∈ F) (hw1 : t.pre.length ≤ 4611686018427387904) : Ctr Try.prog 44 [nodeV t a len cap] M F Unit (fun _ => I t.pre.length) (fun _ => M) (fun _ => F) := by
  refine Ctr.bodyM Try.func44 rfl rfl ?_
  refine TR.seq ?_
  refine TR.region ?_
  refine RL.boxA rfl rfl rfl (fun b1 => ?_)
  refine RL.assign rfl rfl rfl ?_
  refine RL.nil ?_
  refine NX.seq ?_
  refine TR.seq ?_
  refine TR.region ?_
  refine RL.alloc1 rfl (Try.zeroValue3) rfl rfl (fun b2 => ?_)
  refine RL.store1 0 rfl ts3 rfl rfl rfl rfl rfl ?_
  refine RL.nil ?_
  refine NX.seq ?_
  refine TR.seq ?_
  refine TR.seq ?_
  refine TR.region ?_
  refine RL.loadA 1 rfl rfl rfl ta25 rfl ?_
  refine RL.call rfl rfl Try.call52 rfl (all_spec (nodeC t a len cap) _ _) (fun bc => ?_)
  refine RL.nil ?_
  refine NX.seq ?_
  refine TR.block ?_
  refine TR.rangeFunc (κ := Unit) (xs := t.pre) rfl Try.call63 (by simp) nodeEnc_len (all_iter (.tail _ ht) (.head _)) (fun pre => [Box b2 3 [I pre.length]]) (Box b1 25 (nodeC t a len cap) :: M) (fun w hw => hw) (fun pre x args b => [(3, .pointer (some ⟨b2, 0, none⟩))]) (fun pre x args b => [Box b2 3 [I pre.length]]) ?as0 ?bd0 ?ki0
  case as0 =>
    intro l pre x suf args hx he Mi G hG
    obtain ⟨a2, len2, cap2, rfl⟩ := he
    refine TR.skip ?_
    exact NX.meet () ⟨rfl, trivial⟩ (fun w hw => hw)
  case bd0 =>
    intro l pre x suf args i hx he Mi G hG
    obtain ⟨a2, len2, cap2, rfl⟩ := he
    have hp : t.pre.length = pre.length + (suf.length + 1) := by rw [hx]; simp
    refine TR.block ?_
    refine TR.region ?_
    refine RL.load1 0 rfl ts3 rfl rfl rfl rfl ?_
    refine RL.bin rfl rfl rfl (BinV.add _ rfl (by omega) (by omega)) rfl ?_
    refine RL.store1 0 rfl ts3 rfl rfl rfl rfl rfl ?_
    refine RL.nil ?_
    refine NX.off ?_
    exact fun a w _ hw => by
      show St w (Box b2 3 [I ((pre ++ [x]).length : Nat)] :: Mi) G
      rw [List.length_append]
      exact hw
  case ki0 =>
    intro D
    refine NX.off ?_
    refine NX.seq ?_
    refine TR.seq ?_
    refine TR.region ?_
    refine RL.load1 1 rfl ts3 rfl rfl rfl rfl ?_
    refine RL.assign rfl rfl rfl ?_
    refine RL.nil ?_
    refine NX.seq ?_
    refine TR.ret ?_
    refine NX.retM 0 () rfl rfl rfl rfl (fun w hw => (hw.tail.tail).facts (fun φ h => .tail _ h))

end Go.Proofs.Ytnolpmigiboanaa
