/- Lemmas and walks for the proof of FreshJ: texts one behind the other. No condition. -/
import Derived.WideLaws
import Derived.LaidEqlPtr
import Derived.Test.YthefimaaeilefaaChecked
import Derived.Test.YthefimaaeilefaaPfra
set_option linter.unusedVariables false
set_option linter.unusedSimpArgs false
namespace Go.GL
set_option linter.unusedVariables false
theorem okOf_set {qs : List (Ky × Qy)} {k j : Ky} {q : Qy} (h : q.ok = true) : okOf (aSet qs k q) j = if k = j then some q else okOf qs j := by
  unfold okOf
  rw [aGet_set]
  by_cases e : k = j
  · rw [if_pos e, if_pos e]; simp [h]
  · rw [if_neg e, if_neg e]
theorem okOf_get {qs : List (Ky × Qy)} {k : Ky} {q : Qy} (h : okOf qs k = some q) : aGet qs k = some q ∧ q.ok = true := by
  unfold okOf at h
  cases hg : aGet qs k with
  | none => rw [hg] at h; cases h
  | some q' =>
    rw [hg] at h
    simp only at h
    split at h
    · rename_i hok; cases h; exact ⟨rfl, hok⟩
    · cases h
theorem okOf_of {qs : List (Ky × Qy)} {k : Ky} {q : Qy} (h : aGet qs k = some q) (hok : q.ok = true) : okOf qs k = some q := by
  unfold okOf; rw [h]; simp [hok]
theorem Asg.same {rule : Ky → Ru} {inp : Ky → Option (List UInt8)} {Q Q' : Ky → Option Qy} (h : Asg rule inp Q) (hs : ∀ k, (Q k = none ∧ Q' k = none) ∨ ∃ q q', Q k = some q ∧ Q' k = some q' ∧ q'.own = q.own ∧ q'.tr = q.tr ∧ q'.cyc = q.cyc) : Asg rule inp Q' := by
  have back : ∀ k q', Q' k = some q' → ∃ q, Q k = some q ∧ q'.own = q.own ∧ q'.tr = q.tr ∧ q'.cyc = q.cyc := by
    intro k q' hq
    rcases hs k with ⟨_, h2⟩ | ⟨q, q2, h1, h2, h3⟩
    · rw [hq] at h2; cases h2
    · rw [hq] at h2; cases h2; exact ⟨q, h1, h3⟩
  have isS : ∀ k, (Q k).isSome = (Q' k).isSome := by
    intro k
    rcases hs k with ⟨h1, h2⟩ | ⟨q, q2, h1, h2, h3⟩ <;> rw [h1, h2] <;> rfl
  have ed : ∀ a b, EdQ Q a b ↔ EdQ Q' a b := by
    intro a b
    constructor
    · rintro ⟨q, h1, h2, h3⟩
      rcases hs a with ⟨g1, _⟩ | ⟨q1, q2, g1, g2, _, g3, _⟩
      · rw [h1] at g1; cases g1
      · rw [h1] at g1; cases g1; exact ⟨q2, g2, by rw [g3]; exact h2, by rw [← isS]; exact h3⟩
    · rintro ⟨q, h1, h2, h3⟩
      obtain ⟨q1, g1, _, g3, _⟩ := back a q h1
      exact ⟨q1, g1, by rw [← g3]; exact h2, by rw [isS]; exact h3⟩
  refine ⟨fun k q hq => ?_, fun k q hq => ?_, fun k q hq p hp => ?_, fun k q hq => ?_⟩
  · obtain ⟨q1, g1, _⟩ := back k q hq; exact h.noin k q1 g1
  · obtain ⟨q1, g1, g2, g3, _⟩ := back k q hq; rw [g2, g3]; exact h.fit k q1 g1
  · obtain ⟨q1, g1, g2, g3, _⟩ := back k q hq
    have := h.ans k q1 g1 p (by rw [← g3]; exact hp)
    unfold AnsOf at this ⊢
    cases hi : aGet ([] : List (Ky × Nat)) p.1 with
    | some _ => cases hi
    | none =>
      cases hx : inp p.1 with
      | some s => rw [hx] at this; exact this
      | none =>
        rw [hx] at this
        simp only at this ⊢
        rcases hs p.1 with ⟨a1, a2⟩ | ⟨a, b, a1, a2, a3, a4, a5⟩
        · rw [a1] at this; cases this
        · rw [a1] at this
          rw [a2, ← this]
          simp only [Option.map_some]
          unfold Qy.ans
          rw [a3, a5]
  · obtain ⟨q1, g1, _, _, g4⟩ := back k q hq
    rw [g4, h.cyc k q1 g1]
    exact ⟨fun hp => hp.mono fun a b e => (ed a b).1 e, fun hp => hp.mono fun a b e => (ed a b).2 e⟩
theorem touch_ok {rule : Ky → Ru} {U : List Ky} {e : En} {k : Ky} {q : Qy} (h : QInv rule U e) (hq : okOf e.qs k = some q) : QInv rule U (touch e k q) ∧ Ext e (touch e k q) ∧ ∀ j, okOf (touch e k q).qs j = none ↔ okOf e.qs j = none := by
  obtain ⟨h1, h2⟩ := okOf_get hq
  have hok : ({ q with used := e.gets } : Qy).ok = true := h2
  have hget : ∀ j, okOf (touch e k q).qs j = if k = j then some { q with used := e.gets } else okOf e.qs j := fun j => okOf_set hok
  refine ⟨⟨aSet_nodup h.nd, fun j x hx => ?_, h.asg.same fun j => ?_⟩, ⟨rfl, rfl, fun j x hx => ?_, fun j hj => ?_⟩, fun j => ?_⟩
  · have hx : aGet (aSet e.qs k { q with used := e.gets }) j = some x := hx
    rw [aGet_set] at hx
    by_cases e1 : k = j
    · rw [if_pos e1] at hx; cases hx; subst e1; exact h.old k q h1
    · rw [if_neg e1] at hx; exact h.old j x hx
  · rw [hget]
    by_cases e1 : k = j
    · rw [if_pos e1]; subst e1; exact .inr ⟨q, _, hq, rfl, rfl, rfl, rfl⟩
    · rw [if_neg e1]
      cases hj : okOf e.qs j with
      | none => exact .inl ⟨rfl, rfl⟩
      | some x => exact .inr ⟨x, x, rfl, rfl, rfl, rfl, rfl⟩
  · rw [hget]
    by_cases e1 : k = j
    · rw [if_pos e1]; subst e1; rw [hq] at hx; cases hx; exact ⟨_, rfl, rfl, rfl, rfl⟩
    · rw [if_neg e1]; exact ⟨x, hx, rfl, rfl, rfl⟩
  · rw [hget] at hj
    by_cases e1 : k = j
    · rw [if_pos e1] at hj; cases hj
    · show aGet (aSet e.qs k _) j = _
      rw [aGet_set, if_neg e1]
  · rw [hget]
    by_cases e1 : k = j
    · rw [if_pos e1]; subst e1; rw [hq]; simp
    · rw [if_neg e1]
theorem putAll_get {gets : Int} {c : Bool} : ∀ {grp : List Fr} {qs : List (Ky × Qy)}, (grp.map Fr.key).Nodup → (∀ f, f ∈ grp → aGet (putAll gets c grp qs) f.key = some (toQ gets (c || f.self) f)) ∧ (∀ k, (∀ f, f ∈ grp → f.key ≠ k) → aGet (putAll gets c grp qs) k = aGet qs k) ∧ ((qs.map Prod.fst).Nodup → ((putAll gets c grp qs).map Prod.fst).Nodup)
  | [], qs, _ => ⟨fun f hf => absurd hf (by simp), fun _ _ => rfl, fun h => h⟩
  | a :: l, qs, hn => by
    rw [List.map_cons, List.nodup_cons] at hn
    obtain ⟨h1, h2, h3⟩ := putAll_get (gets := gets) (c := c) (grp := l) (qs := aSet qs a.key (toQ gets (c || a.self) a)) hn.2
    refine ⟨fun f hf => ?_, fun k hk => ?_, fun hq => h3 (aSet_nodup hq)⟩
    · rcases List.mem_cons.1 hf with rfl | hf
      · have := h2 f.key fun f' hf' e => hn.1 (by rw [← e]; exact List.mem_map_of_mem (f := Fr.key) hf')
        show aGet (putAll gets c l (aSet qs f.key _)) f.key = _
        rw [this, aGet_set, if_pos rfl]
      · exact h1 f hf
    · have := h2 k fun f hf => hk f (.tail _ hf)
      show aGet (putAll gets c l (aSet qs a.key _)) k = _
      rw [this, aGet_set, if_neg (hk a (.head _))]
theorem get_drop {α : Type} {l : List α} {n : Nat} {x : α} : x ∈ l.drop n ↔ ∃ i, n ≤ i ∧ l[i]? = some x := by
  constructor
  · intro h
    obtain ⟨i, hi, he⟩ := List.getElem_of_mem h
    refine ⟨n + i, by omega, ?_⟩
    rw [← he, List.getElem_drop, List.getElem?_eq_getElem]
  · rintro ⟨i, hi, he⟩
    have : (l.drop n)[i - n]? = some x := by rw [List.getElem?_drop, show n + (i - n) = i from by omega]; exact he
    exact List.mem_of_getElem? this
theorem key_inj {l : List Fr} (hn : (l.map Fr.key).Nodup) {i j : Nat} {f f' : Fr} (h1 : l[i]? = some f) (h2 : l[j]? = some f') (he : f.key = f'.key) : i = j := by
  have a1 : (l.map Fr.key)[i]? = some f.key := by rw [List.getElem?_map, h1]; rfl
  have a2 : (l.map Fr.key)[j]? = some f.key := by rw [List.getElem?_map, h2, he]; rfl
  exact (List.getElem?_inj (List.getElem?_eq_some_iff.1 a1).1 hn).1 (a1.trans a2.symm)
theorem settle_ok {rule : Ky → Ru} {U : List Ky} {e : En} {g : List Tr} {own : Nat} {fo : Fr} {to : Tr} (hG : Gl rule U e g) (hS : Seg rule e g own) (hfo : e.st[own]? = some fo) (hto : g[own]? = some to) (hd : (∀ p, p ∈ to ↔ p ∈ fo.tr) ∧ Fits (rule fo.key) [] fo.tr fo.own) (hlow : ¬ fo.low < own) :
    QInv rule U (settle own e).2 ∧ Ext e (settle own e).2 ∧ (settle own e).2.st = e.st.take own ∧ (∃ q, okOf (settle own e).2.qs fo.key = some q ∧ (settle own e).1 = q.ans ∧ q.tr = fo.tr) ∧
      (∀ k, (∀ i f, own ≤ i → e.st[i]? = some f → f.key ≠ k) → okOf (settle own e).2.qs k = okOf e.qs k) ∧ ∀ i f, own ≤ i → e.st[i]? = some f → ∃ q, okOf (settle own e).2.qs f.key = some q ∧ q.tr = f.tr ∧ q.own = f.own := by
  have hlo : fo.low = own := by have := (hG.low own fo hfo).1; omega
  obtain ⟨grp, hgrp⟩ : ∃ grp, grp = e.st.drop own := ⟨_, rfl⟩
  have hmem : ∀ f, f ∈ grp ↔ ∃ i, own ≤ i ∧ e.st[i]? = some f := fun f => by rw [hgrp]; exact get_drop
  have hnd : (grp.map Fr.key).Nodup := by rw [hgrp, List.map_drop]; exact hG.nd.sublist (List.drop_sublist _ _)
  obtain ⟨c, hc⟩ : ∃ c, c = decide (1 < grp.length) := ⟨_, rfl⟩
  obtain ⟨qs', hqs⟩ : ∃ q, q = putAll e.gets c grp e.qs := ⟨_, rfl⟩
  obtain ⟨p1, p2, p3⟩ := putAll_get (gets := e.gets) (c := c) (grp := grp) (qs := e.qs) hnd
  rw [← hqs] at p1 p2 p3
  have e2 : (settle own e).2 = { e with qs := qs', st := e.st.take own } := by unfold settle; rw [hqs, hc, hgrp]
  have hin : ∀ f, f ∈ grp → okOf qs' f.key = some (toQ e.gets (c || f.self) f) := fun f hf => okOf_of (p1 f hf) rfl
  have hout : ∀ k, (∀ f, f ∈ grp → f.key ≠ k) → okOf qs' k = okOf e.qs k := fun k hk => by unfold okOf; rw [p2 k hk]
  have hfog : fo ∈ grp := (hmem fo).2 ⟨own, Nat.le_refl _, hfo⟩
  have hx : (settle own e).1 = (toQ e.gets (c || fo.self) fo).ans := by
    have : (settle own e).1 = (match e.st[own]? with | some f => (match aGet qs' f.key with | some q => q.ans | none => nilA) | none => nilA) := by rw [hqs, hc, hgrp]; rfl
    rw [this, hfo]
    simp only
    rw [p1 fo hfog]
  -- what is old, what is of the group
  have hoko : ∀ k q, okOf e.qs k = some q → okOf qs' k = some q := fun k q hq => by
    rw [hout k fun f hf e1 => by
      obtain ⟨i, _, hi⟩ := (hmem f).1 hf
      have := (hG.kin f (List.mem_of_getElem? hi)).2.1
      rw [e1, hq] at this; cases this]
    exact hq
  have hgi : ∀ f, f ∈ grp → ∃ i t, own ≤ i ∧ e.st[i]? = some f ∧ g[i]? = some t ∧ (∀ p, p ∈ t ↔ p ∈ f.tr) ∧ Fits (rule f.key) [] f.tr f.own := by
    intro f hf
    obtain ⟨i, hi, hfi⟩ := (hmem f).1 hf
    have hil : i < g.length := by rw [hG.len]; exact (List.getElem?_eq_some_iff.1 hfi).1
    have ht : g[i]? = some g[i] := List.getElem?_eq_getElem hil
    rcases Nat.lt_or_ge own i with h | h
    · obtain ⟨d1, d2⟩ := hS.done i f _ h hfi ht
      exact ⟨i, _, hi, hfi, ht, d1, d2⟩
    · have : i = own := by omega
      subst this
      rw [hfo] at hfi; cases hfi
      rw [hto] at ht
      rw [Option.some.inj ht] at hd
      exact ⟨i, _, hi, hfo, by rw [hto, Option.some.inj ht], hd.1, hd.2⟩
  -- edges within the group
  have up : ∀ {i j : Nat}, Eg e.st g i j → own ≤ i → own ≤ j := fun hE hi => by have := hS.me _ _ fo hi hE hfo; omega
  have toEd : ∀ {i j : Nat} {f f' : Fr}, Eg e.st g i j → own ≤ i → e.st[i]? = some f → e.st[j]? = some f' → EdQ (okOf qs') f.key f'.key := by
    intro i j f f' hE hi hf hf'
    have hj := up hE hi
    obtain ⟨fj, t, b1, b2, b3, b4⟩ := hE
    rw [hf'] at b1; cases b1
    have hfg : f ∈ grp := (hmem f).2 ⟨i, hi, hf⟩
    obtain ⟨i', t', c1, c2, c3, c4, c5⟩ := hgi f hfg
    have : i' = i := key_inj hG.nd c2 hf rfl
    subst this
    rw [b2] at c3; cases c3
    obtain ⟨p, hp, he⟩ := List.mem_map.1 b4
    exact ⟨_, hin f hfg, by show _ ∈ f.tr.map Prod.fst; rw [← he]; exact List.mem_map_of_mem (f := Prod.fst) ((c4 p).1 hp), by rw [hin f' ((hmem f').2 ⟨j, hj, hf'⟩)]; rfl⟩
  have toPth : ∀ {i j : Nat}, Pth (Eg e.st g) i j → own ≤ i → own ≤ j ∧ ∀ f f', e.st[i]? = some f → e.st[j]? = some f' → Pth (EdQ (okOf qs')) f.key f'.key := by
    intro i j hp
    induction hp with
    | one hE => exact fun hi => ⟨up hE hi, fun f f' hf hf' => .one (toEd hE hi hf hf')⟩
    | @cons a b _ hE _ ih =>
      intro hi
      obtain ⟨h1, h2⟩ := ih (up hE hi)
      refine ⟨h1, fun f f' hf hf' => ?_⟩
      obtain ⟨fb, _, hb, _⟩ := id hE
      exact .cons (toEd hE hi hf hb) (h2 fb f' hb hf')
  have back : ∀ (m i : Nat), i ≤ m → own < i → ∀ f, e.st[i]? = some f → Pth (EdQ (okOf qs')) f.key fo.key := by
    intro m
    induction m with
    | zero => intro i h1 h2; omega
    | succ m ih =>
      intro i h1 h2 f hf
      have hlt := hS.pen i f h2 hf
      have hm := hS.mn i f fo h2 hf hfo
      obtain ⟨_, h5⟩ := toPth ((hG.low i f hf).2 hlt) (by omega)
      have hl : f.low < e.st.length := by have := (List.getElem?_eq_some_iff.1 hf).1; omega
      have hfl : e.st[f.low]? = some e.st[f.low] := List.getElem?_eq_getElem hl
      have h6 := h5 f _ hf hfl
      rcases Nat.lt_or_ge own f.low with h7 | h7
      · exact h6.trans (ih f.low (by omega) h7 _ hfl)
      · have e1 : f.low = own := by omega
        have e3 : e.st[f.low]? = some fo := by rw [e1]; exact hfo
        rw [hfl] at e3
        rw [Option.some.inj e3] at h6; exact h6
  have forth : ∀ i f, own < i → e.st[i]? = some f → Pth (EdQ (okOf qs')) fo.key f.key := fun i f hi hf => (toPth (hS.reach i hi (List.getElem?_eq_some_iff.1 hf).1) (Nat.le_refl _)).2 fo f hfo hf
  have oldcl : ∀ {a b : Ky}, Pth (EdQ (okOf qs')) a b → ∀ q, okOf e.qs a = some q → Pth (EdQ (okOf e.qs)) a b ∧ ∃ q', okOf e.qs b = some q' := by
    have step : ∀ {a b : Ky}, EdQ (okOf qs') a b → ∀ q, okOf e.qs a = some q → EdQ (okOf e.qs) a b ∧ ∃ q', okOf e.qs b = some q' := by
      rintro a b ⟨q1, h1, h2, h3⟩ q hq
      rw [hoko a q hq] at h1
      rw [← Option.some.inj h1] at h2
      obtain ⟨p, hp, he⟩ := List.mem_map.1 h2
      have hi : aGet e.inp p.1 = none := by
        rw [he]
        obtain ⟨z, hz⟩ := Option.isSome_iff_exists.1 h3
        by_cases hb : ∃ f, f ∈ grp ∧ f.key = b
        · obtain ⟨f, hf, hfb⟩ := hb
          obtain ⟨i, _, hi⟩ := (hmem f).1 hf
          rw [← hfb]; exact (hG.kin f (List.mem_of_getElem? hi)).1
        · have hz2 : okOf e.qs b = some z := by rw [← hout b fun f hf e1 => hb ⟨f, hf, e1⟩]; exact hz
          exact hG.q.asg.noin b z hz2
      obtain ⟨q', g1, _⟩ := hG.q.asg.in hq hp hi
      rw [he] at g1
      exact ⟨⟨q, hq, h2, by rw [g1]; rfl⟩, q', g1⟩
    intro a b hp
    induction hp with
    | one hE => exact fun q hq => by obtain ⟨s1, s2⟩ := step hE q hq; exact ⟨.one s1, s2⟩
    | cons hE _ ih =>
      intro q hq
      obtain ⟨s1, q2, s2⟩ := step hE q hq
      obtain ⟨s3, s4⟩ := ih q2 s2
      exact ⟨.cons s1 s3, s4⟩
  have hlen : grp.length = e.st.length - own := by rw [hgrp, List.length_drop]
  have only1 : ¬ 1 < grp.length → ∀ f, f ∈ grp → f = fo := by
    intro h f hf
    obtain ⟨i, hi, hfi⟩ := (hmem f).1 hf
    have := (List.getElem?_eq_some_iff.1 hfi).1
    have e3 : i = own := by omega
    subst e3
    rw [hfo] at hfi; exact (Option.some.inj hfi).symm
  have cyc : ∀ f, f ∈ grp → ((c || f.self) = true ↔ Pth (EdQ (okOf qs')) f.key f.key) := by
    intro f hf
    by_cases h1 : 1 < grp.length
    · have hct : c = true := by rw [hc]; exact decide_eq_true h1
      rw [hct, Bool.true_or]
      refine ⟨fun _ => ?_, fun _ => rfl⟩
      obtain ⟨i, hi, hfi⟩ := (hmem f).1 hf
      rcases Nat.lt_or_ge own i with h2 | h2
      · exact (back i i (Nat.le_refl _) h2 f hfi).trans (forth i f h2 hfi)
      · have e3 : i = own := by omega
        subst e3
        rw [hfo] at hfi; cases hfi
        have h3 : i + 1 < e.st.length := by omega
        have h4 : e.st[i + 1]? = some e.st[i + 1] := List.getElem?_eq_getElem h3
        exact (forth (i + 1) _ (by omega) h4).trans (back (i + 1) (i + 1) (Nat.le_refl _) (by omega) _ h4)
    · have hcf : c = false := by rw [hc]; exact decide_eq_false h1
      have hff := only1 h1 f hf
      subst hff
      rw [hcf, Bool.false_or, hS.self f hfo]
      constructor
      · intro hE; exact .one (toEd hE (Nat.le_refl _) hfo hfo)
      · intro hp
        have first : ∀ {a b : Ky}, Pth (EdQ (okOf qs')) a b → a = f.key → b = f.key → EdQ (okOf qs') f.key f.key := by
          intro a b hp
          cases hp with
          | one hE => rintro rfl rfl; exact hE
          | @cons _ m _ hE hr =>
            rintro rfl rfl
            by_cases hm : m = f.key
            · rw [hm] at hE; exact hE
            · obtain ⟨z, hz⟩ := Option.isSome_iff_exists.1 hE.choose_spec.2.2
              have hz2 : okOf e.qs m = some z := by rw [← hout m fun f' hf' e1 => hm (by rw [← e1, only1 h1 f' hf'])]; exact hz
              obtain ⟨_, q', hq'⟩ := oldcl hr z hz2
              have := (hG.kin f (List.mem_of_getElem? hfo)).2.1
              rw [hq'] at this; cases this
        obtain ⟨q1, b1, b2, _⟩ := first hp rfl rfl
        rw [hin f hf] at b1
        have b1 := Option.some.inj b1
        rw [← b1] at b2
        obtain ⟨p, hp2, he⟩ := List.mem_map.1 b2
        exact ⟨f, to, hfo, hto, (List.getElem?_eq_some_iff.1 hfo).1, by rw [← he]; exact List.mem_map_of_mem (f := Prod.fst) ((hd.1 p).2 hp2)⟩
  have hasg : Asg rule (aGet e.inp) (okOf qs') := by
    have cs : ∀ k q, okOf qs' k = some q → (∃ f, f ∈ grp ∧ f.key = k ∧ q = toQ e.gets (c || f.self) f) ∨ okOf e.qs k = some q := by
      intro k q hq
      by_cases hb : ∃ f, f ∈ grp ∧ f.key = k
      · obtain ⟨f, hf, hfb⟩ := hb
        have := hin f hf
        rw [hfb, hq] at this
        exact .inl ⟨f, hf, hfb, Option.some.inj this⟩
      · rw [hout k fun f hf e1 => hb ⟨f, hf, e1⟩] at hq
        exact .inr hq
    refine ⟨fun k q hq => ?_, fun k q hq => ?_, fun k q hq p hp => ?_, fun k q hq => ?_⟩
    · rcases cs k q hq with ⟨f, hf, rfl, _⟩ | h1
      · obtain ⟨i, _, hi⟩ := (hmem f).1 hf
        exact (hG.kin f (List.mem_of_getElem? hi)).1
      · exact hG.q.asg.noin k q h1
    · rcases cs k q hq with ⟨f, hf, rfl, rfl⟩ | h1
      · obtain ⟨_, _, _, _, _, _, h5⟩ := hgi f hf; exact h5
      · exact hG.q.asg.fit k q h1
    · rcases cs k q hq with ⟨f, hf, rfl, rfl⟩ | h1
      · obtain ⟨i, t, hi, hfi, hti, h4, _⟩ := hgi f hf
        have hpt : p ∈ t := (h4 p).2 hp
        rcases (hG.ans i t hti p hpt).1 with ⟨s, a1, a2⟩ | ⟨a1, z, a2, a3⟩ | ⟨a1, a2, ⟨f', a3, a4⟩, a5⟩
        · unfold AnsOf; rw [a1, a2]
        · unfold AnsOf
          rw [a1]
          simp only
          rw [hoko p.1 z a2, a3]; rfl
        · obtain ⟨j, hj⟩ := List.mem_iff_getElem?.1 a3
          have hE : Eg e.st g i j := ⟨f', t, hj, hti, (List.getElem?_eq_some_iff.1 hfi).1, by rw [a4]; exact List.mem_map_of_mem (f := Prod.fst) hpt⟩
          have hj2 := up hE hi
          have hfg' : f' ∈ grp := (hmem f').2 ⟨j, hj2, hj⟩
          have hcs : (c || f'.self) = true := by
            by_cases h1 : 1 < grp.length
            · rw [hc, decide_eq_true h1]; rfl
            · have e1 := only1 h1 f hf
              have e3 := only1 h1 f' hfg'
              subst e1
              have ei : i = own := key_inj hG.nd hfi hfo rfl
              have ej : j = own := key_inj hG.nd hj hfo (by rw [e3])
              rw [ei, ej] at hE
              rw [e3, (hS.self f hfo).2 hE, Bool.or_true]
          unfold AnsOf
          rw [a1]
          simp only
          rw [← a4, hin f' hfg', a5]
          simp only [Option.map_some]
          congr 1
          unfold Qy.ans
          rw [if_pos (show (toQ e.gets (c || f'.self) f').cyc = true from hcs)]
      · have := hG.q.asg.ans k q h1 p hp
        unfold AnsOf at this ⊢
        cases hi : aGet e.inp p.1 with
        | some s => rw [hi] at this; exact this
        | none =>
          rw [hi] at this
          simp only at this ⊢
          cases hz : okOf e.qs p.1 with
          | none => rw [hz] at this; cases this
          | some z => rw [hz] at this; rw [hoko _ _ hz]; exact this
    · rcases cs k q hq with ⟨f, hf, rfl, rfl⟩ | h1
      · exact cyc f hf
      · rw [hG.q.asg.cyc k q h1]
        constructor
        · intro hp
          refine hp.mono fun a b ⟨q1, b1, b2, b3⟩ => ?_
          obtain ⟨z, hz⟩ := Option.isSome_iff_exists.1 b3
          exact ⟨q1, hoko a q1 b1, b2, by rw [hoko b z hz]; rfl⟩
        · exact fun hp => (oldcl hp q h1).1
  rw [e2]
  refine ⟨⟨p3 hG.q.nd, fun k q hq => ?_, hasg⟩, ⟨rfl, rfl, fun k q hq => ⟨q, hoko k q hq, rfl, rfl, rfl⟩, fun k hk => ?_⟩, rfl, ⟨_, hin fo hfog, hx, rfl⟩, fun k hk => hout k fun f hf => ?_, fun i f hi hf => ⟨_, hin f ((hmem f).2 ⟨i, hi, hf⟩), rfl, rfl⟩⟩
  · have hq : aGet qs' k = some q := hq
    by_cases hb : ∃ f, f ∈ grp ∧ f.key = k
    · obtain ⟨f, hf, rfl⟩ := hb
      rw [p1 f hf] at hq
      cases hq
      obtain ⟨i, t, _, hi, hti, h4, h5⟩ := hgi f hf
      have hk := hG.kin f (List.mem_of_getElem? hi)
      exact ⟨hk.1, h5, hk.2.2, fun p hp => (hG.ans i t hti p ((h4 p).2 hp)).2⟩
    · rw [p2 k fun f hf e1 => hb ⟨f, hf, e1⟩] at hq
      exact hG.q.old k q hq
  · have hk : okOf qs' k = none := hk
    show aGet qs' k = aGet e.qs k
    refine p2 k fun f hf e1 => ?_
    have := hin f hf
    rw [e1, hk] at this; cases this
  · obtain ⟨i, hi, hfi⟩ := (hmem f).1 hf
    exact hk i f hi hfi
end Go.GL

namespace Go.GL
set_option linter.unusedVariables false
section
variable {rule : Ky → Ru} {U : List Ky}
theorem upd_upd {α : Type} : ∀ (l : List α) (i : Nat) (f h : α → α), upd (upd l i f) i h = upd l i (fun a => h (f a))
  | [], _, _, _ => rfl
  | a :: l, 0, f, h => rfl
  | a :: l, i + 1, f, h => by rw [upd, upd, upd, upd_upd l i f h]
theorem upd_left {α : Type} : ∀ (l m : List α) (i : Nat) (f : α → α), i < l.length → upd (l ++ m) i f = upd l i f ++ m
  | [], m, i, f, h => absurd h (Nat.not_lt_zero i)
  | a :: l, m, 0, f, _ => rfl
  | a :: l, m, i + 1, f, h => by rw [List.cons_append, upd, upd, upd_left l m i f (by simpa using h), List.cons_append]
theorem upd_right {α : Type} : ∀ (l m : List α) (i : Nat) (f : α → α), upd (l ++ m) (l.length + i) f = l ++ upd m i f
  | [], m, i, f => by simp
  | a :: l, m, i, f => by rw [List.cons_append, List.length_cons, show l.length + 1 + i = (l.length + i) + 1 from by omega, upd, upd_right l m i f]; rfl
theorem upd_id {α : Type} : ∀ (l : List α) (i : Nat) (f : α → α), (∀ a, f a = a) → upd l i f = l
  | [], _, _, _ => rfl
  | a :: l, 0, f, h => by rw [upd, h]
  | a :: l, i + 1, f, h => by rw [upd, upd_id l i f h]
theorem upd_mem {st : List Fr} {b : Nat} {F : Fr → Fr} (hF : ∀ f, (F f).key = f.key) {f : Fr} (h : f ∈ st) : ∃ f', f' ∈ upd st b F ∧ f'.key = f.key := by
  obtain ⟨i, hi⟩ := List.mem_iff_getElem?.1 h
  have : (upd st b F)[i]? = if b = i then some (F f) else some f := by rw [upd_get, hi]; rfl
  split at this
  · exact ⟨_, List.mem_of_getElem? this, hF f⟩
  · exact ⟨_, List.mem_of_getElem? this, rfl⟩
theorem mem_upd {st : List Fr} {b : Nat} {F : Fr → Fr} (hF : ∀ f, (F f).key = f.key) {f : Fr} (h : f ∈ upd st b F) : ∃ f', f' ∈ st ∧ f'.key = f.key := by
  obtain ⟨i, hi⟩ := List.mem_iff_getElem?.1 h
  rw [upd_get] at hi
  split at hi
  · obtain ⟨f', h1, h2⟩ := Option.map_eq_some_iff.1 hi
    exact ⟨f', List.mem_of_getElem? h1, by rw [← h2, hF]⟩
  · exact ⟨f, List.mem_of_getElem? hi, rfl⟩
theorem eg_upd {st : List Fr} {g : List Tr} {b i j : Nat} {F : Fr → Fr} (hF : ∀ f, (F f).key = f.key) : Eg (upd st b F) g i j ↔ Eg st g i j := by
  constructor
  · rintro ⟨fj, t, a1, a2, a3, a4⟩
    rw [upd_get] at a1
    rw [upd_len] at a3
    split at a1
    · obtain ⟨f', h1, h2⟩ := Option.map_eq_some_iff.1 a1
      exact ⟨f', t, h1, a2, a3, by rw [← hF, h2]; exact a4⟩
    · exact ⟨fj, t, a1, a2, a3, a4⟩
  · rintro ⟨fj, t, a1, a2, a3, a4⟩
    by_cases h : b = j
    · exact ⟨F fj, t, by rw [upd_get, if_pos h, a1]; rfl, a2, by rw [upd_len]; exact a3, by rw [hF]; exact a4⟩
    · exact ⟨fj, t, by rw [upd_get, if_neg h]; exact a1, a2, by rw [upd_len]; exact a3, a4⟩
theorem QInv.same {e e' : En} (h : QInv rule U e) (h1 : e'.inp = e.inp) (h2 : e'.qs = e.qs) : QInv rule U e' := ⟨by rw [h2]; exact h.nd, by rw [h1, h2]; exact h.old, by rw [h1, h2]; exact h.asg⟩
theorem AnsF.same {e e' : En} {k : Ky} {x : An} (h : AnsF e k x) (h1 : e'.inp = e.inp) (h2 : e'.qs = e.qs) (h3 : e'.st.map Fr.key = e.st.map Fr.key) : AnsF e' k x := by
  unfold AnsF
  rw [h1, h2]
  rcases h with h | h | ⟨a1, a2, ⟨f, a3, a4⟩, a5⟩
  · exact .inl h
  · exact .inr (.inl h)
  · refine .inr (.inr ⟨a1, a2, ?_, a5⟩)
    have : k ∈ e'.st.map Fr.key := by rw [h3, ← a4]; exact List.mem_map_of_mem (f := Fr.key) a3
    obtain ⟨f', b1, b2⟩ := List.mem_map.1 this
    exact ⟨f', b1, b2⟩
theorem Gl.same {e e' : En} {g : List Tr} (h : Gl rule U e g) (h1 : e'.inp = e.inp) (h2 : e'.qs = e.qs) (h3 : e'.st = e.st) : Gl rule U e' g :=
  ⟨h.q.same h1 h2, by rw [h3]; exact h.len, by rw [h3]; exact h.nd, by rw [h1, h2, h3]; exact h.kin, fun i t ht p hp => ⟨(h.ans i t ht p hp).1.same h1 h2 (by rw [h3]), (h.ans i t ht p hp).2⟩, by rw [h3]; exact h.low⟩
theorem Seg.same {e e' : En} {g : List Tr} {b : Nat} (h : Seg rule e g b) (h3 : e'.st = e.st) : Seg rule e' g b :=
  ⟨by rw [h3]; exact h.lt, by rw [h3]; exact h.pen, by rw [h3]; exact h.reach, by rw [h3]; exact h.mn, by rw [h3]; exact h.me, by rw [h3]; exact h.self, by rw [h3]; exact h.done⟩
theorem Ext.same {e e' : En} (h1 : e'.inp = e.inp) (h2 : e'.qs = e.qs) (h3 : e'.gets = e.gets) : Ext e e' := ⟨h1, h3, fun k q hq => ⟨q, by rw [h2]; exact hq, rfl, rfl, rfl⟩, fun k _ => by rw [h2]⟩
theorem Gl.setB {e : En} {g : List Tr} {b : Nat} {F : Fr → Fr} (h : Gl rule U e g) (hk : ∀ f, (F f).key = f.key) (hl : ∀ f, (F f).low = f.low) : Gl rule U (e.mod b F) g := by
  have hm : (upd e.st b F).map Fr.key = e.st.map Fr.key := upd_map _ _ _ _ hk
  refine ⟨h.q.same rfl rfl, by show g.length = (upd e.st b F).length; rw [upd_len]; exact h.len, by show ((upd e.st b F).map Fr.key).Nodup; rw [hm]; exact h.nd, fun f hf => ?_, fun i t ht p hp => ⟨(h.ans i t ht p hp).1.same rfl rfl hm, (h.ans i t ht p hp).2⟩, fun i f hf => ?_⟩
  · obtain ⟨f', h1, h2⟩ := mem_upd hk hf
    rw [← h2]; exact h.kin f' h1
  · have hf : (upd e.st b F)[i]? = some f := hf
    rw [upd_get] at hf
    have key : ∀ f0, e.st[i]? = some f0 → f.low = f0.low → f.low ≤ i ∧ (f.low < i → Pth (Eg (upd e.st b F) g) i f.low) := by
      intro f0 h0 he
      obtain ⟨a1, a2⟩ := h.low i f0 h0
      rw [he]
      exact ⟨a1, fun hlt => (a2 hlt).mono fun _ _ hE => (eg_upd hk).2 hE⟩
    split at hf
    · obtain ⟨f', h1, h2⟩ := Option.map_eq_some_iff.1 hf
      exact key f' h1 (by rw [← h2, hl])
    · exact key f hf rfl
theorem Seg.setB {e : En} {g : List Tr} {b : Nat} {F : Fr → Fr} (h : Seg rule e g b) (hk : ∀ f, (F f).key = f.key) (hl : ∀ f, (F f).low = f.low) (hs : ∀ f, (F f).self = f.self) : Seg rule (e.mod b F) g b := by
  have at_ : ∀ {i f}, b < i → (upd e.st b F)[i]? = some f → e.st[i]? = some f := fun hi hf => by rw [upd_get, if_neg (by omega)] at hf; exact hf
  have atb : ∀ {f}, (upd e.st b F)[b]? = some f → ∃ f', e.st[b]? = some f' ∧ f = F f' := fun hf => by
    rw [upd_get, if_pos rfl] at hf
    obtain ⟨f', h1, h2⟩ := Option.map_eq_some_iff.1 hf
    exact ⟨f', h1, h2.symm⟩
  refine ⟨by show b < (upd e.st b F).length; rw [upd_len]; exact h.lt, fun i f hi hf => h.pen i f hi (at_ hi hf), fun i hi hl2 => ?_, fun i f fb hi hf hfb => ?_, fun i j fb hi hE hfb => ?_, fun fb hfb => ?_, fun i f t hi hf ht => h.done i f t hi (at_ hi hf) ht⟩
  · have hl2 : i < (upd e.st b F).length := hl2
    rw [upd_len] at hl2
    exact (h.reach i hi hl2).mono fun _ _ hE => (eg_upd hk).2 hE
  · obtain ⟨f', h1, rfl⟩ := atb hfb
    rw [hl]; exact h.mn i f f' hi (at_ hi hf) h1
  · obtain ⟨f', h1, rfl⟩ := atb hfb
    rw [hl]; exact h.me i j f' hi ((eg_upd hk).1 hE) h1
  · obtain ⟨f', h1, rfl⟩ := atb hfb
    rw [hs, h.self f' h1]; exact (eg_upd hk).symm
theorem ans_off {e e' : En} {g : List Tr} {b : Nat} {k : Ky} {x : An} (hG : Gl rule U e g) (hS : Seg rule e g b) (hq : QInv rule U e') (hE : Ext e e') (hst : e'.st = e.st) (hk : ∀ f, f ∈ e.st → okOf e'.qs f.key = none) (hoff : ∀ f, f ∈ e.st → f.key ≠ k) (ha : AnsF e' k x) (hU : k ∈ U) :
    Gl rule U e' (upd g b (· ++ [(k, x)])) ∧ Seg rule e' (upd g b (· ++ [(k, x)])) b := by
  have ed : ∀ i j, Eg e.st (upd g b (· ++ [(k, x)])) i j ↔ Eg e.st g i j := by
    intro i j
    constructor
    · rintro ⟨fj, t, a1, a2, a3, a4⟩
      rw [upd_get] at a2
      split at a2
      · obtain ⟨t0, h1, h2⟩ := Option.map_eq_some_iff.1 a2
        rw [← h2, List.map_append] at a4
        rcases List.mem_append.1 a4 with h3 | h3
        · exact ⟨fj, t0, a1, h1, a3, h3⟩
        · exact absurd (List.mem_singleton.1 h3) (hoff fj (List.mem_of_getElem? a1))
      · exact ⟨fj, t, a1, a2, a3, a4⟩
    · rintro ⟨fj, t, a1, a2, a3, a4⟩
      by_cases h : b = i
      · exact ⟨fj, t ++ [(k, x)], a1, by rw [upd_get, if_pos h, a2]; rfl, a3, by rw [List.map_append]; exact List.mem_append_left _ a4⟩
      · exact ⟨fj, t, a1, by rw [upd_get, if_neg h]; exact a2, a3, a4⟩
  have edp : ∀ {i j}, Pth (Eg e.st g) i j → Pth (Eg e.st (upd g b (· ++ [(k, x)]))) i j := fun h => h.mono fun _ _ hE => (ed _ _).2 hE
  constructor
  · refine ⟨hq, by rw [upd_len, hst]; exact hG.len, by rw [hst]; exact hG.nd, fun f hf => ?_, fun i t ht p hp => ?_, fun i f hf => ?_⟩
    · rw [hst] at hf
      obtain ⟨a1, _, a3⟩ := hG.kin f hf
      exact ⟨by rw [hE.inp]; exact a1, hk f hf, a3⟩
    · have up : ∀ t0, g[i]? = some t0 → p ∈ t0 → AnsF e' p.1 p.2 ∧ p.1 ∈ U := fun t0 h0 hp0 =>
        ⟨(hG.ans i t0 h0 p hp0).1.up hE fun f hf he => ⟨⟨f, by rw [hst]; exact hf, he⟩, by rw [← he]; exact hk f hf⟩, (hG.ans i t0 h0 p hp0).2⟩
      rw [upd_get] at ht
      split at ht
      · obtain ⟨t0, h1, h2⟩ := Option.map_eq_some_iff.1 ht
        rw [← h2] at hp
        rcases List.mem_append.1 hp with h3 | h3
        · exact up t0 h1 h3
        · rw [List.mem_singleton.1 h3]; exact ⟨ha, hU⟩
      · exact up t ht hp
    · rw [hst] at hf
      obtain ⟨a1, a2⟩ := hG.low i f hf
      rw [hst]
      exact ⟨a1, fun hlt => edp (a2 hlt)⟩
  · refine ⟨by rw [hst]; exact hS.lt, by rw [hst]; exact hS.pen, by rw [hst]; exact fun i hi hl => edp (hS.reach i hi hl), by rw [hst]; exact hS.mn, by rw [hst]; exact fun i j fb hi hE2 hfb => hS.me i j fb hi ((ed _ _).1 hE2) hfb, by rw [hst]; exact fun fb hfb => (hS.self fb hfb).trans (ed _ _).symm, ?_⟩
    rw [hst]
    intro i f t hi hf ht
    rw [upd_get, if_neg (by omega)] at ht
    exact hS.done i f t hi hf ht
theorem hit_ok {e : En} {g : List Tr} {b i : Nat} {fi : Fr} (hG : Gl rule U e g) (hS : Seg rule e g b) (hi : e.st[i]? = some fi) :
    QInv rule U (hit e (some b) i) ∧ Ext e (hit e (some b) i) ∧ Gl rule U (hit e (some b) i) (upd g b (· ++ [(fi.key, cycA)])) ∧ Seg rule (hit e (some b) i) (upd g b (· ++ [(fi.key, cycA)])) b ∧
      (∀ j, j ≠ b → (hit e (some b) i).st[j]? = e.st[j]?) ∧ ∀ f, e.st[b]? = some f → ∃ f', (hit e (some b) i).st[b]? = some f' ∧ f'.key = f.key ∧ f'.own = f.own ∧ f'.tr = f.tr := by
  obtain ⟨F, hFd⟩ : ∃ F : Fr → Fr, F = fun f => { f with low := min (min f.low fi.low) i, self := f.self || decide (i = b) } := ⟨_, rfl⟩
  have he : hit e (some b) i = e.mod b F := by unfold hit; rw [hi, hFd]
  have hk : ∀ f, (F f).key = f.key := fun f => by rw [hFd]
  rw [he]
  obtain ⟨fb, hfb⟩ : ∃ fb, e.st[b]? = some fb := ⟨_, List.getElem?_eq_getElem hS.lt⟩
  have hm : (upd e.st b F).map Fr.key = e.st.map Fr.key := upd_map _ _ _ _ hk
  have kini := hG.kin fi (List.mem_of_getElem? hi)
  have ed : ∀ u v, Eg (upd e.st b F) (upd g b (· ++ [(fi.key, cycA)])) u v ↔ Eg e.st g u v ∨ (u = b ∧ v = i) := by
    intro u v
    rw [eg_upd hk]
    constructor
    · rintro ⟨fj, t, a1, a2, a3, a4⟩
      rw [upd_get] at a2
      split at a2
      · rename_i hub
        obtain ⟨t0, h1, h2⟩ := Option.map_eq_some_iff.1 a2
        rw [← h2, List.map_append] at a4
        rcases List.mem_append.1 a4 with h3 | h3
        · exact .inl ⟨fj, t0, a1, h1, a3, h3⟩
        · exact .inr ⟨hub.symm, key_inj hG.nd a1 hi (List.mem_singleton.1 h3)⟩
      · exact .inl ⟨fj, t, a1, a2, a3, a4⟩
    · rintro (⟨fj, t, a1, a2, a3, a4⟩ | ⟨rfl, rfl⟩)
      · by_cases h : b = u
        · exact ⟨fj, t ++ [(fi.key, cycA)], a1, by rw [upd_get, if_pos h, a2]; rfl, a3, by rw [List.map_append]; exact List.mem_append_left _ a4⟩
        · exact ⟨fj, t, a1, by rw [upd_get, if_neg h]; exact a2, a3, a4⟩
      · have hbl : u < g.length := by rw [hG.len]; exact hS.lt
        exact ⟨fi, g[u] ++ [(fi.key, cycA)], hi, by rw [upd_get, if_pos rfl, List.getElem?_eq_getElem hbl]; rfl, hS.lt, by rw [List.map_append]; exact List.mem_append_right _ (.head _)⟩
  have old : ∀ {u v}, Pth (Eg e.st g) u v → Pth (Eg (upd e.st b F) (upd g b (· ++ [(fi.key, cycA)]))) u v := fun h => h.mono fun _ _ hE => (ed _ _).2 (.inl hE)
  have new : Eg (upd e.st b F) (upd g b (· ++ [(fi.key, cycA)])) b i := (ed _ _).2 (.inr ⟨rfl, rfl⟩)
  have at_ : ∀ {j f}, j ≠ b → ((upd e.st b F)[j]? = some f ↔ e.st[j]? = some f) := fun hj => by rw [upd_get, if_neg (fun h => hj h.symm)]
  have atb : ∀ {f}, (upd e.st b F)[b]? = some f → f = F fb := fun hf => by rw [upd_get, if_pos rfl, hfb] at hf; exact (Option.some.inj hf).symm
  obtain ⟨l1, l2⟩ := hG.low b fb hfb
  obtain ⟨m1, m2⟩ := hG.low i fi hi
  have hlow : (F fb).low = min (min fb.low fi.low) i := by rw [hFd]
  have hself : (F fb).self = (fb.self || decide (i = b)) := by rw [hFd]
  refine ⟨hG.q.same rfl rfl, Ext.same rfl rfl rfl, ?_, ?_, fun j hj => by show (upd e.st b F)[j]? = _; rw [upd_get, if_neg (fun h => hj h.symm)], fun f hf => ⟨F f, by show (upd e.st b F)[b]? = _; rw [upd_get, if_pos rfl, hf]; rfl, hk f, by rw [hFd], by rw [hFd]⟩⟩
  · refine ⟨hG.q.same rfl rfl, by show _ = (upd e.st b F).length; rw [upd_len, upd_len]; exact hG.len, by show ((upd e.st b F).map Fr.key).Nodup; rw [hm]; exact hG.nd, fun f hf => ?_, fun j t ht p hp => ?_, fun j f hf => ?_⟩
    · obtain ⟨f', h1, h2⟩ := mem_upd hk hf
      rw [← h2]; exact hG.kin f' h1
    · rw [upd_get] at ht
      split at ht
      · obtain ⟨t0, h1, h2⟩ := Option.map_eq_some_iff.1 ht
        rw [← h2] at hp
        rcases List.mem_append.1 hp with h3 | h3
        · exact ⟨(hG.ans j t0 h1 p h3).1.same rfl rfl hm, (hG.ans j t0 h1 p h3).2⟩
        · rw [List.mem_singleton.1 h3]
          obtain ⟨f', b1, b2⟩ := upd_mem (b := b) hk (List.mem_of_getElem? hi)
          exact ⟨.inr (.inr ⟨kini.1, kini.2.1, ⟨f', b1, b2⟩, rfl⟩), kini.2.2⟩
      · exact ⟨(hG.ans j t ht p hp).1.same rfl rfl hm, (hG.ans j t ht p hp).2⟩
    · have hf : (upd e.st b F)[j]? = some f := hf
      by_cases hj : j = b
      · subst hj
        have hff := atb hf
        subst hff
        rw [hlow]
        refine ⟨by omega, fun hlt => ?_⟩
        rcases (show min (min fb.low fi.low) i = fb.low ∨ (min (min fb.low fi.low) i = fi.low ∧ fi.low < i) ∨ min (min fb.low fi.low) i = i by omega) with h | ⟨h, h2⟩ | h
        · rw [h] at hlt ⊢; exact old (l2 hlt)
        · rw [h]; exact .cons new (old (m2 h2))
        · rw [h]; exact .one new
      · obtain ⟨a1, a2⟩ := hG.low j f ((at_ hj).1 hf)
        exact ⟨a1, fun hlt => old (a2 hlt)⟩
  · refine ⟨by show b < (upd e.st b F).length; rw [upd_len]; exact hS.lt, fun j f hj hf => hS.pen j f hj ((at_ (by omega)).1 hf), fun j hj hl => ?_, fun j f fb' hj hf hfb' => ?_, fun u v fb' hu hE hfb' => ?_, fun fb' hfb' => ?_, fun j f t hj hf ht => ?_⟩
    · have hl : j < (upd e.st b F).length := hl
      rw [upd_len] at hl; exact old (hS.reach j hj hl)
    · rw [atb hfb', hlow]
      have := hS.mn j f fb hj ((at_ (by omega)).1 hf) hfb
      omega
    · rw [atb hfb', hlow]
      rcases (ed u v).1 hE with h | ⟨_, rfl⟩
      · have := hS.me u v fb hu h hfb; omega
      · omega
    · rw [atb hfb', hself]
      show _ ↔ Eg (upd e.st b F) _ b b
      rw [ed b b, ← hS.self fb hfb]
      simp only [Bool.or_eq_true, decide_eq_true_eq, true_and]
      exact ⟨fun h => h.imp id Eq.symm, fun h => h.imp id Eq.symm⟩
    · rw [upd_get, if_neg (by omega)] at ht
      exact hS.done j f t hj ((at_ (by omega)).1 hf) ht
theorem bump_ok {e0 e2 : En} {g0 gn : List Tr} {b : Nat} {k : Ky} {fo : Fr} {to : Tr} (hG0 : Gl rule U e0 g0) (hS0 : Seg rule e0 g0 b) (hE : Ext e0 e2) (hG2 : Gl rule U e2 (g0 ++ to :: gn)) (hS2 : Seg rule e2 (g0 ++ to :: gn) e0.st.length)
    (hpre : ∀ i, i < e0.st.length → e2.st[i]? = e0.st[i]?) (hfo : e2.st[e0.st.length]? = some fo) (hfk : fo.key = k) (hd : (∀ p, p ∈ to ↔ p ∈ fo.tr) ∧ Fits (rule fo.key) [] fo.tr fo.own) (hlow : fo.low < e0.st.length) :
    Gl rule U (bump e2 (some b) fo.low) (upd g0 b (· ++ [(k, cycA)]) ++ to :: gn) ∧ Seg rule (bump e2 (some b) fo.low) (upd g0 b (· ++ [(k, cycA)]) ++ to :: gn) b ∧
      (∀ j, j < e0.st.length → j ≠ b → (bump e2 (some b) fo.low).st[j]? = e0.st[j]?) ∧ ∀ f, e0.st[b]? = some f → ∃ f', (bump e2 (some b) fo.low).st[b]? = some f' ∧ f'.key = f.key ∧ f'.own = f.own ∧ f'.tr = f.tr := by
  obtain ⟨n, hn⟩ : ∃ n, n = e0.st.length := ⟨_, rfl⟩
  rw [← hn] at hS2 hpre hfo hlow ⊢
  obtain ⟨F, hFd⟩ : ∃ F : Fr → Fr, F = fun f => { f with low := min f.low fo.low } := ⟨_, rfl⟩
  have he : bump e2 (some b) fo.low = e2.mod b F := by unfold bump; rw [hFd]
  have hk : ∀ f, (F f).key = f.key := fun f => by rw [hFd]
  rw [he]
  have hbl : b < n := by rw [hn]; exact hS0.lt
  have hgl : g0.length = n := by rw [hn]; exact hG0.len
  obtain ⟨fb, hfb0⟩ : ∃ fb, e0.st[b]? = some fb := ⟨_, List.getElem?_eq_getElem hS0.lt⟩
  have hfb : e2.st[b]? = some fb := by rw [hpre b hbl]; exact hfb0
  have hm : (upd e2.st b F).map Fr.key = e2.st.map Fr.key := upd_map _ _ _ _ hk
  have hnl : n < e2.st.length := (List.getElem?_eq_some_iff.1 hfo).1
  have gpre : ∀ i, i < n → (g0 ++ to :: gn)[i]? = g0[i]? := fun i hi => List.getElem?_append_left (by omega)
  have hup : upd (g0 ++ to :: gn) b (· ++ [(k, cycA)]) = upd g0 b (· ++ [(k, cycA)]) ++ to :: gn := upd_left _ _ _ _ (by omega)
  rw [← hup]
  -- edges
  have ed : ∀ u v, Eg (upd e2.st b F) (upd (g0 ++ to :: gn) b (· ++ [(k, cycA)])) u v ↔ Eg e2.st (g0 ++ to :: gn) u v ∨ (u = b ∧ v = n) := by
    intro u v
    rw [eg_upd hk]
    constructor
    · rintro ⟨fj, t, a1, a2, a3, a4⟩
      rw [upd_get] at a2
      split at a2
      · rename_i hub
        obtain ⟨t0, h1, h2⟩ := Option.map_eq_some_iff.1 a2
        rw [← h2, List.map_append] at a4
        rcases List.mem_append.1 a4 with h3 | h3
        · exact .inl ⟨fj, t0, a1, h1, a3, h3⟩
        · exact .inr ⟨hub.symm, key_inj hG2.nd a1 hfo ((List.mem_singleton.1 h3).trans hfk.symm)⟩
      · exact .inl ⟨fj, t, a1, a2, a3, a4⟩
    · rintro (⟨fj, t, a1, a2, a3, a4⟩ | ⟨rfl, rfl⟩)
      · by_cases h : b = u
        · exact ⟨fj, t ++ [(k, cycA)], a1, by rw [upd_get, if_pos h, a2]; rfl, a3, by rw [List.map_append]; exact List.mem_append_left _ a4⟩
        · exact ⟨fj, t, a1, by rw [upd_get, if_neg h]; exact a2, a3, a4⟩
      · have hul : u < g0.length := by omega
        exact ⟨fo, g0[u] ++ [(k, cycA)], hfo, by rw [upd_get, if_pos rfl, gpre u hbl, List.getElem?_eq_getElem hul]; rfl, by omega, by rw [hfk, List.map_append]; exact List.mem_append_right _ (.head _)⟩
  have e02 : ∀ {u v}, Eg e0.st g0 u v → Eg e2.st (g0 ++ to :: gn) u v := by
    rintro u v ⟨fj, t, a1, a2, a3, a4⟩
    have hv : v < n := by rw [hn]; exact (List.getElem?_eq_some_iff.1 a1).1
    exact ⟨fj, t, by rw [hpre v hv]; exact a1, by rw [gpre u (by omega)]; exact a2, by omega, a4⟩
  have e20 : ∀ {u v}, u < n → Eg e2.st (g0 ++ to :: gn) u v → Eg e0.st g0 u v := by
    rintro u v hu ⟨fj, t, a1, a2, a3, a4⟩
    rw [gpre u hu] at a2
    obtain ⟨p, hp, hpe⟩ := List.mem_map.1 a4
    have kj := hG2.kin fj (List.mem_of_getElem? a1)
    have ki : aGet e0.inp p.1 = none := by rw [hpe, ← hE.inp]; exact kj.1
    have ko : okOf e0.qs p.1 = none := by rw [hpe]; exact hE.ok' kj.2.1
    rcases (hG0.ans u t a2 p hp).1 with ⟨s, b1, _⟩ | ⟨_, q, b1, _⟩ | ⟨_, _, ⟨f, b1, b2⟩, _⟩
    · rw [ki] at b1; cases b1
    · rw [ko] at b1; cases b1
    · obtain ⟨v', hv'⟩ := List.mem_iff_getElem?.1 b1
      have hvl : v' < n := by rw [hn]; exact (List.getElem?_eq_some_iff.1 hv').1
      have : v' = v := key_inj hG2.nd (by rw [hpre v' hvl]; exact hv') a1 (by rw [b2, hpe])
      subst this
      exact ⟨f, t, hv', a2, by rw [← hn]; exact hu, by rw [b2]; exact List.mem_map_of_mem (f := Prod.fst) hp⟩
  have old : ∀ {u v}, Pth (Eg e2.st (g0 ++ to :: gn)) u v → Pth (Eg (upd e2.st b F) (upd (g0 ++ to :: gn) b (· ++ [(k, cycA)]))) u v := fun h => h.mono fun _ _ hE2 => (ed _ _).2 (.inl hE2)
  have new : Eg (upd e2.st b F) (upd (g0 ++ to :: gn) b (· ++ [(k, cycA)])) b n := (ed _ _).2 (.inr ⟨rfl, rfl⟩)
  have at_ : ∀ {j f}, j ≠ b → ((upd e2.st b F)[j]? = some f ↔ e2.st[j]? = some f) := fun hj => by rw [upd_get, if_neg (fun h => hj h.symm)]
  have atb : ∀ {f}, (upd e2.st b F)[b]? = some f → f = F fb := fun hf => by rw [upd_get, if_pos rfl, hfb] at hf; exact (Option.some.inj hf).symm
  obtain ⟨l1, l2⟩ := hG2.low b fb hfb
  obtain ⟨m1, m2⟩ := hG2.low n fo hfo
  have hFlow : (F fb).low = min fb.low fo.low := by rw [hFd]
  have hFself : (F fb).self = fb.self := by rw [hFd]
  have ko := hG2.kin fo (List.mem_of_getElem? hfo)
  refine ⟨?_, ?_, fun j hj hjb => by show (upd e2.st b F)[j]? = _; rw [upd_get, if_neg (fun h => hjb h.symm)]; exact hpre j hj, fun f hf => ⟨F f, by show (upd e2.st b F)[b]? = _; rw [upd_get, if_pos rfl, hpre b hbl, hf]; rfl, hk f, by rw [hFd], by rw [hFd]⟩⟩
  · refine ⟨hG2.q.same rfl rfl, by show _ = (upd e2.st b F).length; rw [upd_len, upd_len]; exact hG2.len, by show ((upd e2.st b F).map Fr.key).Nodup; rw [hm]; exact hG2.nd, fun f hf => ?_, fun j t ht p hp => ?_, fun j f hf => ?_⟩
    · obtain ⟨f', h1, h2⟩ := mem_upd hk hf
      rw [← h2]; exact hG2.kin f' h1
    · rw [upd_get] at ht
      split at ht
      · obtain ⟨t0, h1, h2⟩ := Option.map_eq_some_iff.1 ht
        rw [← h2] at hp
        rcases List.mem_append.1 hp with h3 | h3
        · exact ⟨(hG2.ans j t0 h1 p h3).1.same rfl rfl hm, (hG2.ans j t0 h1 p h3).2⟩
        · rw [List.mem_singleton.1 h3]
          obtain ⟨f', b1, b2⟩ := upd_mem (b := b) hk (List.mem_of_getElem? hfo)
          rw [hfk] at ko b2
          exact ⟨.inr (.inr ⟨ko.1, ko.2.1, ⟨f', b1, b2⟩, rfl⟩), ko.2.2⟩
      · exact ⟨(hG2.ans j t ht p hp).1.same rfl rfl hm, (hG2.ans j t ht p hp).2⟩
    · have hf : (upd e2.st b F)[j]? = some f := hf
      by_cases hj : j = b
      · subst hj
        have hff := atb hf
        subst hff
        rw [hFlow]
        refine ⟨by omega, fun hlt => ?_⟩
        rcases (show min fb.low fo.low = fb.low ∨ (min fb.low fo.low = fo.low) by omega) with h | h
        · rw [h] at hlt ⊢; exact old (l2 hlt)
        · rw [h]; exact .cons new (old (m2 hlow))
      · obtain ⟨a1, a2⟩ := hG2.low j f ((at_ hj).1 hf)
        exact ⟨a1, fun hlt => old (a2 hlt)⟩
  · have fr0 : ∀ {j f}, j < n → j ≠ b → (upd e2.st b F)[j]? = some f → e0.st[j]? = some f := fun hj hjb hf => by rw [← hpre _ hj]; exact (at_ hjb).1 hf
    refine ⟨by show b < (upd e2.st b F).length; rw [upd_len]; omega, fun j f hj hf => ?_, fun j hj hl => ?_, fun j f fb' hj hf hfb' => ?_, fun u v fb' hu hE2 hfb' => ?_, fun fb' hfb' => ?_, fun j f t hj hf ht => ?_⟩
    · rcases Nat.lt_trichotomy j n with h | h | h
      · exact hS0.pen j f hj (fr0 h (by omega) hf)
      · have := (at_ (by omega)).1 hf
        rw [h, hfo] at this; cases this; omega
      · exact hS2.pen j f h ((at_ (by omega)).1 hf)
    · have hl : j < (upd e2.st b F).length := hl
      rw [upd_len] at hl
      rcases Nat.lt_trichotomy j n with h | h | h
      · exact old ((hS0.reach j hj (by omega)).mono fun _ _ h2 => e02 h2)
      · rw [h]; exact .one new
      · exact .cons new (old (hS2.reach j h hl))
    · rw [atb hfb', hFlow]
      rcases Nat.lt_trichotomy j n with h | h | h
      · have := hS0.mn j f fb hj (fr0 h (by omega) hf) hfb0; omega
      · have := (at_ (by omega)).1 hf
        rw [h, hfo] at this; cases this; omega
      · have := hS2.mn j f fo h ((at_ (by omega)).1 hf) hfo; omega
    · rw [atb hfb', hFlow]
      rcases (ed u v).1 hE2 with h | ⟨_, rfl⟩
      · rcases Nat.lt_or_ge u n with h2 | h2
        · have := hS0.me u v fb hu (e20 h2 h) hfb0; omega
        · have := hS2.me u v fo h2 h hfo; omega
      · omega
    · rw [atb hfb', hFself]
      show _ ↔ Eg (upd e2.st b F) _ b b
      rw [ed b b, hS0.self fb hfb0]
      exact ⟨fun h => .inl (e02 h), fun h => h.elim (e20 hbl) fun h2 => by omega⟩
    · rw [upd_get, if_neg (by omega)] at ht
      rcases Nat.lt_trichotomy j n with h | h | h
      · rw [gpre j h] at ht
        exact hS0.done j f t hj (fr0 h (by omega) hf) ht
      · have h3 := (at_ (by omega)).1 hf
        rw [h, hfo] at h3; cases h3
        rw [h, List.getElem?_append_right (by omega), hgl, Nat.sub_self] at ht
        cases ht
        exact hd
      · exact hS2.done j f t h ((at_ (by omega)).1 hf) ht
end
end Go.GL

namespace Go.GL
set_option linter.unusedVariables false
section
variable {rule : Ky → Ru} {U : List Ky}
def Keep (e e' : En) (b : Nat) : Prop := (∀ j, j < e.st.length → j ≠ b → e'.st[j]? = e.st[j]?) ∧ ∀ f, e.st[b]? = some f → ∃ f', e'.st[b]? = some f' ∧ f'.key = f.key ∧ f'.own = f.own ∧ f'.tr = f.tr
theorem Keep.trans {a b c : En} {i : Nat} (h : Keep a b i) (h' : Keep b c i) (hl : a.st.length ≤ b.st.length) : Keep a c i := by
  refine ⟨fun j hj hji => (h'.1 j (by omega) hji).trans (h.1 j hj hji), fun f hf => ?_⟩
  obtain ⟨f1, a1, a2, a3, a4⟩ := h.2 f hf
  obtain ⟨f2, b1, b2, b3, b4⟩ := h'.2 f1 a1
  exact ⟨f2, b1, b2.trans a2, b3.trans a3, b4.trans a4⟩
def Df (t t' : Tr) : Prop := ∃ k y y', (k, y) ∈ t ∧ (k, y') ∈ t' ∧ y ≠ y'
theorem Df.mono {t t' t'' : Tr} (h : Df t t') (hs : ∀ p, p ∈ t' → p ∈ t'') : Df t t'' := by
  obtain ⟨k, y, y', h1, h2, h3⟩ := h
  exact ⟨k, y, y', h1, hs _ h2, h3⟩
def DfK (e : En) (x : Ky) (t : Tr) : Prop := (∃ q, okOf e.qs x = some q ∧ Df t q.tr) ∨ (okOf e.qs x = none ∧ ∃ f, f ∈ e.st ∧ f.key = x ∧ Df t f.tr)
structure Pd (Q : Ky → Option Tr) (e : En) : Prop where
  old : ∀ k t, Q k = some t → okOf e.qs k = none → ∃ q, aGet e.qs k = some q ∧ q.tr = t
  new : ∀ x, x ∈ e.comp → ∀ t, Q x = some t → DfK e x t
def FrUp (e e' : En) : Prop := ∀ f, f ∈ e.st → (okOf e'.qs f.key = none ∧ ∃ f', f' ∈ e'.st ∧ f'.key = f.key ∧ ∀ p, p ∈ f.tr → p ∈ f'.tr) ∨ ∃ q, okOf e'.qs f.key = some q ∧ ∀ p, p ∈ f.tr → p ∈ q.tr
theorem DfK.up {e e' : En} {x : Ky} {t : Tr} (h : DfK e x t) (hE : Ext e e') (hf : FrUp e e') : DfK e' x t := by
  rcases h with ⟨q, h1, h2⟩ | ⟨_, f, h1, rfl, h2⟩
  · obtain ⟨q', a1, _, a3, _⟩ := hE.ok x q h1
    exact .inl ⟨q', a1, by rw [a3]; exact h2⟩
  · rcases hf f h1 with ⟨a1, f', a2, a3, a4⟩ | ⟨q, a1, a2⟩
    · exact .inr ⟨a1, f', a2, a3, h2.mono a4⟩
    · exact .inl ⟨q, a1, h2.mono a2⟩
theorem Pd.up {Q : Ky → Option Tr} {e e' : En} (h : Pd Q e) (hE : Ext e e') (hf : FrUp e e') (hc : e'.comp = e.comp) : Pd Q e' :=
  ⟨fun k t hk hn => by rw [hE.un k hn]; exact h.old k t hk (hE.ok' hn), fun x hx t ht => (h.new x (by rw [← hc]; exact hx) t ht).up hE hf⟩
theorem FrUp.same {e e' : En} (hs : e'.st = e.st) (hn : ∀ f, f ∈ e.st → okOf e'.qs f.key = none) : FrUp e e' := fun f hf => .inl ⟨hn f hf, f, by rw [hs]; exact hf, rfl, fun _ h => h⟩
theorem FrUp.mod {e e' : En} {i : Nat} {F : Fr → Fr} (hs : e'.st = upd e.st i F) (hn : ∀ f, f ∈ e.st → okOf e'.qs f.key = none) (hk : ∀ f, (F f).key = f.key) (ht : ∀ f, e.st[i]? = some f → ∀ p, p ∈ f.tr → p ∈ (F f).tr) : FrUp e e' := fun f hf => by
  obtain ⟨j, hj⟩ := List.mem_iff_getElem?.1 hf
  have h1 : e'.st[j]? = if i = j then some (F f) else some f := by rw [hs, upd_get, hj]; rfl
  by_cases e1 : i = j
  · rw [if_pos e1] at h1
    exact .inl ⟨hn f hf, F f, List.mem_of_getElem? h1, hk f, ht f (by rw [e1]; exact hj)⟩
  · rw [if_neg e1] at h1
    exact .inl ⟨hn f hf, f, List.mem_of_getElem? h1, rfl, fun _ h => h⟩
structure OPost (rule : Ky → Ru) (U : List Ky) (e : En) (g : List Tr) (b : Nat) (h : Tr) (e' : En) : Prop where
  q : QInv rule U e'
  ext : Ext e e'
  on : e'.out = false → ∃ gn, Gl rule U e' (upd g b (· ++ h) ++ gn) ∧ Seg rule e' (upd g b (· ++ h) ++ gn) b ∧ Keep e e' b
  df : ∀ Q, e'.out = false → Pd Q e → Pd Q e'
theorem OPost.len {e e' : En} {g : List Tr} {b : Nat} {h : Tr} {gn : List Tr} (hG : Gl rule U e g) (hG' : Gl rule U e' (upd g b (· ++ h) ++ gn)) : e.st.length ≤ e'.st.length := by
  have h1 := hG.len; have h2 := hG'.len
  rw [List.length_append, upd_len] at h2; omega
theorem upd_nil (g : List Tr) (b : Nat) : upd g b (· ++ []) = g := upd_id _ _ _ fun a => List.append_nil a
theorem upd_join {g : List Tr} {b : Nat} {h h' : Tr} {gn gn' : List Tr} (hb : b < g.length) : upd (upd g b (· ++ h) ++ gn) b (· ++ h') ++ gn' = upd g b (· ++ (h ++ h')) ++ (gn ++ gn') := by
  rw [upd_left _ _ _ _ (by rw [upd_len]; exact hb), upd_upd, List.append_assoc]
  congr 2
  funext a; exact List.append_assoc _ _ _
def ObOk (rule : Ky → Ru) (U : List Ky) (N : Nat) (ob : Ky → Nat → En → An × En) : Prop := ∀ e g b k, Gl rule U e g → Seg rule e g b → e.out = false → k ∈ U → N ≤ e.st.length → OPost rule U e g b [(k, (ob k b e).1)] (ob k b e).2
inductive RuIn (U : List Ky) : Ru → Prop
  | ret (a : An) : RuIn U (.ret a)
  | ask {k : Ky} {f : An → Ru} : k ∈ U → (∀ a, RuIn U (f a)) → RuIn U (.ask k f)
theorem hold_ok {ob : Ky → Nat → En → An × En} {N : Nat} (ho : ObOk rule U N ob) : ∀ (T : Tr) {e : En} {g : List Tr} {b : Nat}, Gl rule U e g → Seg rule e g b → e.out = false → (∀ p, p ∈ T → p.1 ∈ U) → N ≤ e.st.length →
    ∃ h, OPost rule U e g b h (holdG ob b T e).2 ∧ ((holdG ob b T e).1 = true → (holdG ob b T e).2.out = false ∧ h = T) ∧ ((holdG ob b T e).1 = false → (holdG ob b T e).2.out = false → ∃ pre k y rest x, T = pre ++ (k, y) :: rest ∧ h = pre ++ [(k, x)] ∧ x ≠ y)
  | [], e, g, b, hG, hS, ho0, _, _ => ⟨[], ⟨hG.q, Ext.refl e, fun _ => ⟨[], by rw [upd_nil, List.append_nil]; exact hG, by rw [upd_nil, List.append_nil]; exact hS, fun _ _ _ => rfl, fun f hf => ⟨f, hf, rfl, rfl, rfl⟩⟩, fun _ _ h => h⟩, fun _ => ⟨ho0, rfl⟩, fun h => by cases h⟩
  | (k, a) :: T, e, g, b, hG, hS, ho0, hT, hN => by
    have h1 := ho e g b k hG hS ho0 (hT _ (.head _)) hN
    rw [holdG]
    obtain ⟨r, hr⟩ : ∃ r, ob k b e = r := ⟨_, rfl⟩
    rw [hr] at h1 ⊢
    by_cases hc : r.1 ≠ a ∨ r.2.out = true
    · rw [if_pos hc]
      exact ⟨[(k, r.1)], h1, (fun h => by cases h), fun _ ho9 => ⟨[], k, a, T, r.1, rfl, rfl, hc.resolve_right (by rw [show r.2.out = false from ho9]; decide)⟩⟩
    · rw [if_neg hc]
      have hra : r.1 = a := Decidable.not_not.1 fun h => hc (.inl h)
      have hro : r.2.out = false := by
        cases h : r.2.out with
        | false => rfl
        | true => exact absurd (.inr h) hc
      obtain ⟨gn, g1, g2, g3⟩ := h1.on hro
      have hl := OPost.len hG g1
      obtain ⟨h, p1, p2, p3⟩ := hold_ok ho T g1 g2 hro (fun p hp => hT p (.tail _ hp)) (by omega)
      refine ⟨(k, r.1) :: h, ⟨p1.q, h1.ext.trans p1.ext, fun hout => ?_, fun Q hout hp => p1.df Q hout (h1.df Q hro hp)⟩, fun ht => ?_, fun hf hout => ?_⟩
      · obtain ⟨gn', q1, q2, q3⟩ := p1.on hout
        rw [upd_join (by rw [hG.len]; exact hS.lt)] at q1 q2
        exact ⟨_, q1, q2, g3.trans q3 hl⟩
      · obtain ⟨a1, a2⟩ := p2 ht
        exact ⟨a1, by rw [a2, hra]⟩
      · obtain ⟨pre, k', y, rest, x, a1, a2, a3⟩ := p3 hf hout
        exact ⟨(k, a) :: pre, k', y, rest, x, by rw [a1]; rfl, by rw [a2, hra]; rfl, a3⟩
def Still (ob : Ky → Nat → En → An × En) : Prop := ∀ e k b, e.out = true → (ob k b e).2 = e
theorem run_out {ob : Ky → Nat → En → An × En} (hs : Still ob) : ∀ (r : Ru) (e : En) (b : Nat), e.out = true → (runG ob b r e).2.out = true ∧ (runG ob b r e).2.inp = e.inp ∧ (runG ob b r e).2.qs = e.qs ∧ (runG ob b r e).2.gets = e.gets ∧ (runG ob b r e).2.comp = e.comp ∧ (runG ob b r e).2.fuel = e.fuel ∧ (runG ob b r e).2.st.map Fr.key = e.st.map Fr.key := by
  intro r
  induction r with
  | ret a => intro e b h; exact ⟨h, rfl, rfl, rfl, rfl, rfl, rfl⟩
  | ask k f ih =>
    intro e b h
    rw [runG]
    cases hg : aGet (trOf e b) k with
    | some x => exact ih x e b h
    | none =>
      simp only
      rw [hs e k b h]
      obtain ⟨a1, a2, a3, a4, a5, a6, a7⟩ := ih (ob k b e).1 (addTr e b k (ob k b e).1) b h
      exact ⟨a1, a2, a3, a4, a5, a6, a7.trans (upd_map _ _ _ _ fun _ => rfl)⟩
structure RPost (rule : Ky → Ru) (U : List Ky) (e : En) (g : List Tr) (b : Nat) (f0 : Fr) (r : Ru) (a : An) (e' : En) : Prop where
  q : QInv rule U e'
  ext : Ext e e'
  on : e'.out = false → ∃ t gn f1, Gl rule U e' (upd g b (· ++ t) ++ gn) ∧ Seg rule e' (upd g b (· ++ t) ++ gn) b ∧ (∀ j, j < e.st.length → j ≠ b → e'.st[j]? = e.st[j]?) ∧ e'.st[b]? = some f1 ∧ f1.key = f0.key ∧ f1.tr = f0.tr ++ t ∧ Fits r f0.tr t a
  df : ∀ Q, e'.out = false → Pd Q e → Pd Q e'
theorem run_ok {ob : Ky → Nat → En → An × En} {N : Nat} (ho : ObOk rule U N ob) (hst : Still ob) {r : Ru} (hr : RuIn U r) : ∀ {e : En} {g : List Tr} {b : Nat} {f0 : Fr}, Gl rule U e g → Seg rule e g b → N ≤ e.st.length → e.st[b]? = some f0 → e.out = false → RPost rule U e g b f0 r (runG ob b r e).1 (runG ob b r e).2 := by
  induction hr with
  | ret a => exact fun hG hS _ hf _ => ⟨hG.q, Ext.refl _, fun _ => ⟨[], [], _, by rw [upd_nil, List.append_nil]; exact hG, by rw [upd_nil, List.append_nil]; exact hS, fun _ _ _ => rfl, hf, rfl, (List.append_nil _).symm, .ret⟩, fun _ _ h => h⟩
  | @ask k f hk _ ih =>
    intro e g b f0 hG hS hN hf ho0
    rw [runG]
    have htr : trOf e b = f0.tr := by unfold trOf; rw [hf]
    cases hg : aGet (trOf e b) k with
    | some x =>
      have h1 := ih x hG hS hN hf ho0
      refine ⟨h1.q, h1.ext, fun hout => ?_, h1.df⟩
      obtain ⟨t, gn, f1, a1, a2, a3, a4, a5, a6, a7⟩ := h1.on hout
      exact ⟨t, gn, f1, a1, a2, a3, a4, a5, a6, .known (by rw [← htr]; exact hg) a7⟩
    | none =>
      simp only
      have h1 := ho e g b k hG hS ho0 hk hN
      obtain ⟨rr, hrr⟩ : ∃ r, ob k b e = r := ⟨_, rfl⟩
      rw [hrr] at h1 ⊢
      cases hro : rr.2.out with
      | true =>
        obtain ⟨a1, a2, a3, a4, _⟩ := run_out hst (f rr.1) (addTr rr.2 b k rr.1) b hro
        exact ⟨h1.q.same a2 a3, h1.ext.trans (Ext.same a2 a3 a4), (fun h => by rw [a1] at h; cases h), (fun Q h => by rw [a1] at h; cases h)⟩
      | false =>
        obtain ⟨gn, g1, g2, g3, g4⟩ := h1.on hro
        have hl := OPost.len hG g1
        obtain ⟨f1, b1, b2, b3, b4⟩ := g4 f0 hf
        have hG' := g1.setB (b := b) (F := fun f : Fr => { f with tr := f.tr ++ [(k, rr.1)] }) (fun _ => rfl) (fun _ => rfl)
        have hS' := g2.setB (F := fun f : Fr => { f with tr := f.tr ++ [(k, rr.1)] }) (fun _ => rfl) (fun _ => rfl) (fun _ => rfl)
        have hf' : (addTr rr.2 b k rr.1).st[b]? = some { f1 with tr := f1.tr ++ [(k, rr.1)] } := by show (upd rr.2.st b _)[b]? = _; rw [upd_get, if_pos rfl, b1]; rfl
        have hl' : (addTr rr.2 b k rr.1).st.length = rr.2.st.length := upd_len _ _ _
        have h2 := ih rr.1 (e := addTr rr.2 b k rr.1) hG' hS' (by omega) hf' hro
        refine ⟨h2.q, h1.ext.trans ((Ext.same (e := rr.2) (e' := addTr rr.2 b k rr.1) rfl rfl rfl).trans h2.ext), fun hout => ?_, fun Q hout hp => h2.df Q hout ((h1.df Q hro hp).up (e' := addTr rr.2 b k rr.1) (Ext.same rfl rfl rfl) (FrUp.mod rfl (fun f hf => (g1.kin f hf).2.1) (fun _ => rfl) fun f _ p hp => List.mem_append_left _ hp) rfl)⟩
        obtain ⟨t, gn', f2, c1, c2, c3, c4, c5, c6, c7⟩ := h2.on hout
        rw [upd_join (by rw [hG.len]; exact hS.lt)] at c1 c2
        refine ⟨(k, rr.1) :: t, _, f2, c1, c2, fun j hj hjb => ?_, c4, c5.trans b2, ?_, ?_⟩
        · rw [c3 j (by omega) hjb]
          show (upd rr.2.st b _)[j]? = _
          rw [upd_get, if_neg (fun h => hjb h.symm)]; exact g3 j hj hjb
        · rw [c6]; show (f1.tr ++ [(k, rr.1)]) ++ t = _; rw [b4, List.append_assoc]; rfl
        · refine .new (by rw [← htr]; exact hg) ?_
          have : ({ f1 with tr := f1.tr ++ [(k, rr.1)] } : Fr).tr = f0.tr ++ [(k, rr.1)] := by show f1.tr ++ _ = _; rw [b4]
          rw [this] at c7; exact c7
theorem comp_ok {ob : Ky → Nat → En → An × En} {N : Nat} (ho : ObOk rule U N ob) (hst : Still ob) {r : Ru} (hr : RuIn U r) {k : Ky} {e : En} {g : List Tr} {b : Nat} {f0 : Fr} (hG : Gl rule U e g) (hS : Seg rule e g b) (hN : N ≤ e.st.length) (hf : e.st[b]? = some f0) (hf0 : f0.tr = []) :
    QInv rule U (compG ob r k b e) ∧ Ext e (compG ob r k b e) ∧ ((compG ob r k b e).out = false → ∃ t gn f1, Gl rule U (compG ob r k b e) (upd g b (· ++ t) ++ gn) ∧ Seg rule (compG ob r k b e) (upd g b (· ++ t) ++ gn) b ∧ (∀ j, j < e.st.length → j ≠ b → (compG ob r k b e).st[j]? = e.st[j]?) ∧ (compG ob r k b e).st[b]? = some f1 ∧ f1.key = f0.key ∧ f1.tr = t ∧ Fits r [] t f1.own) ∧
      ∀ Q, (compG ob r k b e).out = false → Pd Q e → f0.key = k → (∀ t f1, Q k = some t → (compG ob r k b e).st[b]? = some f1 → Df t f1.tr) → Pd Q (compG ob r k b e) := by
  unfold compG
  by_cases h1 : e.out = true ∨ e.fuel = 0
  · rw [if_pos h1]
    exact ⟨hG.q.same rfl rfl, Ext.same rfl rfl rfl, (fun h => by cases h), (fun Q h => by cases h)⟩
  · rw [if_neg h1]
    have ho0 : e.out = false := by
      cases h : e.out with
      | false => rfl
      | true => exact absurd (.inl h) h1
    have h2 := run_ok ho hst hr (e := { e with fuel := e.fuel - 1 }) (hG.same rfl rfl rfl) (hS.same rfl) hN hf ho0
    obtain ⟨rr, hrr⟩ : ∃ x, runG ob b r { e with fuel := e.fuel - 1 } = x := ⟨_, rfl⟩
    rw [hrr] at h2 ⊢
    have hx : Ext e rr.2 := (Ext.same (e := e) (e' := { e with fuel := e.fuel - 1 }) rfl rfl rfl).trans h2.ext
    by_cases h3 : rr.2.out = true
    · rw [if_pos h3]
      exact ⟨h2.q, hx, (fun h => by rw [h3] at h; cases h), (fun Q h => by rw [h3] at h; cases h)⟩
    · rw [if_neg h3]
      have h3 : rr.2.out = false := by simpa using h3
      obtain ⟨t, gn, f1, a1, a2, a3, a4, a5, a6, a7⟩ := h2.on h3
      rw [hf0] at a6 a7
      have hG' := a1.setB (b := b) (F := fun f : Fr => { f with own := rr.1 }) (fun _ => rfl) (fun _ => rfl)
      have hS' := a2.setB (F := fun f : Fr => { f with own := rr.1 }) (fun _ => rfl) (fun _ => rfl) (fun _ => rfl)
      refine ⟨h2.q.same rfl rfl, hx.trans (Ext.same rfl rfl rfl), fun _ => ⟨t, gn, { f1 with own := rr.1 }, hG'.same rfl rfl rfl, hS'.same rfl, fun j hj hjb => ?_, ?_, a5, a6, a7⟩, ?_⟩
      · show (upd rr.2.st b _)[j]? = _
        rw [upd_get, if_neg (fun h => hjb h.symm)]; exact a3 j hj hjb
      · show (upd rr.2.st b _)[b]? = _
        rw [upd_get, if_pos rfl, a4]; rfl
      · intro Q _ hp hk hd
        have p1 := h2.df Q h3 (hp.up (e' := { e with fuel := e.fuel - 1 }) (Ext.same rfl rfl rfl) (FrUp.same rfl fun f hf => (hG.kin f hf).2.1) rfl)
        have p2 := p1.up (e' := setOwn rr.2 b rr.1) (Ext.same rfl rfl rfl) (FrUp.mod rfl (fun f hf => (a1.kin f hf).2.1) (fun _ => rfl) fun f _ p hp => hp) rfl
        refine ⟨p2.old, fun x hx t ht => ?_⟩
        have hx : x ∈ rr.2.comp ++ [k] := hx
        rcases List.mem_append.1 hx with hx | hx
        · exact p2.new x hx t ht
        · obtain rfl := List.mem_singleton.1 hx
          have hfb : (setOwn rr.2 b rr.1).st[b]? = some { f1 with own := rr.1 } := by
            show (upd rr.2.st b _)[b]? = _
            rw [upd_get, if_pos rfl, a4]; rfl
          exact .inr ⟨by rw [← hk, ← a5]; exact (a1.kin f1 (List.mem_of_getElem? a4)).2.1, { f1 with own := rr.1 }, List.mem_of_getElem? hfb, a5.trans hk, hd t _ ht hfb⟩
theorem fits_pre {r : Ru} : ∀ {pre : Tr} {t0 : Tr} {k : Ky} {y : An} {rest : Tr} {o : An}, Fits r t0 (pre ++ (k, y) :: rest) o → ∀ {t : Tr} {a : An}, Fits r t0 t a → (∀ p, p ∈ pre → ∀ x', (p.1, x') ∈ t → x' = p.2) → ∃ x' s, t = pre ++ (k, x') :: s := by
  have main : ∀ {r : Ru} {t0 T : Tr} {o : An}, Fits r t0 T o → ∀ {pre : Tr} {k : Ky} {y : An} {rest : Tr}, T = pre ++ (k, y) :: rest → ∀ {t : Tr} {a : An}, Fits r t0 t a → (∀ p, p ∈ pre → ∀ x', (p.1, x') ∈ t → x' = p.2) → ∃ x' s, t = pre ++ (k, x') :: s := by
    intro r t0 T o h
    induction h with
    | ret => intro pre k y rest hT; exact absurd hT (by simp)
    | known h1 _ ih =>
      intro pre k y rest hT t a h' hp
      cases h' with
      | known h2 h3 => rw [h1] at h2; cases h2; exact ih hT h3 hp
      | new h2 h3 => rw [h1] at h2; cases h2
    | @new k0 f t0 T x o h1 _ ih =>
      intro pre k y rest hT t a h' hp
      cases h' with
      | known h2 h3 => rw [h1] at h2; cases h2
      | @new _ _ _ t' x' _ h2 h3 =>
        cases pre with
        | nil =>
          rw [List.nil_append, List.cons.injEq] at hT
          have : k0 = k := congrArg Prod.fst hT.1
          exact ⟨x', t', by rw [this]; rfl⟩
        | cons p pre =>
          rw [List.cons_append, List.cons.injEq] at hT
          obtain ⟨hp0, hT⟩ := hT
          have e1 : x' = x := by
            have := hp p (.head _) x' (by rw [← hp0]; exact .head _)
            rw [this, ← hp0]
          subst e1
          obtain ⟨x2, s, hs⟩ := ih hT h3 fun q hq z hz => hp q (.tail _ hq) z (.tail _ hz)
          exact ⟨x2, s, by rw [hs, ← hp0]; rfl⟩
  intro pre t0 k y rest o h
  exact main h rfl
theorem upd_last (g : List Tr) (t : Tr) : upd (g ++ [[]]) g.length (· ++ t) = g ++ [t] := by
  have := upd_right g [[]] 0 (· ++ t)
  rw [Nat.add_zero] at this
  rw [this]; rfl
theorem visit_ok {ob : Ky → Nat → En → An × En} {N : Nat} (hob : ObOk rule U N ob) (hst : Still ob) {k : Ky} (hr : RuIn U (rule k)) {e : En} {g : List Tr} (hG : Gl rule U e g) (hout : e.out = false) (hN : N ≤ e.st.length + 1) (hki : aGet e.inp k = none) (hko : okOf e.qs k = none) (hks : ∀ f, f ∈ e.st → f.key ≠ k) (hkU : k ∈ U) :
    QInv rule U (visit ob (rule k) k e) ∧ Ext e (visit ob (rule k) k e) ∧ ((visit ob (rule k) k e).out = false → ∃ to gn fo, Gl rule U (visit ob (rule k) k e) (g ++ to :: gn) ∧ Seg rule (visit ob (rule k) k e) (g ++ to :: gn) e.st.length ∧ (∀ j, j < e.st.length → (visit ob (rule k) k e).st[j]? = e.st[j]?) ∧ (visit ob (rule k) k e).st[e.st.length]? = some fo ∧ fo.key = k ∧ (∀ p, p ∈ to ↔ p ∈ fo.tr) ∧ Fits (rule fo.key) [] fo.tr fo.own) ∧
      ∀ Q, (visit ob (rule k) k e).out = false → Pd Q e → Pd Q (visit ob (rule k) k e) := by
  obtain ⟨n, hn⟩ : ∃ n, n = e.st.length := ⟨_, rfl⟩
  have hgl : g.length = n := by rw [hn]; exact hG.len
  obtain ⟨e1, he1⟩ : ∃ e1, e1 = push e k := ⟨_, rfl⟩
  have hst1 : e1.st = e.st ++ [⟨k, n, false, nilA, []⟩] := by rw [he1, hn]; rfl
  have hl1 : e1.st.length = n + 1 := by rw [hst1, List.length_append, ← hn]; rfl
  have hx1 : Ext e e1 := by rw [he1]; exact Ext.same rfl rfl rfl
  have hf1 : e1.st[n]? = some ⟨k, n, false, nilA, []⟩ := by rw [hst1, List.getElem?_append_right (by omega), ← hn, Nat.sub_self]; rfl
  have hpre1 : ∀ j, j < n → e1.st[j]? = e.st[j]? := fun j hj => by rw [hst1, List.getElem?_append_left (by omega)]
  have hkey1 : ∀ f, f ∈ e1.st → f ∈ e.st ∨ f = ⟨k, n, false, nilA, []⟩ := fun f hf => by rw [hst1] at hf; exact (List.mem_append.1 hf).imp id fun h => List.mem_singleton.1 h
  have noE : ∀ {i j}, Eg e1.st (g ++ [[]]) i j → Eg e.st g i j := by
    rintro i j ⟨fj, t, a1, a2, a3, a4⟩
    have hi : i < n := by
      refine Nat.lt_of_not_le fun h => ?_
      have : i = n := by omega
      rw [this, List.getElem?_append_right (by omega), hgl, Nat.sub_self] at a2
      cases a2; cases a4
    rw [List.getElem?_append_left (by omega)] at a2
    have hj : j < n := by
      refine Nat.lt_of_not_le fun h => ?_
      have hjl := (List.getElem?_eq_some_iff.1 a1).1
      have : j = n := by omega
      rw [this, hf1] at a1; cases a1
      obtain ⟨p, hp, hpe⟩ := List.mem_map.1 a4
      have hpe : p.1 = k := hpe
      rcases (hG.ans i t a2 p hp).1 with ⟨s, b1, _⟩ | ⟨_, q, b1, _⟩ | ⟨_, _, ⟨f, b1, b2⟩, _⟩
      · rw [hpe, hki] at b1; cases b1
      · rw [hpe, hko] at b1; cases b1
      · exact hks f b1 (b2.trans hpe)
    rw [hpre1 j hj] at a1
    exact ⟨fj, t, a1, a2, by omega, a4⟩
  have upE : ∀ {i j}, Eg e.st g i j → Eg e1.st (g ++ [[]]) i j := by
    rintro i j ⟨fj, t, a1, a2, a3, a4⟩
    have hj : j < n := by rw [hn]; exact (List.getElem?_eq_some_iff.1 a1).1
    exact ⟨fj, t, by rw [hpre1 j hj]; exact a1, by rw [List.getElem?_append_left (by omega)]; exact a2, by omega, a4⟩
  have hG1 : Gl rule U e1 (g ++ [[]]) := by
    refine ⟨by rw [he1]; exact hG.q.same rfl rfl, by rw [List.length_append, hgl, hl1]; rfl, ?_, fun f hf => ?_, fun i t ht p hp => ?_, fun i f hf => ?_⟩
    · rw [hst1, List.map_append, List.nodup_append]
      refine ⟨hG.nd, by simp, fun a ha b hb => ?_⟩
      obtain ⟨f, hf, rfl⟩ := List.mem_map.1 ha
      have hb : b = k := by simpa using hb
      rw [hb]; exact hks f hf
    · rw [he1]
      rcases hkey1 f hf with h | h
      · exact hG.kin f h
      · subst h; exact ⟨hki, hko, hkU⟩
    · rcases Nat.lt_or_ge i n with h | h
      · rw [List.getElem?_append_left (by omega)] at ht
        obtain ⟨a1, a2⟩ := hG.ans i t ht p hp
        refine ⟨a1.up hx1 fun f hf hfk => ⟨⟨f, by rw [hst1]; exact List.mem_append_left _ hf, hfk⟩, by rw [he1, ← hfk]; exact (hG.kin f hf).2.1⟩, a2⟩
      · rw [List.getElem?_append_right (by omega)] at ht
        have := List.mem_of_getElem? ht
        rw [List.mem_singleton.1 this] at hp; cases hp
    · rcases Nat.lt_or_ge i n with h | h
      · rw [hpre1 i h] at hf
        obtain ⟨a1, a2⟩ := hG.low i f hf
        exact ⟨a1, fun hlt => (a2 hlt).mono fun _ _ hE => upE hE⟩
      · have hil := (List.getElem?_eq_some_iff.1 hf).1
        have : i = n := by omega
        rw [this, hf1] at hf; cases hf
        exact ⟨by show n ≤ i; omega, fun hlt => by have hlt : n < i := hlt; omega⟩
  have hS1 : Seg rule e1 (g ++ [[]]) n := by
    have nolt : ∀ {j : Nat} {f : Fr}, n < j → e1.st[j]? = some f → False := fun hj hf => by have := (List.getElem?_eq_some_iff.1 hf).1; omega
    have noEn : ∀ {i j}, n ≤ i → ¬ Eg e1.st (g ++ [[]]) i j := fun hi hE => by have := (noE hE).choose_spec.choose_spec.2.2.1; omega
    exact ⟨by omega, fun j f hj hf => (nolt hj hf).elim, fun j hj hl => by omega, fun j f fb hj hf _ => (nolt hj hf).elim, fun i j fb hi hE _ => (noEn hi hE).elim, fun fb hfb => by rw [hf1] at hfb; cases hfb; exact ⟨(fun h => by cases h), fun h => (noEn (Nat.le_refl _) h).elim⟩, fun j f t hj hf _ => (nolt hj hf).elim⟩
  have fin : ∀ {e2 : En} {to : Tr} {gn : List Tr} {fo : Fr}, Gl rule U e2 (upd (g ++ [[]]) n (· ++ to) ++ gn) → Seg rule e2 (upd (g ++ [[]]) n (· ++ to) ++ gn) n → (∀ j, j < e1.st.length → j ≠ n → e2.st[j]? = e1.st[j]?) → Gl rule U e2 (g ++ to :: gn) ∧ Seg rule e2 (g ++ to :: gn) n ∧ ∀ j, j < n → e2.st[j]? = e.st[j]? := by
    intro e2 to gn fo h1 h2 h3
    have e3 : upd (g ++ [[]]) n (· ++ to) ++ gn = g ++ to :: gn := by rw [← hgl, upd_last, List.append_assoc]; rfl
    rw [e3] at h1 h2
    exact ⟨h1, h2, fun j hj => (h3 j (by omega) (by omega)).trans (hpre1 j hj)⟩
  have pd1 : ∀ {Q}, Pd Q e → Pd Q e1 := fun hp => hp.up hx1 (fun f hf => .inl ⟨by rw [he1]; exact (hG.kin f hf).2.1, f, by rw [hst1]; exact List.mem_append_left _ hf, rfl, fun _ h => h⟩) (by rw [he1]; rfl)
  unfold visit
  rw [← hn, ← he1]
  cases hq : aGet e.qs k with
  | none =>
    simp only
    obtain ⟨c1, c2, c3, c4⟩ := comp_ok (k := k) hob hst hr hG1 hS1 (by omega) hf1 rfl
    refine ⟨c1, hx1.trans c2, fun hout2 => ?_, fun Q hout2 hp => c4 Q hout2 (pd1 hp) rfl fun t f1 hQ _ => by
      obtain ⟨q, h1, _⟩ := hp.old k t hQ hko
      rw [hq] at h1; cases h1⟩
    obtain ⟨t, gn, f1, a1, a2, a3, a4, a5, a6, a7⟩ := c3 hout2
    obtain ⟨b1, b2, b3⟩ := fin (fo := f1) a1 a2 a3
    exact ⟨t, gn, f1, b1, b2, b3, a4, a5, fun p => by rw [a6], by rw [a5, a6]; exact a7⟩
  | some q =>
    simp only
    obtain ⟨_, hqf, _, hqU⟩ := hG.q.old k q hq
    obtain ⟨h, p1, p2, p3⟩ := hold_ok hob q.tr hG1 hS1 (by rw [he1]; exact hout) hqU (by omega)
    obtain ⟨H, hH⟩ : ∃ H, holdG ob n q.tr e1 = H := ⟨_, rfl⟩
    rw [hH] at p1 p2 p3 ⊢
    cases hb : H.1 with
    | true =>
      rw [if_pos rfl]
      obtain ⟨a1, a2⟩ := p2 hb
      obtain ⟨gn, g1, g2, g3, g4⟩ := p1.on a1
      obtain ⟨f1, b1, b2, _, b4⟩ := g4 _ hf1
      have hG' := g1.setB (b := n) (F := fun f : Fr => { f with own := q.own, tr := q.tr }) (fun _ => rfl) (fun _ => rfl)
      have hS' := g2.setB (F := fun f : Fr => { f with own := q.own, tr := q.tr }) (fun _ => rfl) (fun _ => rfl) (fun _ => rfl)
      refine ⟨p1.q.same rfl rfl, hx1.trans (p1.ext.trans (Ext.same rfl rfl rfl)), fun _ => ?_, fun Q _ hp => (p1.df Q a1 (pd1 hp)).up (e' := setFr H.2 n q.own q.tr) (Ext.same rfl rfl rfl) (FrUp.mod rfl (fun f hf => (g1.kin f hf).2.1) (fun _ => rfl) fun f hf p hp => by
        rw [b1] at hf; cases hf
        rw [b4] at hp; cases hp) rfl⟩
      obtain ⟨c1, c2, c3⟩ := fin (fo := f1) hG' hS' fun j hj hjn => by
        show (upd H.2.st n _)[j]? = _
        rw [upd_get, if_neg (fun h => hjn h.symm)]; exact g3 j hj hjn
      refine ⟨h, gn, { f1 with own := q.own, tr := q.tr }, c1, c2, c3, ?_, b2, fun p => by rw [a2], ?_⟩
      · show (upd H.2.st n _)[n]? = _
        rw [upd_get, if_pos rfl, b1]; rfl
      · show Fits (rule f1.key) [] q.tr q.own
        rw [b2]; exact hqf
    | false =>
      rw [if_neg (by decide)]
      cases hHo : H.2.out with
      | true =>
        have hce : compG ob (rule k) k n H.2 = { H.2 with out := true } := by unfold compG; rw [if_pos (.inl hHo)]
        rw [hce]
        exact ⟨p1.q.same rfl rfl, hx1.trans (p1.ext.trans (Ext.same rfl rfl rfl)), (fun h => by cases h), (fun Q h => by cases h)⟩
      | false =>
        obtain ⟨gn, g1, g2, g3, g4⟩ := p1.on hHo
        obtain ⟨f1, b1, b2, b3, b4⟩ := g4 _ hf1
        have hlH := OPost.len hG1 g1
        obtain ⟨c1, c2, c3, c4⟩ := comp_ok (k := k) hob hst hr g1 g2 (by omega) b1 (by rw [b4])
        have main : (compG ob (rule k) k n H.2).out = false → (∃ to gn fo, Gl rule U (compG ob (rule k) k n H.2) (g ++ to :: gn) ∧ Seg rule (compG ob (rule k) k n H.2) (g ++ to :: gn) n ∧ (∀ j, j < n → (compG ob (rule k) k n H.2).st[j]? = e.st[j]?) ∧ (compG ob (rule k) k n H.2).st[n]? = some fo ∧ fo.key = k ∧ (∀ p, p ∈ to ↔ p ∈ fo.tr) ∧ Fits (rule fo.key) [] fo.tr fo.own) ∧
            ∀ f1, (compG ob (rule k) k n H.2).st[n]? = some f1 → Df q.tr f1.tr := by
          intro hout2
          obtain ⟨t, gn', f2, a1, a2, a3, a4, a5, a6, a7⟩ := c3 hout2
          rw [upd_join (by rw [List.length_append, hgl]; show n < n + 1; omega)] at a1 a2
          obtain ⟨d1, d2, d3⟩ := fin (fo := f2) a1 a2 fun j hj hjn => (a3 j (by omega) hjn).trans (g3 j hj hjn)
          have hto : (g ++ (h ++ t) :: (gn ++ gn'))[n]? = some (h ++ t) := by rw [List.getElem?_append_right (by omega), hgl, Nat.sub_self]; rfl
          have one : ∀ p x', p ∈ h ++ t → (p.1, x') ∈ h ++ t → x' = p.2 := fun p x' hp hx' => (d1.ans n _ hto _ hx').1.one (d1.ans n _ hto p hp).1
          obtain ⟨pre, k1, y, rest, x, e3, e4, e5⟩ := p3 hb hHo
          have hqf2 := hqf
          rw [e3] at hqf2
          obtain ⟨x', s, hs⟩ := fits_pre hqf2 a7 fun p hp x' hx' => one p x' (List.mem_append_left _ (by rw [e4]; exact List.mem_append_left _ hp)) (List.mem_append_right _ hx')
          have hxx : x = x' := one (k1, x') x (List.mem_append_right _ (by rw [hs]; exact List.mem_append_right _ (.head _))) (List.mem_append_left _ (by rw [e4]; exact List.mem_append_right _ (.head _)))
          have hsub : ∀ p, p ∈ h → p ∈ t := by
            intro p hp
            rw [e4] at hp
            rcases List.mem_append.1 hp with h5 | h5
            · rw [hs]; exact List.mem_append_left _ h5
            · have hp1 := List.mem_singleton.1 h5
              rw [hp1, hxx, hs]; exact List.mem_append_right _ (.head _)
          refine ⟨⟨h ++ t, _, f2, d1, d2, d3, a4, a5.trans b2, fun p => ?_, ?_⟩, fun f9 hf9 => ?_⟩
          · rw [a6]
            exact ⟨fun hp => (List.mem_append.1 hp).elim (hsub p) id, fun hp => List.mem_append_right _ hp⟩
          · rw [a5.trans b2, a6]; exact a7
          · rw [a4] at hf9; cases hf9
            refine ⟨k1, y, x', by rw [e3]; exact List.mem_append_right _ (.head _), by rw [a6, hs]; exact List.mem_append_right _ (.head _), fun h => e5 (hxx.trans h.symm)⟩
        refine ⟨c1, hx1.trans (p1.ext.trans c2), fun hout2 => (main hout2).1, fun Q hout2 hp => c4 Q hout2 (p1.df Q hHo (pd1 hp)) b2 fun t f9 hQ hf9 => ?_⟩
        obtain ⟨q', h1, h2⟩ := hp.old k t hQ hko
        rw [hq] at h1; cases h1
        rw [← h2]
        exact (main hout2).2 f9 hf9
end
end Go.GL

namespace Go.GL
set_option linter.unusedVariables false
section
variable {rule : Ky → Ru} {U : List Ky}
theorem still_obt (d : Nat) : Still (fun k b e => obt rule d k (some b) e) := fun e k b h => by
  cases d with
  | zero => rfl
  | succ d => show (obt rule (d + 1) k (some b) e).2 = e; rw [obt, if_pos h]
theorem hit_comp0 (e : En) (by_ : Option Nat) (i : Nat) : (hit e by_ i).comp = e.comp := by
  unfold hit
  split
  · rfl
  · split <;> rfl
theorem hit_up {e : En} {g : List Tr} (hG : Gl rule U e g) (by_ : Option Nat) (i : Nat) : FrUp e (hit e by_ i) := by
  unfold hit
  split
  · exact FrUp.same rfl fun f hf => (hG.kin f hf).2.1
  · split
    · exact FrUp.same rfl fun f hf => (hG.kin f hf).2.1
    · exact FrUp.mod rfl (fun f hf => (hG.kin f hf).2.1) (fun _ => rfl) fun _ _ _ h => h
theorem bump_up {e : En} {g : List Tr} (hG : Gl rule U e g) (by_ : Option Nat) (m : Nat) : FrUp e (bump e by_ m) ∧ (bump e by_ m).comp = e.comp ∧ Ext e (bump e by_ m) := by
  unfold bump
  split
  · exact ⟨FrUp.same rfl fun f hf => (hG.kin f hf).2.1, rfl, Ext.refl e⟩
  · exact ⟨FrUp.mod rfl (fun f hf => (hG.kin f hf).2.1) (fun _ => rfl) fun _ _ _ h => h, rfl, Ext.same rfl rfl rfl⟩
theorem lowOf_is {e : En} {i : Nat} {f : Fr} (h : e.st[i]? = some f) : lowOf e i = f.low := by unfold lowOf; rw [h]
theorem settle_up {e : En} {g : List Tr} {own : Nat} (hG : Gl rule U e g) (s3 : (settle own e).2.st = e.st.take own) (s6 : ∀ k, (∀ i f, own ≤ i → e.st[i]? = some f → f.key ≠ k) → okOf (settle own e).2.qs k = okOf e.qs k)
    (s7 : ∀ i f, own ≤ i → e.st[i]? = some f → ∃ q, okOf (settle own e).2.qs f.key = some q ∧ q.tr = f.tr ∧ q.own = f.own) : FrUp e (settle own e).2 := fun f hf => by
  obtain ⟨i, hi⟩ := List.mem_iff_getElem?.1 hf
  by_cases h : own ≤ i
  · obtain ⟨q, h1, h2, _⟩ := s7 i f h hi
    exact .inr ⟨q, h1, fun p hp => by rw [h2]; exact hp⟩
  · refine .inl ⟨?_, f, ?_, rfl, fun _ h => h⟩
    · rw [s6 f.key fun j f' hj hf' he => by have := key_inj hG.nd hf' hi he; omega]
      exact (hG.kin f hf).2.1
    · rw [s3]
      exact List.mem_of_getElem? (i := i) (by rw [List.getElem?_take, if_pos (by omega)]; exact hi)
theorem noKey {e : En} {g : List Tr} {k : Ky} (hG : Gl rule U e g) (h : aGet e.inp k ≠ none ∨ okOf e.qs k ≠ none) : ∀ f, f ∈ e.st → f.key ≠ k := by
  rintro f hf rfl
  obtain ⟨h1, h2, _⟩ := hG.kin f hf
  exact h.elim (fun h => h h1) (fun h => h h2)
theorem obt_ok (hr : ∀ k, k ∈ U → RuIn U (rule k)) : ∀ d, ObOk rule U (U.length + 1 - d) (fun k b e => obt rule d k (some b) e) := by
  intro d
  induction d with
  | zero =>
    intro e g b k hG hS hout hk hN
    exfalso
    have := nodup_sub hG.nd fun x hx => by
      obtain ⟨f, hf, rfl⟩ := List.mem_map.1 hx
      exact (hG.kin f hf).2.2
    rw [List.length_map] at this
    omega
  | succ d ih =>
    intro e g b k hG hS hout hk hN
    show OPost rule U e g b [(k, (obt rule (d + 1) k (some b) e).1)] (obt rule (d + 1) k (some b) e).2
    rw [obt, if_neg (by rw [hout]; decide)]
    have keep0 : ∀ {e' : En}, e'.st = e.st → Keep e e' b := fun h => ⟨fun j _ _ => by rw [h], fun f hf => ⟨f, by rw [h]; exact hf, rfl, rfl, rfl⟩⟩
    cases hi : aGet e.inp k with
    | some s =>
      simp only
      obtain ⟨a1, a2⟩ := ans_off hG hS hG.q (Ext.refl e) rfl (fun f hf => (hG.kin f hf).2.1) (noKey hG (.inl (by rw [hi]; simp))) (.inl ⟨s, hi, rfl⟩) hk
      exact ⟨hG.q, Ext.refl e, fun _ => ⟨[], by rw [List.append_nil]; exact a1, by rw [List.append_nil]; exact a2, keep0 rfl⟩, fun _ _ h => h⟩
    | none =>
      simp only
      cases hx : frIdx e.st k with
      | some i =>
        simp only
        obtain ⟨fi, hfi, rfl⟩ := frIdx_some hx
        obtain ⟨a1, a2, a3, a4, a5, a6⟩ := hit_ok hG hS hfi
        exact ⟨a1, a2, fun _ => ⟨[], by rw [List.append_nil]; exact a3, by rw [List.append_nil]; exact a4, fun j _ hj => a5 j hj, a6⟩, fun Q _ h => h.up a2 (hit_up hG _ _) (hit_comp0 _ _ _)⟩
      | none =>
        simp only
        have hks := frIdx_none hx
        cases hq : okOf e.qs k with
        | some q =>
          simp only
          obtain ⟨b1, b2, b3⟩ := touch_ok hG.q hq
          have hq' : okOf (touch e k q).qs k = some { q with used := e.gets } := by
            have := okOf_set (qs := e.qs) (k := k) (j := k) (q := { q with used := e.gets }) (okOf_get hq).2
            rw [if_pos rfl] at this; exact this
          obtain ⟨a1, a2⟩ := ans_off hG hS b1 b2 rfl (fun f hf => (b3 f.key).2 (hG.kin f hf).2.1) hks (.inr (.inl ⟨hi, _, hq', rfl⟩)) hk
          exact ⟨b1, b2, fun _ => ⟨[], by rw [List.append_nil]; exact a1, by rw [List.append_nil]; exact a2, keep0 rfl⟩, fun Q _ h => h.up b2 (FrUp.same rfl fun f hf => (b3 f.key).2 (hG.kin f hf).2.1) rfl⟩
        | none =>
          simp only
          obtain ⟨v1, v2, v3, v4⟩ := visit_ok ih (still_obt d) (hr k hk) hG hout (by omega) hi hq hks hk
          obtain ⟨e2, he2⟩ : ∃ e2, visit (fun k b e => obt rule d k (some b) e) (rule k) k e = e2 := ⟨_, rfl⟩
          rw [he2] at v1 v2 v3 v4 ⊢
          unfold leave
          by_cases ho2 : e2.out = true
          · rw [if_pos ho2]
            exact ⟨v1, v2, (fun h => by rw [ho2] at h; cases h), (fun Q h => by rw [ho2] at h; cases h)⟩
          · rw [if_neg ho2]
            have ho2 : e2.out = false := by simpa using ho2
            obtain ⟨to, gn, fo, c1, c2, c3, c4, c5, c6, c7⟩ := v3 ho2
            rw [lowOf_is c4]
            by_cases hlow : fo.low < e.st.length
            · rw [if_pos hlow]
              obtain ⟨d1, d2, d3, d4⟩ := bump_ok hG hS v2 c1 c2 c3 c4 c5 ⟨c6, c7⟩ hlow
              exact ⟨v1.same rfl rfl, v2.trans (Ext.same rfl rfl rfl), (fun _ => ⟨to :: gn, d1, d2, d3, d4⟩), fun Q _ h => (v4 Q ho2 h).up (bump_up c1 (some b) fo.low).2.2 (bump_up c1 (some b) fo.low).1 (bump_up c1 (some b) fo.low).2.1⟩
            · rw [if_neg hlow]
              have hto : (g ++ to :: gn)[e.st.length]? = some to := by rw [List.getElem?_append_right (by rw [hG.len]; exact Nat.le_refl _), hG.len, Nat.sub_self]; rfl
              obtain ⟨s1, s2, s3, ⟨q, s4, s5, _⟩, s6, s7⟩ := settle_ok c1 c2 c4 hto ⟨c6, c7⟩ hlow
              have hst : (settle e.st.length e2).2.st = e.st := by
                rw [s3]
                refine List.ext_getElem? fun j => ?_
                rw [List.getElem?_take]
                by_cases hj : j < e.st.length
                · rw [if_pos hj]; exact c3 j hj
                · rw [if_neg hj, List.getElem?_eq_none (by omega)]
              rw [c5] at s4
              have hx2 : Ext e (settle e.st.length e2).2 := v2.trans s2
              have hkn : ∀ f, f ∈ e.st → okOf (settle e.st.length e2).2.qs f.key = none := by
                intro f hf
                obtain ⟨j, hj⟩ := List.mem_iff_getElem?.1 hf
                have hjl := (List.getElem?_eq_some_iff.1 hj).1
                have hj2 : e2.st[j]? = some f := by rw [c3 j hjl]; exact hj
                rw [s6 f.key fun i f' hi2 hf' he => by have := key_inj c1.nd hf' hj2 he; omega]
                exact (c1.kin f (List.mem_of_getElem? hj2)).2.1
              obtain ⟨a1, a2⟩ := ans_off (x := (settle e.st.length e2).1) hG hS s1 hx2 hst hkn hks (.inr (.inl ⟨by rw [hx2.inp]; exact hi, q, s4, s5⟩)) hk
              exact ⟨s1, hx2, fun _ => ⟨[], by rw [List.append_nil]; exact a1, by rw [List.append_nil]; exact a2, keep0 hst⟩, fun Q _ h => (v4 Q ho2 h).up s2 (settle_up c1 s3 s6 s7) rfl⟩
theorem get_ok (hr : ∀ k, k ∈ U → RuIn U (rule k)) {d : Nat} (hd : U.length < d) {e : En} (hq : QInv rule U e) (hst : e.st = []) {k : Ky} (hk : k ∈ U) :
    QInv rule U (obt rule d k none e).2 ∧ Ext e (obt rule d k none e).2 ∧ (e.out = false → (obt rule d k none e).2.out = false → (obt rule d k none e).2.st = [] ∧ AnsF (obt rule d k none e).2 k (obt rule d k none e).1) ∧ (e.out = false → (obt rule d k none e).2.out = true → (obt rule d k none e).1 = fuelA) ∧ ∀ Q, (obt rule d k none e).2.out = false → Pd Q e → Pd Q (obt rule d k none e).2 := by
  cases d with
  | zero => omega
  | succ d =>
    rw [obt]
    by_cases hout : e.out = true
    · rw [if_pos hout]; exact ⟨hq, Ext.refl e, (fun h => by rw [hout] at h; cases h), (fun h => by rw [hout] at h; cases h), fun _ _ h => h⟩
    · rw [if_neg hout]
      have hout : e.out = false := by simpa using hout
      have hG : Gl rule U e [] := ⟨hq, by rw [hst]; rfl, by rw [hst]; exact List.nodup_nil, (fun f hf => by rw [hst] at hf; cases hf), (fun i t ht => by cases ht), (fun i f hf => by rw [hst] at hf; cases hf)⟩
      cases hi : aGet e.inp k with
      | some s => exact ⟨hq, Ext.refl e, fun _ _ => ⟨hst, .inl ⟨s, hi, rfl⟩⟩, (fun _ h => by rw [hout] at h; cases h), fun _ _ h => h⟩
      | none =>
        simp only
        have hx : frIdx e.st k = none := by rw [hst]; rfl
        rw [hx]
        simp only
        cases hqk : okOf e.qs k with
        | some q =>
          simp only
          obtain ⟨b1, b2, b3⟩ := touch_ok hq hqk
          have hq' : okOf (touch e k q).qs k = some { q with used := e.gets } := by
            have := okOf_set (qs := e.qs) (k := k) (j := k) (q := { q with used := e.gets }) (okOf_get hqk).2
            rw [if_pos rfl] at this; exact this
          exact ⟨b1, b2, fun _ _ => ⟨hst, .inr (.inl ⟨hi, _, hq', rfl⟩)⟩, (fun _ h => by have h : e.out = true := h; rw [hout] at h; cases h), fun Q _ h => h.up b2 (FrUp.same rfl fun f hf => by rw [hst] at hf; cases hf) rfl⟩
        | none =>
          simp only
          obtain ⟨v1, v2, v3, v4⟩ := visit_ok (obt_ok hr d) (still_obt d) (hr k hk) hG hout (by omega) hi hqk (fun f hf => by rw [hst] at hf; cases hf) hk
          obtain ⟨e2, he2⟩ : ∃ e2, visit (fun k b e => obt rule d k (some b) e) (rule k) k e = e2 := ⟨_, rfl⟩
          rw [he2] at v1 v2 v3 v4 ⊢
          have hl0 : e.st.length = 0 := by rw [hst]; rfl
          rw [hl0] at v3 ⊢
          unfold leave
          by_cases ho2 : e2.out = true
          · rw [if_pos ho2]
            exact ⟨v1, v2, (fun _ h => by rw [ho2] at h; cases h), (fun _ _ => rfl), (fun Q h => by rw [ho2] at h; cases h)⟩
          · rw [if_neg ho2, if_neg (Nat.not_lt_zero _)]
            have ho2 : e2.out = false := by simpa using ho2
            obtain ⟨to, gn, fo, c1, c2, c3, c4, c5, c6, c7⟩ := v3 ho2
            obtain ⟨s1, s2, s3, ⟨q, s4, s5, _⟩, s6, s7⟩ := settle_ok c1 c2 c4 rfl ⟨c6, c7⟩ (Nat.not_lt_zero _)
            have hx2 : Ext e (settle 0 e2).2 := v2.trans s2
            rw [c5] at s4
            exact ⟨s1, hx2, fun _ _ => ⟨by rw [s3]; rfl, .inr (.inl ⟨by rw [hx2.inp]; exact hi, q, s4, s5⟩)⟩, (fun _ h => by have h : e2.out = true := h; rw [ho2] at h; cases h), fun Q _ h => (v4 Q ho2 h).up s2 (settle_up c1 s3 s6 s7) rfl⟩
end
end Go.GL

namespace Go.GL
open Go.ChangeMaps (setBlock)
open Go.Maps (Keyed)
set_option linter.unusedVariables false
theorem mp_at {w : World} {M : List HP} {F : List Fact} {b i : Nat} {kvs : KV} (hw : St w M F) (hi : M[i]? = some (MpB b kvs)) : ∃ es clock, MpOk es clock kvs ∧ w.heap[b]? = some (.map es clock) := by
  obtain ⟨z, h⟩ := (hw.front hi).exOpen
  exact ⟨z.1.1, z.1.2, z.2, h.heap (i := 0) rfl⟩
theorem mp_turn {w : World} {M : List HP} {F : List Fact} {b i : Nat} {kvs kvs' : KV} {es' : Array MapEntry} {clock' : Nat} (hw : St w M F) (hi : M[i]? = some (MpB b kvs)) (h : MpOk es' clock' kvs') : St (setBlock w b (.map es' clock')) (M.set i (MpB b kvs')) F := by
  obtain ⟨z, h1⟩ := (hw.front hi).exOpen
  have hb : w.heap[b]? = some (.map z.1.1 z.1.2) := h1.heap (i := 0) rfl
  have hset := MapKept.heap_set (o' := .map es' clock') hb
  have h2 : St (setBlock w b (.map es' clock')) (Pts b (.map es' clock') :: M.eraseIdx i) F := St.putHeap (i := 0) (b := b) (o := .map z.1.1 z.1.2) h1 rfl rfl rfl rfl (by simp [setBlock]) hset.1 hset.2
  exact St.back hi (St.exClose (⟨(es', clock'), h⟩ : {z : Array MapEntry × Nat // MpOk z.1 z.2 kvs'}) h2)
theorem run_mapUpdate_ok {P : Program} {w : World} {t k e : TypeId} {es : Array MapEntry} {clock b : Nat} {kvs : KV} (h : MpOk es clock kvs) (hb : w.heap[b]? = some (.map es clock)) (ht : tyMap P t k e = true) {n : List UInt8} (hn : KO n) (v : Value) :
    ∃ es' clock', (Instr.mapUpdate t (.map (some b)) (S n) v).run P w = .ok () (setBlock w b (.map es' clock')) ∧ MpOk es' clock' (kvSet kvs n v) ∧ ((∃ p, p ∈ kvs ∧ p.1 = n) → ∃ j e0, es.toList[j]? = some e0 ∧ e0.key = S n ∧ es'.toList = es.toList.set j ⟨S n, v, e0.born⟩ ∧ clock' = clock) := by
  obtain ⟨hm, hk⟩ := tyMap_is ht
  have hx := key_mk hk hn
  have K := tyMap_keyed ht
  rcases h.find (w := w) ht hn with ⟨h1, h2⟩ | ⟨j, e0, h1, h2, h3, h4⟩
  · refine ⟨es.push ⟨S n, v, clock⟩, clock + 1, ?_, h.push hn h2, fun ⟨p, hp, e⟩ => absurd e (h2 p hp)⟩
    simp [Instr.mapUpdate, run_underlying hm, MapKept.run_getObj_map hb, K.check w false hx, h1, MapKept.run_setObj_map _ hb, Result.andThen, setBlock]
  · have hj : es[j]? = some e0 := by simpa using h2
    obtain ⟨hl, hok⟩ := h.modify (v := v) h2 h3 h4
    refine ⟨_, clock, ?_, hok, fun _ => ⟨j, e0, h2, h3, hl, rfl⟩⟩
    simp [Instr.mapUpdate, run_underlying hm, MapKept.run_getObj_map hb, K.check w false hx, h1, hj, h3, K.stays w hx, MapKept.run_setObj_map _ hb, Result.andThen, setBlock]
theorem run_delete_ok {P : Program} {w : World} {t k e : TypeId} {es : Array MapEntry} {clock b : Nat} {kvs : KV} (h : MpOk es clock kvs) (hb : w.heap[b]? = some (.map es clock)) (ht : tyMap P t k e = true) {n : List UInt8} (hn : KO n) (ts : Array TypeId) (hts : ts[0]? = some t) (ty : TypeId) :
    ∃ es', (Builtin.delete_ ts ty #[.map (some b), S n]).run P w = .ok (.tuple #[]) (setBlock w b (.map es' clock)) ∧ MpOk es' clock (kvDel kvs n) := by
  obtain ⟨hm, hk⟩ := tyMap_is ht
  have hx := key_mk hk hn
  have K := tyMap_keyed ht
  rcases h.find (w := w) ht hn with ⟨h1, h2⟩ | ⟨j, e0, h1, h2, h3, h4⟩
  · refine ⟨es, ?_, by rw [kvDel_none h2]; exact h⟩
    simp [Builtin.delete_, hts, run_underlying hm, MapKept.run_getObj_map hb, K.check w _ hx, h1, MapKept.run_setObj_map _ hb, Result.andThen, setBlock]
  · refine ⟨_, ?_, h.erase h2 h4⟩
    simp [Builtin.delete_, hts, run_underlying hm, MapKept.run_getObj_map hb, K.check w _ hx, h1, MapKept.run_setObj_map _ hb, Result.andThen, setBlock]
theorem run_lookup_ok {P : Program} {w : World} {t k e : TypeId} {es : Array MapEntry} {clock b : Nat} {kvs : KV} (h : MpOk es clock kvs) (hb : w.heap[b]? = some (.map es clock)) (ht : tyMap P t k e = true) {n : List UInt8} (hn : KO n) {z : Value} (hz : (zeroValue e).run P w = .ok z w) :
    (Instr.lookup t (.map (some b)) (S n) false).run P w = .ok ((kvGet kvs n).getD z) w := by
  obtain ⟨hm, hk⟩ := tyMap_is ht
  have hx := key_mk hk hn
  have K := tyMap_keyed ht
  rcases h.find (w := w) ht hn with ⟨h1, h2⟩ | ⟨j, e0, h1, h2, h3, h4⟩
  · rw [kvGet_none h2]
    simp [Instr.lookup, run_underlying hm, MapKept.run_getObj_map hb, K.check w _ hx, h1, hz, Result.andThen]
  · rw [(kv_at h.keys h4).1]
    simp [Instr.lookup, run_underlying hm, MapKept.run_getObj_map hb, K.check w _ hx, h1, Result.andThen]
structure RgOk (es : Array MapEntry) (clock since : Nat) (seen : Array Nat) (c0 : Nat) (kvs : KV) (left : List (List UInt8)) (cur : Option (List UInt8)) : Prop where
  ok : MpOk es clock kvs
  old : ∀ e, e ∈ es.toList → e.born < since
  sc : since ≤ c0
  sk : since ≤ clock
  rest : (leftOf es seen).toList.map (·.key) = left.map (S ·)
  now : ∀ k, cur = some k → ∃ (e : MapEntry) (seen0 : Array Nat), e ∈ es.toList ∧ e.key = S k ∧ seen = seen0.push e.born ∧ c0 = clock
structure RgX where
  es : Array MapEntry
  clock : Nat
  since : Nat
  seen : Array Nat
  c0 : Nat
def RgB (b r : Nat) (kvs : KV) (left : List (List UInt8)) (cur : Option (List UInt8)) : HP := Ex (ι := {z : RgX // RgOk z.es z.clock z.since z.seen z.c0 kvs left cur}) fun z => [Pts b (.map z.1.es z.1.clock), Pts r (.mapIter (some b) z.1.since z.1.seen z.1.c0)]
theorem S_eq {a b : List UInt8} : S a = S b ↔ a = b := by
  constructor
  · intro h
    have h1 : (⟨a.toArray⟩ : ByteArray) = ⟨b.toArray⟩ := by injection h
    have h2 := congrArg (fun x : ByteArray => x.data.toList) h1
    simpa using h2
  · intro h; rw [h]
theorem rg_at {w : World} {M : List HP} {F : List Fact} {b r i : Nat} {kvs : KV} {left : List (List UInt8)} {cur : Option (List UInt8)} (hw : St w M F) (hi : M[i]? = some (RgB b r kvs left cur)) :
    ∃ z : RgX, RgOk z.es z.clock z.since z.seen z.c0 kvs left cur ∧ w.heap[b]? = some (.map z.es z.clock) ∧ w.heap[r]? = some (.mapIter (some b) z.since z.seen z.c0) ∧ St w (Pts b (.map z.es z.clock) :: Pts r (.mapIter (some b) z.since z.seen z.c0) :: M.eraseIdx i) F := by
  obtain ⟨z, h⟩ := (hw.front hi).exOpen
  exact ⟨z.1, z.2, h.heap (i := 0) rfl, h.heap (i := 1) rfl, h⟩
theorem rg_close {w : World} {M : List HP} {F : List Fact} {b r i : Nat} {p : HP} {kvs : KV} {left : List (List UInt8)} {cur : Option (List UInt8)} {z : RgX} (hi : M[i]? = some p) (hz : RgOk z.es z.clock z.since z.seen z.c0 kvs left cur) (h : St w (Pts b (.map z.es z.clock) :: Pts r (.mapIter (some b) z.since z.seen z.c0) :: M.eraseIdx i) F) : St w (M.set i (RgB b r kvs left cur)) F :=
  St.back hi (St.exClose (⟨z, hz⟩ : {z : RgX // RgOk z.es z.clock z.since z.seen z.c0 kvs left cur}) h)
theorem born_key {es : Array MapEntry} {clock : Nat} {kvs : KV} (h : MpOk es clock kvs) {x y : MapEntry} (hx : x ∈ es.toList) (hy : y ∈ es.toList) : x.born = y.born ↔ x.key = y.key := by
  obtain ⟨i, hi⟩ := List.mem_iff_getElem?.1 hx
  obtain ⟨j, hj⟩ := List.mem_iff_getElem?.1 hy
  constructor
  · intro e
    have h1 : (es.toList.map (·.born))[i]? = some x.born := by rw [List.getElem?_map, hi]; rfl
    have h2 : (es.toList.map (·.born))[j]? = some y.born := by rw [List.getElem?_map, hj]; rfl
    have := (List.getElem?_inj (List.getElem?_eq_some_iff.1 h1).1 h.born).1 (h1.trans ((congrArg some e).trans h2.symm))
    subst this
    rw [hi] at hj; cases hj; rfl
  · intro e
    obtain ⟨n, a1, a2⟩ := h.at hi
    obtain ⟨m, b1, b2⟩ := h.at hj
    have : n = m := by rw [a1, b1] at e; cases e; rfl
    subst this
    have h1 : (kvs.map Prod.fst)[i]? = some n := by rw [List.getElem?_map, a2]; rfl
    have h2 : (kvs.map Prod.fst)[j]? = some n := by rw [List.getElem?_map, b2]; rfl
    have := (List.getElem?_inj (List.getElem?_eq_some_iff.1 h1).1 h.keys).1 (h1.trans h2.symm)
    subst this
    rw [hi] at hj; cases hj; rfl
theorem mem_leftOf {es : Array MapEntry} {seen : Array Nat} {e : MapEntry} : e ∈ (leftOf es seen).toList ↔ e ∈ es.toList ∧ seen.contains e.born = false := by
  unfold leftOf
  rw [Array.toList_filter, List.mem_filter]
  simp
def keyIs (n : List UInt8) : Value → Bool
  | .string m => decide (m = ⟨n.toArray⟩)
  | _ => false
theorem keyIs_iff {n : List UInt8} {v : Value} : keyIs n v = true ↔ v = S n := by
  unfold keyIs
  split
  · rename_i m
    rw [decide_eq_true_eq]
    exact ⟨fun e => by rw [e], fun e => by injection e⟩
  · rename_i h
    simp only [Bool.false_eq_true, false_iff]
    exact fun e => h _ e
theorem keyIs_S {n x : List UInt8} : keyIs n (S x) = decide (x = n) := by
  rw [Bool.eq_iff_iff, keyIs_iff, S_eq, decide_eq_true_eq]
theorem left_push {es : Array MapEntry} {clock : Nat} {kvs : KV} (h : MpOk es clock kvs) {seen : Array Nat} {e : MapEntry} {left : List (List UInt8)} {n : List UInt8} (he : e ∈ (leftOf es seen).toList) (hn : e.key = S n) (hl : (leftOf es seen).toList.map (·.key) = left.map (S ·)) :
    (leftOf es (seen.push e.born)).toList.map (·.key) = (left.filter fun x => !decide (x = n)).map (S ·) := by
  have e1 : (leftOf es (seen.push e.born)).toList = (leftOf es seen).toList.filter fun x => !keyIs n x.key := by
    unfold leftOf
    rw [Array.toList_filter, Array.toList_filter, List.filter_filter]
    refine List.filter_congr fun x hx => ?_
    have hk := born_key h hx (mem_leftOf.1 he).1
    rw [hn, ← keyIs_iff] at hk
    have hc : (seen.push e.born).contains x.born = (seen.contains x.born || (x.born == e.born)) := by
      rw [Bool.eq_iff_iff]
      simp [Array.mem_push]
    rw [hc]
    have hb : (x.born == e.born) = keyIs n x.key := by
      rw [Bool.eq_iff_iff, ← hk]; simp
    rw [hb]
    cases seen.contains x.born <;> cases keyIs n x.key <;> rfl
  rw [e1]
  have e2 : ((leftOf es seen).toList.filter fun x => !keyIs n x.key).map (·.key) = ((leftOf es seen).toList.map (·.key)).filter fun v => !keyIs n v := by
    rw [List.filter_map]; rfl
  rw [e2, hl, List.filter_map]
  congr 1
  refine List.filter_congr fun x _ => ?_
  show (!keyIs n (S x)) = _
  rw [keyIs_S]
end Go.GL

namespace Go.GL
open Go.ChangeMaps (setBlock)
set_option linter.unusedVariables false
theorem rg_next {P : Program} {w : World} {M : List HP} {F : List Fact} {b r i : Nat} {kvs : KV} {left : List (List UInt8)} {cur : Option (List UInt8)} (ty : TypeId) (hw : St w M F) (hi : M[i]? = some (RgB b r kvs left cur)) :
    ∃ (o : {o : Option (List UInt8 × Value) // match o with | none => left = [] | some p => p.1 ∈ left ∧ p ∈ kvs}) (w' : World), (Instr.next (.pointer (some ⟨r, 0, none⟩)) false ty).run P w = .ok (match o.1 with | none => .tuple #[.bool false] | some p => .tuple #[.bool true, S p.1, p.2]) w' ∧
      St w' (M.set i (match o.1 with | none => MpB b kvs | some p => RgB b r kvs (left.filter fun x => !decide (x = p.1)) (some p.1))) F := by
  obtain ⟨z, hz, hb, hr, hst⟩ := rg_at hw hi
  rcases run_next_at (P := P) w ty r b z.since z.c0 z.seen z.es z.clock hr hb hz.old hz.sc with ⟨h0, hrun⟩ | ⟨e, he, w1, hal, hrun⟩
  · have hl : left = [] := by
      have h1 := congrArg List.length hz.rest
      rw [List.length_map, List.length_map, Array.length_toList, h0] at h1
      exact List.eq_nil_of_length_eq_zero h1.symm
    refine ⟨⟨none, hl⟩, w, hrun, ?_⟩
    exact St.back hi (St.exClose (⟨(z.es, z.clock), hz.ok⟩ : {z : Array MapEntry × Nat // MpOk z.1 z.2 kvs}) (hst.drop 1 rfl))
  · have hem := (mem_leftOf.1 he).1
    obtain ⟨j, hj⟩ := List.mem_iff_getElem?.1 hem
    obtain ⟨n, hk, hkv⟩ := hz.ok.at hj
    have hnl : n ∈ left := by
      have h1 : e.key ∈ (leftOf z.es z.seen).toList.map (·.key) := List.mem_map_of_mem (f := fun x : MapEntry => x.key) he
      rw [hz.rest, hk] at h1
      obtain ⟨m, hm, e1⟩ := List.mem_map.1 h1
      exact (S_eq.1 e1) ▸ hm
    refine ⟨⟨some (n, e.val), hnl, List.mem_of_getElem? hkv⟩, _, by rw [hk] at hrun; exact hrun, ?_⟩
    have hst1 : St w1 (Pts b (.map z.es z.clock) :: Pts r (.mapIter (some b) z.since z.seen z.c0) :: M.eraseIdx i) F := by
      rcases hal with rfl | rfl
      · exact hst
      · exact hst.drew
    have hr1 : w1.heap[r]? = some (.mapIter (some b) z.since z.seen z.c0) := hst1.heap (i := 1) rfl
    have hset := MapKept.heap_set (o' := .mapIter (some b) z.since (z.seen.push e.born) z.clock) hr1
    have h2 : St (setBlock w1 r (.mapIter (some b) z.since (z.seen.push e.born) z.clock)) (Pts b (.map z.es z.clock) :: Pts r (.mapIter (some b) z.since (z.seen.push e.born) z.clock) :: M.eraseIdx i) F :=
      St.putHeap (i := 1) (b := r) (o := .mapIter (some b) z.since z.seen z.c0) hst1 rfl rfl rfl rfl (by simp [setBlock]) hset.1 hset.2
    exact rg_close (z := ⟨z.es, z.clock, z.since, z.seen.push e.born, z.clock⟩) hi ⟨hz.ok, hz.old, hz.sk, hz.sk, left_push hz.ok he hk hz.rest, fun k hk2 => by cases hk2; exact ⟨e, z.seen, hem, hk, rfl, rfl⟩⟩ h2
theorem rg_entry {P : Program} {w : World} {M : List HP} {F : List Fact} {b r i : Nat} {kvs : KV} {left : List (List UInt8)} {n : List UInt8} {v : Value} (hw : St w M F) (hi : M[i]? = some (RgB b r kvs left (some n))) (hv : (n, v) ∈ kvs) :
    (Instr.entry (.pointer (some ⟨r, 0, none⟩))).run P w = .ok (.tuple #[S n, v]) w := by
  obtain ⟨z, hz, hb, hr, _⟩ := rg_at hw hi
  obtain ⟨e, seen0, he, hk, hs, hc⟩ := hz.now n rfl
  rw [hs, hc] at hr
  have h1 := run_entry_at (P := P) w r b z.since seen0 z.es z.clock e hr hb he hz.ok.born
  have hval : e.val = v := by
    obtain ⟨j, hj⟩ := List.mem_iff_getElem?.1 he
    obtain ⟨m, a1, a2⟩ := hz.ok.at hj
    have : m = n := by rw [hk] at a1; cases a1; rfl
    subst this
    obtain ⟨j2, hj2⟩ := List.mem_iff_getElem?.1 hv
    have e1 := (kv_at hz.ok.keys a2).1
    have e2 := (kv_at hz.ok.keys hj2).1
    rw [e1] at e2
    exact Option.some.inj e2
  rw [hk, hval] at h1
  exact h1
section
variable {P : Program} {r : Option Nat} {N : Nat} {ops : Array Oper} {rest : List Oper} {Q : Exit → Act → World → Prop} {E : Env} {ds : List Deferred} {M : List HP} {F : List Fact}
variable {d : Nat} {ty : TypeId} {pos : String} {aft : Array Edge} {gd : Option (Nat × Bool)}
theorem GV.makeMap {t : TypeId} : GV P E M F ⟨some d, .makeMap t none, ty, pos, aft, gd⟩ Nat (fun b => .map (some b)) (fun b => MpB b [] :: M) (fun _ => F) := ⟨rfl, fun ρ hρ w hw => by
  have hrun : (Instr.makeMap t none).run P w = .ok (.map (some w.heap.size)) (w.alloc (.map #[] 0)) := rfl
  refine ⟨w.heap.size, w.alloc (.map #[] 0), by simp [execOp, hrun], ?_⟩
  exact St.exClose (⟨(#[], 0), MpOk.nil⟩ : {z : Array MapEntry × Nat // MpOk z.1 z.2 []}) (hw.alloc (.map #[] 0))⟩
theorem PV.lookup {t k e : TypeId} {x y : Operand} {b : Nat} {n : List UInt8} {z : Value} {kvs : KV} (i : Nat) (ht : tyMap P t k e = true) (hx : evalO E x = some (.map (some b))) (hy : evalO E y = some (S n)) (hn : KO n) (hi : M[i]? = some (MpB b kvs)) (hz : ∀ w, (zeroValue e).run P w = .ok z w) :
    PV P E M F ⟨some d, .lookup t x y false, ty, pos, aft, gd⟩ ((kvGet kvs n).getD z) := ⟨rfl, fun ρ hρ w hw => by
  obtain ⟨es, clock, h, hb⟩ := mp_at hw hi
  have h1 := run_lookup_ok h hb ht hn (hz w)
  simp [execOp, hρ _ _ hx, hρ _ _ hy, h1]⟩
theorem RL.lookup {t k e : TypeId} {x y : Operand} {b : Nat} {n : List UInt8} {z : Value} {kvs : KV} (i : Nat) (hg : wantedG ops E gd = some true) (ht : tyMap P t k e = true) (hx : evalO E x = some (.map (some b))) (hy : evalO E y = some (S n)) (hn : KO n) (hi : M[i]? = some (MpB b kvs)) (hz : ∀ w, (zeroValue e).run P w = .ok z w) (hN : Nat.ble (d + 1) N = true)
    (k : RL P r N ops rest Q ((d, (kvGet kvs n).getD z) :: E) ds M F) : RL P r N ops (⟨some d, .lookup t x y false, ty, pos, aft, gd⟩ :: rest) Q E ds M F :=
  RL.val rfl hg hN (PV.lookup i ht hx hy hn hi hz).2 k
theorem EV.mapUpdate {t k e : TypeId} {x y u : Operand} {b : Nat} {n : List UInt8} {v : Value} {kvs : KV} (i : Nat) (ht : tyMap P t k e = true) (hx : evalO E x = some (.map (some b))) (hy : evalO E y = some (S n)) (hu : evalO E u = some v) (hn : KO n) (hi : M[i]? = some (MpB b kvs)) :
    EV P r Q E M F ⟨none, .mapUpdate t x y u, ty, pos, aft, gd⟩ Unit (fun _ => undef) (fun _ => M.set i (MpB b (kvSet kvs n v))) (fun _ => F) :=
  EV.of_eff rfl fun ρ hρ w hw => by
    obtain ⟨es, clock, h, hb⟩ := mp_at hw hi
    obtain ⟨es', clock', hrun, hok, _⟩ := run_mapUpdate_ok h hb ht hn v
    exact ⟨_, by simp [execOp, hρ _ _ hx, hρ _ _ hy, hρ _ _ hu, hrun], mp_turn hw hi hok⟩
theorem EV.delete {t k e : TypeId} {aty : Array TypeId} {x y : Operand} {b : Nat} {n : List UInt8} {kvs : KV} (i : Nat) (ht : tyMap P t k e = true) (hx : evalO E x = some (.map (some b))) (hy : evalO E y = some (S n)) (hn : KO n) (hi : M[i]? = some (MpB b kvs)) (hT : aty[0]? = some t := by rfl) :
    EV P r Q E M F ⟨none, .call ⟨.builtin .delete, #[x, y], aty⟩, ty, pos, aft, gd⟩ Unit (fun _ => .tuple #[]) (fun _ => M.set i (MpB b (kvDel kvs n))) (fun _ => F) :=
  EV.of_gen rfl fun ρ hρ w hw => by
    obtain ⟨es, clock, h, hb⟩ := mp_at hw hi
    obtain ⟨es', hrun, hok⟩ := run_delete_ok h hb ht hn aty hT ty
    exact ⟨(), _, by simp [execOp, resolve, hρ _ _ hx, hρ _ _ hy, invoke, builtin, hrun], mp_turn hw hi hok⟩
theorem GV.range {t k e : TypeId} {x : Operand} {b : Nat} {kvs : KV} (i : Nat) (ht : tyMap P t k e = true) (hx : evalO E x = some (.map (some b))) (hi : M[i]? = some (MpB b kvs)) :
    GV P E M F ⟨some d, .range t x, ty, pos, aft, gd⟩ Nat (fun q => .pointer (some ⟨q, 0, none⟩)) (fun q => M.set i (RgB b q kvs (kvs.map Prod.fst) none)) (fun _ => F) := ⟨rfl, fun ρ hρ w hw => by
  obtain ⟨z, h1⟩ := (hw.front hi).exOpen
  have hb : w.heap[b]? = some (.map z.1.1 z.1.2) := h1.heap (i := 0) rfl
  have hrun := run_range_map (P := P) w t k e b z.1.1 z.1.2 (tyMap_is ht).1 hb
  refine ⟨w.heap.size, w.alloc (.mapIter (some b) z.1.2 #[] z.1.2), by simp [execOp, hρ _ _ hx, hrun], ?_⟩
  have h2 := h1.alloc (.mapIter (some b) z.1.2 #[] z.1.2)
  have h3 : St _ (Pts b (.map z.1.1 z.1.2) :: Pts w.heap.size (.mapIter (some b) z.1.2 #[] z.1.2) :: M.eraseIdx i) F := h2.perm (.swap _ _ _)
  refine rg_close (z := ⟨z.1.1, z.1.2, z.1.2, #[], z.1.2⟩) hi ⟨z.2, z.2.past, Nat.le_refl _, Nat.le_refl _, ?_, fun k hk => by cases hk⟩ h3
  have e1 : (leftOf z.1.1 #[]).toList = z.1.1.toList := by unfold leftOf; simp
  have e2 := congrArg (List.map Prod.fst) z.2.kv
  rw [List.map_map, List.map_map] at e2
  rw [e1, List.map_map]
  exact e2⟩
theorem GV.next {x : Operand} {b q : Nat} {kvs : KV} {left : List (List UInt8)} {cur : Option (List UInt8)} (i : Nat) (hx : evalO E x = some (.pointer (some ⟨q, 0, none⟩))) (hi : M[i]? = some (RgB b q kvs left cur)) :
    GV P E M F ⟨some d, .next x false, ty, pos, aft, gd⟩ {o : Option (List UInt8 × Value) // match o with | none => left = [] | some p => p.1 ∈ left ∧ p ∈ kvs} (fun o => match o.1 with | none => .tuple #[.bool false] | some p => .tuple #[.bool true, S p.1, p.2])
      (fun o => M.set i (match o.1 with | none => MpB b kvs | some p => RgB b q kvs (left.filter fun x => !decide (x = p.1)) (some p.1))) (fun _ => F) := ⟨rfl, fun ρ hρ w hw => by
  obtain ⟨o, w', hrun, hst⟩ := rg_next (P := P) ty hw hi
  exact ⟨o, w', by simp [execOp, hρ _ _ hx, hrun], hst⟩⟩
theorem RL.entry {x : Operand} {b q : Nat} {kvs : KV} {left : List (List UInt8)} {n : List UInt8} {v : Value} (i : Nat) (hg : wantedG ops E gd = some true) (hx : evalO E x = some (.pointer (some ⟨q, 0, none⟩))) (hi : M[i]? = some (RgB b q kvs left (some n))) (hv : (n, v) ∈ kvs) (hN : Nat.ble (d + 1) N = true)
    (k : RL P r N ops rest Q ((d, .tuple #[S n, v]) :: E) ds M F) : RL P r N ops (⟨some d, .entry x, ty, pos, aft, gd⟩ :: rest) Q E ds M F :=
  RL.val rfl hg hN (fun ρ hρ w hw => by
    have h1 := rg_entry (P := P) hw hi hv
    simp [execOp, hρ _ _ hx, h1]) k
end
end Go.GL

namespace Go.GL
structure Ed where
  f : Int
  t : Int
  x : List UInt8
abbrev Ed.c (e : Ed) : List Value := [I e.f, I e.t, S e.x]
def sound1 (size : Int) : Int → List Ed → Int
  | _, [] => 0
  | last, e :: es => if e.f < 0 ∨ e.t < e.f ∨ size < e.t then 5 else if e.f < last then 1 else sound1 size e.t es
theorem sound1_cons {size last : Int} {e : Ed} {es : List Ed} (h : sound1 size last (e :: es) = 0) : 0 ≤ e.f ∧ e.f ≤ e.t ∧ e.t ≤ size ∧ last ≤ e.f ∧ sound1 size e.t es = 0 := by
  rw [sound1] at h
  by_cases h1 : e.f < 0 ∨ e.t < e.f ∨ size < e.t
  · rw [if_pos h1] at h; exact absurd h (by decide)
  · rw [if_neg h1] at h
    by_cases h2 : e.f < last
    · rw [if_pos h2] at h; exact absurd h (by decide)
    · rw [if_neg h2] at h
      exact ⟨by omega, by omega, by omega, by omega, h⟩
theorem sound1_on {size last : Int} {e : Ed} {es : List Ed} (h1 : ¬ (e.f < 0 ∨ e.t < e.f ∨ size < e.t)) (h2 : ¬ e.f < last) : sound1 size last (e :: es) = sound1 size e.t es := by rw [sound1, if_neg h1, if_neg h2]
def applyGo (s : List UInt8) : Nat → List Ed → List UInt8
  | q, [] => s.drop q
  | q, e :: es => (s.take e.f.toNat).drop q ++ (e.x ++ applyGo s e.t.toNat es)
end Go.GL

namespace Go.GL
set_option linter.unusedVariables false
def SoundTo (n : Int) (es : List Ed) (q : Int) : Prop := ∀ rest, sound1 n 0 (es ++ rest) = sound1 n q rest
theorem SoundTo.nil (n : Int) : SoundTo n [] 0 := fun _ => rfl
theorem SoundTo.snoc {n : Int} {es : List Ed} {q : Int} (h : SoundTo n es q) {e : Ed} (h0 : 0 ≤ q) (h1 : q ≤ e.f) (h2 : e.f ≤ e.t) (h3 : e.t ≤ n) : SoundTo n (es ++ [e]) e.t := fun rest => by
  rw [List.append_assoc, h, List.cons_append, List.nil_append, sound1_on (by omega) (by omega)]
def Grow (k : Nat) (e : Ed) : Prop := (e.x.length : Int) ≤ e.t - e.f + k
def txs (es : List Ed) : Nat := (es.map fun e => e.x.length).sum
theorem apply_len {s : List UInt8} {k : Nat} : ∀ {es : List Ed} {q : Nat}, q ≤ s.length → sound1 s.length q es = 0 → (∀ e, e ∈ es → Grow k e) → (applyGo s q es).length ≤ s.length - q + k * es.length ∧ txs es ≤ s.length - q + k * es.length
  | [], q, hq, _, _ => by simp [applyGo, txs]
  | e :: es, q, hq, hs, hg => by
    obtain ⟨h1, h2, h3, h4, h5⟩ := sound1_cons hs
    have hg1 := hg e (.head _)
    unfold Grow at hg1
    have ht : ((e.t.toNat : Nat) : Int) = e.t := Int.toNat_of_nonneg (by omega)
    have ih := apply_len (s := s) (k := k) (es := es) (q := e.t.toNat) (by omega) (by rw [ht]; exact h5) (fun x hx => hg x (.tail _ hx))
    have e1 : txs (e :: es) = e.x.length + txs es := by simp [txs]
    rw [e1, applyGo]
    simp only [List.length_append, List.length_drop, List.length_take, List.length_cons, Nat.mul_add, Nat.mul_one]
    omega
def encE (e : Ed) : List UInt8 := encU (zz e.f) ++ (encU (zz e.t) ++ encR e.x)
def encL : List Ed → List UInt8
  | [] => []
  | e :: es => encE e ++ encL es
def encEs (es : List Ed) : List UInt8 := encU (zz es.length) ++ encL es
def EdOk (n : Int) (e : Ed) : Prop := 0 ≤ e.f ∧ e.f ≤ n ∧ 0 ≤ e.t ∧ e.t ≤ n
theorem sound_ok {n : Int} : ∀ {es : List Ed} {q : Int}, 0 ≤ q → sound1 n q es = 0 → ∀ e, e ∈ es → EdOk n e
  | [], _, _, _, e, he => absurd he (by simp)
  | a :: es, q, hq, hs, e, he => by
    obtain ⟨h1, h2, h3, h4, h5⟩ := sound1_cons hs
    rcases List.mem_cons.1 he with rfl | he
    · exact ⟨h1, by omega, by omega, h3⟩
    · exact sound_ok (by omega) h5 e he
theorem encL_len {n : Int} (hn : n ≤ 4611686018427387904) : ∀ {es : List Ed}, (∀ e, e ∈ es → EdOk n e ∧ e.x.length ≤ 4611686018427387904) → (encL es).length ≤ 30 * es.length + txs es
  | [], _ => by simp [encL, txs]
  | e :: es, h => by
    have ih := encL_len hn (es := es) fun x hx => h x (.tail _ hx)
    obtain ⟨⟨h1, h2, h3, h4⟩, h5⟩ := h e (.head _)
    have a1 := encU_len10 (zz_lt (n := e.f) (by omega) (by omega))
    have a2 := encU_len10 (zz_lt (n := e.t) (by omega) (by omega))
    have a3 := encU_len10 (n := e.x.length) (by omega)
    have e1 : txs (e :: es) = e.x.length + txs es := by simp [txs]
    rw [e1, encL, encE]
    unfold encR
    simp only [List.length_append, List.length_cons]
    omega
theorem encEs_len {s : List UInt8} {k : Nat} {es : List Ed} (hs : s.length ≤ 1000000) (h : sound1 s.length 0 es = 0) (hg : ∀ e, e ∈ es → Grow k e) (hk : k ≤ 1000) (hl : es.length ≤ 1000) : (encEs es).length ≤ 10 + (30 + k) * es.length + s.length := by
  have h1 := (apply_len (s := s) (k := k) (q := 0) (Nat.zero_le _) h hg).2
  have hb : k * es.length ≤ 1000000 := Nat.mul_le_mul hk hl
  have hx : ∀ es' : List Ed, ∀ e, e ∈ es' → e.x.length ≤ txs es' := by
    intro es'
    induction es' with
    | nil => intro e he; exact absurd he (by simp)
    | cons a l ih =>
      intro e he
      have e1 : txs (a :: l) = a.x.length + txs l := by simp [txs]
      rw [e1]
      rcases List.mem_cons.1 he with rfl | he
      · omega
      · have := ih e he; omega
  have h2 := encL_len (n := s.length) (by omega) (es := es) fun e he => ⟨sound_ok (Int.le_refl 0) h e he, by have := hx es e he; omega⟩
  have h3 := encU_len10 (zz_lt (n := (es.length : Int)) (by omega) (by omega))
  rw [Nat.add_mul]
  unfold encEs
  rw [List.length_append]
  omega
end Go.GL

namespace Go.GL
set_option linter.unusedVariables false
def EdsOk (tx : List UInt8) (es : List Ed) : Prop := es.length ≤ 5 ∧ sound1 tx.length 0 es = 0 ∧ ∀ e, e ∈ es → Grow 5 e
theorem EdsOk.len {tx : List UInt8} {es : List Ed} (h : EdsOk tx es) : (applyGo tx 0 es).length ≤ tx.length + 25 := by
  have h1 := (apply_len (s := tx) (k := 5) (q := 0) (Nat.zero_le _) h.2.1 h.2.2).1
  have h2 := h.1
  omega
theorem EdsOk.enc {tx : List UInt8} {es : List Ed} (h : EdsOk tx es) (hl : tx.length ≤ 1000000) : (encEs es).length ≤ tx.length + 185 := by
  have h1 := encEs_len (s := tx) (k := 5) (es := es) hl h.2.1 h.2.2 (by decide) (by have := h.1; omega)
  have h2 := h.1
  omega
end Go.GL

namespace Go.GL
set_option linter.unusedVariables false
section
variable {P : Program} {r : Option Nat} {N : Nat} {ops : Array Oper} {rest : List Oper} {Q : Exit → Act → World → Prop} {E : Env} {ds : List Deferred} {M : List HP} {F : List Fact}
variable {d : Nat} {ty : TypeId} {pos : String} {aft : Array Edge} {gd : Option (Nat × Bool)}
end
end Go.GL

namespace Go.GL
set_option linter.unusedVariables false
theorem run_lookupC {P : Program} {w : World} {t k e : TypeId} {es : Array MapEntry} {clock b : Nat} {kvs : KV} (h : MpOk es clock kvs) (hb : w.heap[b]? = some (.map es clock)) (ht : tyMap P t k e = true) {n : List UInt8} (hn : KO n) {z : Value} (hz : (zeroValue e).run P w = .ok z w) :
    (Instr.lookup t (.map (some b)) (S n) true).run P w = .ok (.tuple #[(kvGet kvs n).getD z, .bool (kvGet kvs n).isSome]) w := by
  obtain ⟨hm, hk⟩ := tyMap_is ht
  have hx := key_mk hk hn
  have K := tyMap_keyed ht
  rcases h.find (w := w) ht hn with ⟨h1, h2⟩ | ⟨j, e0, h1, h2, h3, h4⟩
  · rw [kvGet_none h2]
    simp [Instr.lookup, run_underlying hm, MapKept.run_getObj_map hb, K.check w _ hx, h1, hz, Result.andThen]
  · rw [(kv_at h.keys h4).1]
    simp [Instr.lookup, run_underlying hm, MapKept.run_getObj_map hb, K.check w _ hx, h1, Result.andThen]
theorem own_take {w : World} {M : List HP} {F : List Fact} {e size n cap : Nat} {oa : Option Addr} {xs : List Value} (k : Nat) (hk : k ≤ n) (h : St w (OwnSl e size oa n cap xs :: M) F) (h0 : oa ≠ none) : St w (OwnSl e size oa k cap (xs.take (k * size)) :: M) F := by
  refine h.turn rfl rfl rfl (Nat.le_refl _) fun K hK => ?_
  have hxl := hK.1.1
  refine ⟨K, ⟨⟨?_, ?_⟩, hK.2⟩, ?_, fun c hc => .inl hc, fun c _ _ => rfl⟩
  · rw [List.length_take, hxl]; exact Nat.min_eq_left (Nat.mul_le_mul_right _ hk)
  · rcases hK.1.2 with ⟨hn, _⟩ | ⟨g, c, cur, hs, h2, hg, hnc, hcm, hcs, htk⟩
    · simp only [Value.slice.injEq] at hn; exact absurd hn.1 h0
    · simp only [Value.slice.injEq] at hs
      obtain ⟨rfl, _, rfl⟩ := hs
      refine .inr ⟨g, _, cur, rfl, h2, hg, by omega, hcm, hcs, ?_⟩
      rw [← htk, List.take_take, Nat.min_eq_left (Nat.mul_le_mul_right _ hk)]
  · rw [hK.2]; cases oa <;> simp
section
variable {P : Program} {r : Option Nat} {N : Nat} {ops : Array Oper} {rest : List Oper} {Q : Exit → Act → World → Prop} {E : Env} {ds : List Deferred} {M : List HP} {F : List Fact}
variable {d : Nat} {ty : TypeId} {pos : String} {aft : Array Edge} {gd : Option (Nat × Bool)}
theorem PV.lookupC {t k e : TypeId} {x y : Operand} {b : Nat} {n : List UInt8} {z : Value} {kvs : KV} (i : Nat) (ht : tyMap P t k e = true) (hx : evalO E x = some (.map (some b))) (hy : evalO E y = some (S n)) (hn : KO n) (hi : M[i]? = some (MpB b kvs)) (hz : ∀ w, (zeroValue e).run P w = .ok z w) :
    PV P E M F ⟨some d, .lookup t x y true, ty, pos, aft, gd⟩ (.tuple #[(kvGet kvs n).getD z, .bool (kvGet kvs n).isSome]) := ⟨rfl, fun ρ hρ w hw => by
  obtain ⟨es, clock, h, hb⟩ := mp_at hw hi
  have h1 := run_lookupC h hb ht hn (hz w)
  simp [execOp, hρ _ _ hx, hρ _ _ hy, h1]⟩
end
end Go.GL

namespace Go.GL
def HP.emp : HP := ⟨fun _ K => K = [], fun h _ => h, fun h b hb => by rw [h] at hb; cases hb⟩
def nthM : List HP → Nat → HP
  | [], _ => HP.emp
  | a :: _, 0 => a
  | _ :: l, n + 1 => nthM l n
def dropM : Nat → List HP → List HP
  | 0, l => l
  | _ + 1, [] => []
  | n + 1, _ :: l => dropM n l
def pikM (M : List HP) (k : Nat) : List Nat → List HP
  | [] => dropM k M
  | i :: is => nthM M i :: pikM M k is
def nthF : List Fact → Nat → Fact
  | [], _ => ⟨fun _ _ => True, fun h _ => h⟩
  | a :: _, 0 => a
  | _ :: l, n + 1 => nthF l n
def dropF : Nat → List Fact → List Fact
  | 0, l => l
  | _ + 1, [] => []
  | n + 1, _ :: l => dropF n l
def pikF (F : List Fact) (k : Nat) : List Nat → List Fact
  | [] => dropF k F
  | i :: is => nthF F i :: pikF F k is
theorem dropM_eq : ∀ (M : List HP) (k : Nat), dropM k M = M.drop k
  | _, 0 => by simp [dropM]
  | [], _ + 1 => by simp [dropM]
  | _ :: l, k + 1 => by simp [dropM, dropM_eq l k]
theorem nthM_get : ∀ {M : List HP} {i : Nat} (h : i < M.length), nthM M i = M[i]
  | [], _, h => absurd h (by simp)
  | _ :: _, 0, _ => rfl
  | _ :: l, n + 1, h => by simp only [List.length_cons] at h; show nthM l n = _; rw [nthM_get (by omega)]; rfl
theorem nthM_big : ∀ {M : List HP} {i : Nat}, M.length ≤ i → nthM M i = HP.emp
  | [], _, _ => rfl
  | _ :: _, 0, h => absurd h (by simp)
  | _ :: l, n + 1, h => nthM_big (M := l) (by simp only [List.length_cons] at h; omega)
theorem nthF_mem (F : List Fact) (i : Nat) : nthF F i ∈ F ∨ ∀ w K, (nthF F i).p w K := by
  induction F generalizing i with
  | nil => exact .inr fun _ _ => trivial
  | cons a l ih =>
    cases i with
    | zero => exact .inl (.head _)
    | succ n => rcases ih n with h | h; exact .inl (.tail _ h); exact .inr h
theorem dropF_mem {φ : Fact} : ∀ {F : List Fact} {k : Nat}, φ ∈ dropF k F → φ ∈ F
  | _, 0, h => h
  | [], _ + 1, h => h
  | _ :: _, _ + 1, h => .tail _ (dropF_mem h)
theorem St.toF {w : World} {M : List HP} {F : List Fact} (k : Nat) (fs : List Nat) (h : St w M F) : St w M (pikF F k fs) := by
  obtain ⟨K, ho, hn, hf⟩ := h
  refine ⟨K, ho, hn, ?_⟩
  induction fs with
  | nil => exact fun φ hφ => hf φ (dropF_mem hφ)
  | cons i is ih =>
    intro φ hφ
    rcases List.mem_cons.1 hφ with e | e
    · subst e
      rcases nthF_mem F i with h | h
      · exact hf _ h
      · exact h w K
    · exact ih φ e
theorem St.emp {w : World} {M : List HP} {F : List Fact} (h : St w M F) : St w (HP.emp :: M) F := by
  obtain ⟨K, ho, hn, hf⟩ := h
  exact ⟨K, ⟨[], K, rfl, rfl, ho⟩, hn, hf⟩
theorem St.dropped {w : World} {F : List Fact} : ∀ {A B : List HP}, St w (A ++ B) F → St w B F
  | [], _, h => h
  | _ :: A, B, h => St.dropped (A := A) (B := B) (by simpa using h.tail)
def okM (k : Nat) : List Nat → Bool
  | [] => true
  | i :: is => Nat.blt i k && !(is.any fun j => Nat.beq i j) && okM k is
theorem okM_is {k : Nat} : ∀ {is : List Nat}, okM k is = true → is.Nodup ∧ ∀ i, i ∈ is → i < k
  | [], _ => ⟨List.nodup_nil, fun _ h => absurd h (by simp)⟩
  | i :: is, h => by
    simp only [okM, Bool.and_eq_true] at h
    obtain ⟨h1, h2⟩ := okM_is h.2
    have h3 : i ∉ is := by
      intro hm
      have : is.any (fun j => Nat.beq i j) = true := List.any_eq_true.2 ⟨i, hm, Nat.beq_refl i⟩
      rw [this] at h
      exact absurd h.1.2 (by simp)
    refine ⟨List.nodup_cons.2 ⟨h3, h1⟩, fun j hj => ?_⟩
    rcases List.mem_cons.1 hj with e | e
    · subst e
      have := h.1.1
      simpa [Nat.blt_eq] using this
    · exact h2 j e
theorem range_map_get (M : List HP) (k : Nat) (hk : k ≤ M.length) : (List.range k).map (nthM M) = M.take k := by
  apply List.ext_getElem (by simp; omega)
  intro i h1 h2
  simp at h1
  simp [nthM_get (show i < M.length by omega)]
theorem pickM_eq (M : List HP) (k : Nat) : ∀ (is : List Nat), pikM M k is = is.map (nthM M) ++ M.drop k
  | [] => by simp [pikM, dropM_eq]
  | i :: is => by simp [pikM, pickM_eq M k is]
theorem nodup_subperm {is : List Nat} {k : Nat} (h1 : is.Nodup) (h2 : ∀ i, i ∈ is → i < k) : ∃ js, (is ++ js).Perm (List.range k) := by
  refine ⟨(List.range k).filter (fun j => decide (j ∉ is)), ?_⟩
  have hn : (is ++ (List.range k).filter (fun j => decide (j ∉ is))).Nodup := by
    refine List.nodup_append.2 ⟨h1, (List.nodup_range).sublist List.filter_sublist, ?_⟩
    intro a ha b hb e
    subst e
    have := (List.mem_filter.1 hb).2
    simp at this
    exact this ha
  refine (List.perm_ext_iff_of_nodup hn List.nodup_range).2 fun a => ?_
  constructor
  · intro h
    rcases List.mem_append.1 h with h | h
    · exact List.mem_range.2 (h2 a h)
    · exact (List.mem_filter.1 h).1
  · intro h
    by_cases ha : a ∈ is
    · exact List.mem_append.2 (.inl ha)
    · exact List.mem_append.2 (.inr (List.mem_filter.2 ⟨h, by simpa using ha⟩))
theorem St.pad {w : World} {M : List HP} {F : List Fact} (k : Nat) (h : St w M F) : St w ((List.range k).map (nthM M) ++ M.drop k) F := by
  by_cases hk : k ≤ M.length
  · rw [range_map_get M k hk, List.take_append_drop]; exact h
  · have e1 : (List.range k).map (nthM M) = M ++ List.replicate (k - M.length) HP.emp := by
      apply List.ext_getElem (by simp; omega)
      intro i h1 h2
      simp at h1
      by_cases hi : i < M.length
      · simp [List.getElem_append_left hi, nthM_get hi]
      · rw [List.getElem_append_right (by omega)]
        simp [nthM_big (M := M) (i := i) (by omega)]
    rw [e1, List.drop_eq_nil_of_le (by omega), List.append_nil]
    have : ∀ n, St w (List.replicate n HP.emp ++ M) F := by
      intro n
      induction n with
      | zero => simpa using h
      | succ n ih => simpa [List.replicate_succ] using ih.emp
    exact (this _).perm List.perm_append_comm
theorem St.toM {w : World} {M : List HP} {F : List Fact} (k : Nat) (is : List Nat) (ok : okM k is = true) (h : St w M F) : St w (pikM M k is) F := by
  obtain ⟨h1, h2⟩ := okM_is ok
  obtain ⟨js, hp⟩ := nodup_subperm h1 h2
  rw [pickM_eq]
  have h3 := h.pad k
  have h4 : ((List.range k).map (nthM M) ++ M.drop k).Perm (js.map (nthM M) ++ (is.map (nthM M) ++ M.drop k)) := by
    have := (hp.map (nthM M)).symm
    rw [List.map_append] at this
    refine (this.append_right _).trans ?_
    rw [← List.append_assoc]
    exact List.perm_append_comm.append_right _
  exact St.dropped (h3.perm h4)
theorem St.to {w : World} {M : List HP} {F : List Fact} (k : Nat) (is : List Nat) (kf : Nat) (fs : List Nat) (ok : okM k is = true) (h : St w M F) : St w (pikM M k is) (pikF F kf fs) := (h.toM k is ok).toF kf fs
theorem Ctr.pick {P : Program} {f : FuncId} {args : List Value} {M : List HP} {F : List Fact} {ι : Type} {val : ι → Value} {M' : ι → List HP} {F' : ι → List Fact} (k : Nat) (is : List Nat) (ok : okM k is = true)
    (h : Ctr P f args (pikM M k is) F ι val M' F') : Ctr P f args M F ι val M' F' := fun w hw => h w (hw.toM k is ok)
section
variable {P : Program} {r : Option Nat} {N : Nat} {ops : Array Oper} {rest : List Oper} {Q : Exit → Act → World → Prop} {E : Env} {ds : List Deferred} {M : List HP} {F : List Fact}
theorem RL.pick (k : Nat) (is : List Nat) (ok : okM k is = true) (h : RL P r N ops rest Q E ds (pikM M k is) F) : RL P r N ops rest Q E ds M F := RL.weak (fun _ hw => hw.toM k is ok) h
theorem TR.pick {c : Code} (k : Nat) (is : List Nat) (ok : okM k is = true) (h : TR P r N c Q E ds (pikM M k is) F) : TR P r N c Q E ds M F := TR.weak (fun _ hw => hw.toM k is ok) h
theorem RL.to (k : Nat) (is : List Nat) (kf : Nat) (fs : List Nat) (ok : okM k is = true) (h : RL P r N ops rest Q E ds (pikM M k is) (pikF F kf fs)) : RL P r N ops rest Q E ds M F := RL.weak (fun _ hw => hw.to k is kf fs ok) h
theorem TR.to {c : Code} (k : Nat) (is : List Nat) (kf : Nat) (fs : List Nat) (ok : okM k is = true) (h : TR P r N c Q E ds (pikM M k is) (pikF F kf fs)) : TR P r N c Q E ds M F := TR.weak (fun _ hw => hw.to k is kf fs ok) h
end
def Al (L : List HP) : HP where
  p w K := Own w L K
  loc := Own.loc
  lt := Own.lt
theorem St.alOpen {w : World} {L M : List HP} {F : List Fact} (h : St w (Al L :: M) F) : St w (L ++ M) F := by
  obtain ⟨K, ⟨K1, K2, e, h1, h2⟩, hn, hf⟩ := h
  exact ⟨K, Own.append.2 ⟨K1, K2, e, h1, h2⟩, hn, hf⟩
theorem St.alClose {w : World} {L M : List HP} {F : List Fact} (h : St w (L ++ M) F) : St w (Al L :: M) F := by
  obtain ⟨K, ho, hn, hf⟩ := h
  obtain ⟨K1, K2, e, h1, h2⟩ := Own.append.1 ho
  exact ⟨K, ⟨K1, K2, e, h1, h2⟩, hn, hf⟩
theorem St.alSnoc {w : World} {L M : List HP} {r : HP} {F : List Fact} (h : St w (r :: Al L :: M) F) : St w (Al (L ++ [r]) :: M) F := by
  refine St.alClose ?_
  have h1 := St.alOpen (h.perm (.swap _ _ _))
  rw [List.append_assoc]
  exact h1
end Go.GL

namespace Go.GL
set_option linter.unusedVariables false
theorem own_nth {w : World} : ∀ {L : List HP} {K : List Nat} {j : Nat} {r : HP}, Own w L K → L[j]? = some r → ∃ K1, r.p w K1 ∧ ∀ b, b ∈ K1 → b ∈ K
  | s :: L, K, 0, r, ⟨K1, K2, e, h1, h2⟩, hj => by
    simp at hj; subst hj
    exact ⟨K1, h1, fun b hb => by rw [e]; simp [hb]⟩
  | s :: L, K, j + 1, r, ⟨K1, K2, e, h1, h2⟩, hj => by
    obtain ⟨K3, h3, h4⟩ := own_nth h2 (by simpa using hj)
    exact ⟨K3, h3, fun b hb => by rw [e]; simp [h4 b hb]⟩
section
variable {w w' : World} {M L : List HP} {F : List Fact} {i j k b c : Nat} {o o' : Obj}
theorem al_heap (h : St w M F) (hi : M[i]? = some (Al L)) (hj : L[j]? = some (Pts b o)) : w.heap[b]? = some o := by
  obtain ⟨K, ⟨K1, K2, e, h1, h2⟩, hn, hf⟩ := h.front hi
  obtain ⟨K3, h3, _⟩ := own_nth (show Own w L K1 from h1) hj
  exact h3.2
theorem al_split (h : St w (Al L :: M) F) (hj : L[j]? = some (Pts b o)) : St w (Pts b o :: Al (L.eraseIdx j) :: M) F := by
  have h1 := St.alOpen h
  have h2 : St w (Pts b o :: (L.eraseIdx j ++ M)) F := h1.perm ((perm_front hj).append_right M)
  have h3 : St w (L.eraseIdx j ++ (Pts b o :: M)) F := h2.perm List.perm_middle.symm
  exact (St.alClose h3).swap
theorem al_unite {r r' : HP} (h : St w (r' :: Al (L.eraseIdx j) :: M) F) (hj : L[j]? = some r) : St w (Al (L.set j r') :: M) F := by
  have h1 := St.alOpen h.swap
  have h2 : St w (r' :: (L.eraseIdx j ++ M)) F := h1.perm List.perm_middle
  exact St.alClose (h2.perm ((perm_set hj).append_right M))
theorem al_turn (h : St w M F) (hi : M[i]? = some (Al L)) (hj : L[j]? = some (Pts b o)) (os : w'.os = w.os) (tape : w'.tape = w.tape) (output : w'.output = w.output) (size : w'.heap.size = w.heap.size)
    (h1 : w'.heap[b]? = some o') (hs : ∀ c, c ≠ b → w'.heap[c]? = w.heap[c]?) : St w' (M.set i (Al (L.set j (Pts b o')))) F := by
  have h2 := al_split (h.front hi) hj
  have h3 : St w' (Pts b o' :: Al (L.eraseIdx j) :: M.eraseIdx i) F := St.putHeap (i := 0) (b := b) (o := o) h2 rfl os tape output size h1 hs
  exact St.back hi (al_unite h3 hj)
theorem al_ne (h : St w M F) (hi : M[i]? = some (Al L)) (hj : L[j]? = some (Pts b o)) (hk : L[k]? = some (Pts c o')) (hjk : j ≠ k) : b ≠ c := by
  have h2 := al_split (h.front hi) hj
  obtain ⟨K, ⟨K1, K2, e, h1, K3, K4, e', h3, h4⟩, hn, hf⟩ := h2
  have hk2 : ∃ k' : Nat, (L.eraseIdx j)[k']? = some (Pts c o') := by
    by_cases hlt : k < j
    · exact ⟨k, by rw [List.getElem?_eraseIdx_of_lt hlt]; exact hk⟩
    · refine ⟨k - 1, ?_⟩
      rw [List.getElem?_eraseIdx_of_ge (by omega), show k - 1 + 1 = k from by omega]; exact hk
  obtain ⟨k', hk'⟩ := hk2
  obtain ⟨K5, h5, h6⟩ := own_nth (show Own w (L.eraseIdx j) K3 from h3) hk'
  rintro rfl
  subst e; subst e'
  have m1 : b ∈ K1 := by rw [h1.1]; simp
  have m2 : b ∈ K3 := h6 b (by rw [h5.1]; simp)
  exact (List.nodup_append.1 hn).2.2 b m1 b (by simp [m2]) rfl
end
section
variable {P : Program} {M L : List HP} {F : List Fact} {i j b bt off t : Nat} {cs vs : List Value} {v : Value}
theorem al_one (hi : M[i]? = some (Al L)) (hj : L[j]? = some (Box b bt cs)) (hT : tyScalar P t = true) (hx : cs[off]? = some v) : ∀ w, St w M F → Reads P w t ⟨b, off, none⟩ v := fun w hw =>
  run_loadVar_scalar hT (by
    rw [cell_of_box (al_heap hw hi hj)]; simpa using hx)
theorem al_agg (hi : M[i]? = some (Al L)) (hj : L[j]? = some (Box b bt cs)) (hT : tyAgg P t vs.length = true) (hx : ∀ k v, vs[k]? = some v → cs[off + k]? = some v) : ∀ w, St w M F → Reads P w t ⟨b, off, none⟩ (.agg vs.toArray) := fun w hw =>
  run_loadVar_agg hT rfl fun k v hv => by
    rw [addr_add]
    rw [cell_of_box (al_heap hw hi hj)]; simpa using hx k v hv
end
theorem run_storeAt {P : Program} {w : World} {b bt off t : Nat} {cs vs : List Value} {v : Value} (hb : w.heap[b]? = some (.cells cs.toArray bt (0, 0))) (ht : tySize P t vs.length = true) (hv : v.cells = vs.toArray) (ho : off + vs.length ≤ cs.length) (h1 : vs.all Value.oneCell' = true) :
    (storeVar t ⟨b, off, none⟩ v).run P w = .ok () (w.setRow b (cs.take off ++ vs ++ cs.drop (off + vs.length)).toArray) := by
  have hst := run_storeCells_at P b off bt vs 0 cs.toArray w hb (by simp; omega) (fun u hu => List.all_eq_true.1 h1 u hu)
  simp only [Nat.add_zero] at hst
  simp [storeVar, run_sizeOf' ht, hv, hst]
section
variable {P : Program} {r : Option Nat} {N : Nat} {ops : Array Oper} {rest : List Oper} {Q : Exit → Act → World → Prop} {E : Env} {ds : List Deferred} {M L : List HP} {F : List Fact}
variable {ty : TypeId} {pos : String} {aft : Array Edge} {gd : Option (Nat × Bool)}
theorem EV.storeAl {t b bt off : Nat} {cs vs : List Value} {v : Value} {x y : Operand} (i j : Nat) (hx : evalO E x = some (.pointer (some ⟨b, off, none⟩))) (hy : evalO E y = some v) (hi : M[i]? = some (Al L)) (hj : L[j]? = some (Box b bt cs)) (ht : tySize P t vs.length = true) (hv : v.cells = vs.toArray)
    (ho : off + vs.length ≤ cs.length) (h1 : vs.all Value.oneCell' = true) : EV P r Q E M F ⟨none, .store t x y, ty, pos, aft, gd⟩ Unit (fun _ => undef) (fun _ => M.set i (Al (L.set j (Box b bt (cs.take off ++ vs ++ cs.drop (off + vs.length)))))) (fun _ => F) :=
  EV.of_eff rfl fun ρ hρ w hw => by
    have hb := al_heap hw hi hj
    have h2 := run_storeAt (P := P) hb ht hv ho h1
    refine ⟨w.setRow b (cs.take off ++ vs ++ cs.drop (off + vs.length)).toArray, by simp [execOp, hρ _ _ hx, hρ _ _ hy, Instr.storeAt, Instr.sureAddr, h2], ?_⟩
    exact al_turn hw hi hj rfl rfl rfl (by simp) (setRow_heap w b _ _ _ _ hb) fun c hc => setRow_other w b c _ (fun e => hc e)
end
def anV (a : An) : Value := .agg #[S a.s, I a.e]
def trC : Tr → List Value
  | [] => []
  | p :: l => S p.1 :: S p.2.s :: I p.2.e :: trC l
def PtV (b : Nat) : Value := .pointer (some ⟨b, 0, none⟩)
structure QM where
  ptr : Nat
  q : Qy
  oa : Option Addr
  ca : Nat
structure FM where
  ptr : Nat
  f : Fr
  oa : Option Addr
  ca : Nat
def QM.cs (x : QM) : List Value := [S x.q.own.s, I x.q.own.e, .slice x.oa x.q.tr.length x.ca, .bool x.q.cyc, .bool x.q.ok, I x.q.used]
def FM.cs (x : FM) : List Value := [S x.f.key, I (x.f.low : Nat), .bool x.f.self, S x.f.own.s, I x.f.own.e, .slice x.oa x.f.tr.length x.ca, .bool false, .bool false, I 0]
def qB (p : Ky × QM) : HP := Box p.2.ptr 87 p.2.cs
def fB (x : FM) : HP := Box x.ptr 91 x.cs
structure EX where
  inp : List (Ky × List UInt8)
  qs : List (Ky × QM)
  comp : List Ky
  gets : Int
  fuel : Nat
  out : Bool
  fs : List FM
def EX.en (X : EX) : En := ⟨X.inp, X.qs.map (fun p => (p.1, p.2.q)), X.comp, X.gets, X.fuel, X.out, X.fs.map FM.f⟩
structure EH where
  ib : Nat
  qb : Nat
  ab : Nat
  co : Option Addr
  cc : Nat
  so : Option Addr
  sc : Nat
def inC (l : List (Ky × List UInt8)) : KV := l.map fun p => (p.1, S p.2)
def qsC (l : List (Ky × QM)) : KV := l.map fun p => (p.1, PtV p.2.ptr)
def atC : Nat → List FM → KV
  | _, [] => []
  | i, x :: l => (x.f.key, I (i : Nat)) :: atC (i + 1) l
def coC (l : List Ky) : List Value := l.map (S ·)
def stC (l : List FM) : List Value := l.map fun x => PtV x.ptr
def EngB (b : Nat) (bud : Int) (fv : Value) (X : EX) : HP := Ex (ι := EH) fun h => [Box b 65 [I bud, fv, .map (some h.ib), .map (some h.qb), .slice h.co X.comp.length h.cc, I X.gets, I (X.fuel : Nat), .bool X.out, .slice h.so X.fs.length h.sc, .map (some h.ab)],
  MpB h.ib (inC X.inp), MpB h.qb (qsC X.qs), MpB h.ab (atC 0 X.fs), OwnSl 9 1 h.co X.comp.length h.cc (coC X.comp), OwnSl 88 1 h.so X.fs.length h.sc (stC X.fs), Al (X.fs.map fB), Al (X.qs.map qB)]
structure EI where
  ib : Nat
  qb : Nat
  co : Option Addr
  cc : Nat
  so : Option Addr
  sn : Nat
  sc : Nat
  ab : Option Nat
def EngI (b : Nat) (bud : Int) (fv : Value) (X : EX) : HP := Ex (ι := EI) fun h => [Box b 65 [I bud, fv, .map (some h.ib), .map (some h.qb), .slice h.co X.comp.length h.cc, I X.gets, I (X.fuel : Nat), .bool X.out, .slice h.so h.sn h.sc, .map h.ab],
  MpB h.ib (inC X.inp), MpB h.qb (qsC X.qs), OwnSl 9 1 h.co X.comp.length h.cc (coC X.comp), Al (X.qs.map qB)]
def QF (qs : List (Ky × QM)) : Fact := ⟨fun w K => ∀ p, p ∈ qs → ArrAt w K p.2.oa (trC p.2.q.tr), fun h e p hp => (h p hp).mono e⟩
def FF (n : Nat) (fs : List FM) : Fact := ⟨fun w K => ∀ i x, n ≤ i → fs[i]? = some x → ArrAt w K x.oa (trC x.f.tr), fun h e i x hi hx => (h i x hi hx).mono e⟩
theorem trC_len : ∀ (t : Tr), (trC t).length = t.length * 3
  | [] => rfl
  | p :: l => by simp only [trC, List.length_cons, trC_len l]; omega
theorem trC_append : ∀ (a b : Tr), trC (a ++ b) = trC a ++ trC b
  | [], b => rfl
  | p :: l, b => by simp only [List.cons_append, trC, trC_append l b]
theorem trC_at : ∀ {t : Tr} {i : Nat} {p : Ky × An}, t[i]? = some p → ∀ j v, [S p.1, S p.2.s, I p.2.e][j]? = some v → (trC t)[i * 3 + j]? = some v
  | q :: l, 0, p, h, j, v, hv => by
    simp at h; subst h
    match j, hv with
    | 0, hv => simpa [trC] using hv
    | 1, hv => simpa [trC] using hv
    | 2, hv => simpa [trC] using hv
    | j + 3, hv => simp at hv
  | q :: l, i + 1, p, h, j, v, hv => by
    rw [show (i + 1) * 3 + j = (i * 3 + j) + 3 from by omega]
    simp only [trC, List.getElem?_cons_succ]
    exact trC_at (by simpa using h) j v hv
theorem trC_one (t : Tr) : (trC t).all Value.oneCell' = true := by
  induction t with
  | nil => rfl
  | cons p l ih => simp only [trC, List.all_cons, ih, Value.oneCell', Bool.and_self]
theorem atC_append : ∀ (n : Nat) (a b : List FM), atC n (a ++ b) = atC n a ++ atC (n + a.length) b
  | n, [], b => rfl
  | n, x :: l, b => by
    simp only [List.cons_append, atC, atC_append (n + 1) l b, List.length_cons]
    rw [show n + (l.length + 1) = n + 1 + l.length from by omega]
theorem atC_keys : ∀ (n : Nat) (a : List FM), (atC n a).map Prod.fst = a.map fun x => x.f.key
  | _, [] => rfl
  | n, x :: l => by simp only [atC, List.map_cons, atC_keys (n + 1) l]
theorem atC_get : ∀ (n : Nat) (a : List FM) (k : Ky), kvGet (atC n a) k = (frIdx (a.map FM.f) k).map fun i => I ((n + i : Nat) : Int)
  | n, [], k => rfl
  | n, x :: l, k => by
    simp only [atC, kvGet, List.map_cons, frIdx]
    by_cases e : x.f.key = k
    · rw [if_pos e, if_pos e]; rfl
    · rw [if_neg e, if_neg e, atC_get (n + 1) l k, Option.map_map]
      congr 1
      funext i
      show I _ = I _
      rw [show n + 1 + i = n + (i + 1) from by omega]
theorem inC_get : ∀ (l : List (Ky × List UInt8)) (k : Ky), kvGet (inC l) k = (aGet l k).map (S ·)
  | [], k => rfl
  | p :: l, k => by
    simp only [inC, List.map_cons, kvGet, aGet]
    by_cases e : p.1 = k
    · rw [if_pos e, if_pos e]; rfl
    · rw [if_neg e, if_neg e]; exact inC_get l k
theorem inC_set : ∀ (l : List (Ky × List UInt8)) (k : Ky) (v : List UInt8), kvSet (inC l) k (S v) = inC (aSet l k v)
  | [], k, v => rfl
  | p :: l, k, v => by
    simp only [inC, List.map_cons, kvSet, aSet]
    by_cases e : p.1 = k
    · rw [if_pos e, if_pos e]; rfl
    · rw [if_neg e, if_neg e]; exact congrArg _ (inC_set l k v)
theorem qsC_get : ∀ (l : List (Ky × QM)) (k : Ky), kvGet (qsC l) k = (aGet l k).map fun x => PtV x.ptr
  | [], k => rfl
  | p :: l, k => by
    simp only [qsC, List.map_cons, kvGet, aGet]
    by_cases e : p.1 = k
    · rw [if_pos e, if_pos e]; rfl
    · rw [if_neg e, if_neg e]; exact qsC_get l k
theorem qsC_set : ∀ (l : List (Ky × QM)) (k : Ky) (v : QM), kvSet (qsC l) k (PtV v.ptr) = qsC (aSet l k v)
  | [], k, v => rfl
  | p :: l, k, v => by
    simp only [qsC, List.map_cons, kvSet, aSet]
    by_cases e : p.1 = k
    · rw [if_pos e, if_pos e]; rfl
    · rw [if_neg e, if_neg e]; exact congrArg _ (qsC_set l k v)
theorem qsC_del : ∀ (l : List (Ky × QM)) (k : Ky), kvDel (qsC l) k = qsC (aDel l k)
  | [], k => rfl
  | p :: l, k => by
    simp only [qsC, List.map_cons, kvDel, aDel]
    by_cases e : p.1 = k
    · rw [if_pos e, if_pos e]
    · rw [if_neg e, if_neg e]; exact congrArg _ (qsC_del l k)
theorem aGet_map {α β : Type} (g : α → β) : ∀ (l : List (Ky × α)) (k : Ky), aGet (l.map fun p => (p.1, g p.2)) k = (aGet l k).map g
  | [], k => rfl
  | p :: l, k => by
    simp only [List.map_cons, aGet]
    by_cases e : p.1 = k
    · rw [if_pos e, if_pos e]; rfl
    · rw [if_neg e, if_neg e]; exact aGet_map g l k
theorem aSet_map {α β : Type} (g : α → β) : ∀ (l : List (Ky × α)) (k : Ky) (v : α), (aSet l k v).map (fun p => (p.1, g p.2)) = aSet (l.map fun p => (p.1, g p.2)) k (g v)
  | [], k, v => rfl
  | p :: l, k, v => by
    simp only [List.map_cons, aSet]
    by_cases e : p.1 = k
    · rw [if_pos e, if_pos e]; rfl
    · rw [if_neg e, if_neg e, List.map_cons, aSet_map g l k v]
theorem aGet_at {β : Type} : ∀ {l : List (Ky × β)} {k : Ky} {v : β}, aGet l k = some v → ∃ j, l[j]? = some (k, v) ∧ ∀ v', aSet l k v' = l.set j (k, v')
  | p :: l, k, v, h => by
    rw [aGet] at h
    by_cases e : p.1 = k
    · rw [if_pos e] at h
      cases h
      exact ⟨0, by rw [← e]; rfl, fun v' => by rw [aSet, if_pos e]; rfl⟩
    · rw [if_neg e] at h
      obtain ⟨j, h1, h2⟩ := aGet_at h
      exact ⟨j + 1, by simpa using h1, fun v' => by rw [aSet, if_neg e, h2]; rfl⟩
theorem upd_map_set {α β : Type} (g : α → β) : ∀ (l : List α) (j : Nat) (f : α → α) {x : α}, l[j]? = some x → (upd l j f).map g = (l.map g).set j (g (f x))
  | [], j, f, x, h => by simp at h
  | a :: l, 0, f, x, h => by simp at h; subst h; rfl
  | a :: l, j + 1, f, x, h => by
    simp only [upd, List.map_cons, List.set_cons_succ]
    rw [upd_map_set g l j f (by simpa using h)]
theorem upd_map_com {α β : Type} (g : α → β) (f : α → α) (f' : β → β) (hc : ∀ a, g (f a) = f' (g a)) : ∀ (l : List α) (j : Nat), (upd l j f).map g = upd (l.map g) j f'
  | [], j => by simp [upd]
  | a :: l, 0 => by simp [upd, hc]
  | a :: l, j + 1 => by simp only [upd, List.map_cons, upd_map_com g f f' hc l j]
def FM.up (f : Fr → Fr) (x : FM) : FM := { x with f := f x.f }
theorem up_map (f : Fr → Fr) (l : List FM) (j : Nat) : (upd l j (FM.up f)).map FM.f = upd (l.map FM.f) j f := upd_map_com FM.f _ f (fun a => rfl) l j
theorem up_at (f : Fr → Fr) (hk : ∀ a, (f a).key = a.key) : ∀ (n : Nat) (l : List FM) (j : Nat), atC n (upd l j (FM.up f)) = atC n l
  | n, [], j => by simp [upd]
  | n, a :: l, 0 => by simp only [upd, atC, FM.up, hk]
  | n, a :: l, j + 1 => by simp only [upd, atC, up_at f hk (n + 1) l j]
theorem up_st (f : FM → FM) (hk : ∀ a, (f a).ptr = a.ptr) (l : List FM) (j : Nat) : stC (upd l j f) = stC l := by
  unfold stC
  exact upd_map (fun x : FM => PtV x.ptr) l j f fun a => by simp only [hk]
end Go.GL

namespace Go.GL
set_option linter.unusedVariables false
def AnB (k : Ky) (a : An) : Prop := a.s.length ≤ if k = [98] then 8 else 4
theorem AnB.le {k : Ky} {a : An} (h : AnB k a) : a.s.length ≤ 8 := by unfold AnB at h; split at h <;> omega
theorem AnB.of0 {k : Ky} {a : An} (h : a.s.length ≤ 4) : AnB k a := by unfold AnB; split <;> omega
inductive RuB (k0 : Ky) : Ru → Prop
  | ret {a : An} : AnB k0 a → RuB k0 (.ret a)
  | ask {k : Ky} {f : An → Ru} : (∀ a, AnB k a → RuB k0 (f a)) → RuB k0 (.ask k f)
structure RuK (U : List Ky) (k0 : Ky) (r : Ru) : Prop where
  i : RuIn U r
  b : RuB k0 r
section
variable {rule : Ky → Ru} {U : List Ky}
structure TrOk (U : List Ky) (t : Tr) : Prop where
  nd : (t.map Prod.fst).Nodup
  mem : ∀ p, p ∈ t → p.1 ∈ U
  bd : ∀ p, p ∈ t → AnB p.1 p.2
theorem TrOk.nil : TrOk U [] := ⟨by simp, fun p hp => absurd hp (by simp), fun p hp => absurd hp (by simp)⟩
theorem TrOk.len {t : Tr} (h : TrOk U t) : t.length ≤ U.length := by
  have := nodup_sub h.nd (m := U) fun x hx => by
    obtain ⟨p, hp, rfl⟩ := List.mem_map.1 hx
    exact h.mem p hp
  rwa [List.length_map] at this
structure Wk (U : List Ky) (e : En) : Prop where
  nd : (e.st.map Fr.key).Nodup
  st : ∀ f, f ∈ e.st → f.key ∈ U ∧ TrOk U f.tr
  qs : ∀ p, p ∈ e.qs → TrOk U p.2.tr
  ib : ∀ p, p ∈ e.inp → AnB p.1 ⟨p.2, 0⟩
  sb : ∀ f, f ∈ e.st → AnB f.key f.own
  qb : ∀ p, p ∈ e.qs → AnB p.1 p.2.own
theorem Wk.same {U : List Ky} {e e' : En} (h : Wk U e) (h1 : e'.inp = e.inp) (h2 : e'.qs = e.qs) (h3 : e'.st = e.st) : Wk U e' := ⟨by rw [h3]; exact h.nd, by rw [h3]; exact h.st, by rw [h2]; exact h.qs, by rw [h1]; exact h.ib, by rw [h3]; exact h.sb, by rw [h2]; exact h.qb⟩
theorem Wk.len {e : En} (h : Wk U e) : e.st.length ≤ U.length := by
  have := nodup_sub h.nd (m := U) fun x hx => by
    obtain ⟨p, hp, rfl⟩ := List.mem_map.1 hx
    exact (h.st p hp).1
  rwa [List.length_map] at this
structure Kq (e e' : En) : Prop where
  su : e'.comp.length + e'.fuel ≤ e.comp.length + e.fuel
  kp : ∀ (i : Nat) f, e.st[i]? = some f → ∃ f', e'.st[i]? = some f' ∧ f'.key = f.key ∧ f'.tr = f.tr
structure Kr (b : Nat) (e e' : En) : Prop where
  su : e'.comp.length + e'.fuel ≤ e.comp.length + e.fuel
  kp : ∀ (i : Nat) f, e.st[i]? = some f → ∃ f', e'.st[i]? = some f' ∧ f'.key = f.key ∧ (i ≠ b → f'.tr = f.tr)
theorem Kq.refl (e : En) : Kq e e := ⟨Nat.le_refl _, fun i f h => ⟨f, h, rfl, rfl⟩⟩
theorem Kr.refl (b : Nat) (e : En) : Kr b e e := ⟨Nat.le_refl _, fun i f h => ⟨f, h, rfl, fun _ => rfl⟩⟩
theorem Kq.trans {a b c : En} (h : Kq a b) (h' : Kq b c) : Kq a c := ⟨Nat.le_trans h'.su h.su, fun i f hf => by
  obtain ⟨f1, a1, a2, a3⟩ := h.kp i f hf
  obtain ⟨f2, b1, b2, b3⟩ := h'.kp i f1 a1
  exact ⟨f2, b1, b2.trans a2, b3.trans a3⟩⟩
theorem Kr.trans {i : Nat} {a b c : En} (h : Kr i a b) (h' : Kr i b c) : Kr i a c := ⟨Nat.le_trans h'.su h.su, fun j f hf => by
  obtain ⟨f1, a1, a2, a3⟩ := h.kp j f hf
  obtain ⟨f2, b1, b2, b3⟩ := h'.kp j f1 a1
  exact ⟨f2, b1, b2.trans a2, fun e => (b3 e).trans (a3 e)⟩⟩
theorem Kq.kr {a b : En} (i : Nat) (h : Kq a b) : Kr i a b := ⟨h.su, fun j f hf => by
  obtain ⟨f1, a1, a2, a3⟩ := h.kp j f hf
  exact ⟨f1, a1, a2, fun _ => a3⟩⟩
theorem updMem {α : Type} : ∀ {l : List α} {i : Nat} {f : α → α} {a : α}, a ∈ upd l i f → a ∈ l ∨ ∃ b, l[i]? = some b ∧ a = f b
  | [], i, f, a, h => by simp [upd] at h
  | b :: l, 0, f, a, h => by
    simp only [upd, List.mem_cons] at h
    rcases h with h | h
    · exact .inr ⟨b, rfl, h⟩
    · exact .inl (.tail _ h)
  | b :: l, i + 1, f, a, h => by
    simp only [upd, List.mem_cons] at h
    rcases h with h | h
    · exact .inl (by rw [h]; exact .head _)
    · rcases updMem h with h | ⟨c, h1, h2⟩
      · exact .inl (.tail _ h)
      · exact .inr ⟨c, by simpa using h1, h2⟩
theorem Wk.mod {e : En} {i : Nat} {f : Fr → Fr} (h : Wk U e) (hk : ∀ g, (f g).key = g.key) (ht : ∀ g, e.st[i]? = some g → TrOk U (f g).tr) (ha : ∀ g, e.st[i]? = some g → AnB g.key (f g).own) : Wk U (e.mod i f) := by
  refine ⟨?_, fun g hg => ?_, h.qs, h.ib, fun g hg => ?_, h.qb⟩
  · show ((upd e.st i f).map Fr.key).Nodup
    rw [upd_map Fr.key _ _ _ hk]; exact h.nd
  · rcases updMem hg with hg | ⟨b, h1, rfl⟩
    · exact h.st g hg
    · exact ⟨by rw [hk]; exact (h.st b (List.mem_of_getElem? h1)).1, ht b h1⟩
  · rcases updMem hg with hg | ⟨b, h1, rfl⟩
    · exact h.sb g hg
    · rw [hk]; exact ha b h1
theorem Wk.own {e : En} {i : Nat} {g : Fr} (h : Wk U e) (hg : e.st[i]? = some g) : AnB g.key g.own := h.sb g (List.mem_of_getElem? hg)
theorem mod_kr (e : En) (i : Nat) (f : Fr → Fr) (hk : ∀ g, (f g).key = g.key) : Kr i e (e.mod i f) := ⟨Nat.le_refl _, fun j g hg => by
  show ∃ f', (upd e.st i f)[j]? = some f' ∧ _
  rw [upd_get]
  by_cases h : i = j
  · subst h; rw [if_pos rfl, hg]; exact ⟨f g, rfl, hk g, fun h => absurd rfl h⟩
  · rw [if_neg h]; exact ⟨g, hg, rfl, fun _ => rfl⟩⟩
theorem mod_kq (e : En) (i : Nat) (f : Fr → Fr) (hk : ∀ g, (f g).key = g.key) (ht : ∀ g, (f g).tr = g.tr) : Kq e (e.mod i f) := ⟨Nat.le_refl _, fun j g hg => by
  show ∃ f', (upd e.st i f)[j]? = some f' ∧ _
  rw [upd_get]
  by_cases h : i = j
  · subst h; rw [if_pos rfl, hg]; exact ⟨f g, rfl, hk g, ht g⟩
  · rw [if_neg h]; exact ⟨g, hg, rfl, rfl⟩⟩
theorem hit_wk {e : En} {by_ : Option Nat} {i : Nat} (h : Wk U e) : Wk U (hit e by_ i) ∧ Kq e (hit e by_ i) := by
  unfold hit
  split
  · exact ⟨h, Kq.refl e⟩
  · split
    · exact ⟨h, Kq.refl e⟩
    · exact ⟨h.mod (fun _ => rfl) (fun g hg => (h.st g (List.mem_of_getElem? hg)).2) (fun g hg => h.own hg), mod_kq _ _ _ (fun _ => rfl) fun _ => rfl⟩
theorem bump_wk {e : En} {by_ : Option Nat} {m : Nat} (h : Wk U e) : Wk U (bump e by_ m) ∧ Kq e (bump e by_ m) := by
  unfold bump
  split
  · exact ⟨h, Kq.refl e⟩
  · exact ⟨h.mod (fun _ => rfl) (fun g hg => (h.st g (List.mem_of_getElem? hg)).2) (fun g hg => h.own hg), mod_kq _ _ _ (fun _ => rfl) fun _ => rfl⟩
theorem aSet_mem {β : Type} : ∀ {l : List (Ky × β)} {k : Ky} {v : β} {p : Ky × β}, p ∈ aSet l k v → p ∈ l ∨ p = (k, v)
  | [], k, v, p, h => by simp [aSet] at h; exact .inr h
  | q :: l, k, v, p, h => by
    rw [aSet] at h
    split at h
    · rcases List.mem_cons.1 h with h | h
      · exact .inr h
      · exact .inl (.tail _ h)
    · rcases List.mem_cons.1 h with h | h
      · exact .inl (by rw [h]; exact .head _)
      · rcases aSet_mem h with h | h
        · exact .inl (.tail _ h)
        · exact .inr h
theorem okOf_mem {qs : List (Ky × Qy)} {k : Ky} {q : Qy} (h : okOf qs k = some q) : (k, q) ∈ qs ∧ q.ok = true := by
  unfold okOf at h
  split at h
  · rename_i q' hq
    split at h
    · rename_i ho; cases h; exact ⟨aGet_mem hq, ho⟩
    · cases h
  · cases h
theorem touch_wk {e : En} {k : Ky} {q : Qy} (h : Wk U e) (hq : okOf e.qs k = some q) : Wk U (touch e k q) ∧ Kq e (touch e k q) := by
  refine ⟨⟨h.nd, h.st, fun p hp => ?_, h.ib, h.sb, fun p hp => ?_⟩, Nat.le_refl _, fun i f hf => ⟨f, hf, rfl, rfl⟩⟩
  · rcases aSet_mem hp with hp | hp
    · exact h.qs p hp
    · rw [hp]; exact h.qs (k, q) (okOf_mem hq).1
  · rcases aSet_mem hp with hp | hp
    · exact h.qb p hp
    · rw [hp]; exact h.qb (k, q) (okOf_mem hq).1
theorem putAll_mem {gets : Int} {c : Bool} : ∀ {grp : List Fr} {qs : List (Ky × Qy)} {p : Ky × Qy}, p ∈ putAll gets c grp qs → p ∈ qs ∨ ∃ f, f ∈ grp ∧ p.2.tr = f.tr ∧ p.1 = f.key ∧ p.2.own = f.own
  | [], qs, p, h => .inl h
  | f :: l, qs, p, h => by
    rcases putAll_mem (grp := l) h with h | ⟨g, h1, h2⟩
    · rcases aSet_mem h with h | h
      · exact .inl h
      · exact .inr ⟨f, .head _, by rw [h]; rfl, by rw [h], by rw [h]; rfl⟩
    · exact .inr ⟨g, .tail _ h1, h2⟩
theorem settle_wk {e : En} {own : Nat} (h : Wk U e) : Wk U (settle own e).2 := by
  refine ⟨?_, fun f hf => h.st f (List.mem_of_mem_take hf), fun p hp => ?_, h.ib, fun f hf => h.sb f (List.mem_of_mem_take hf), fun p hp => ?_⟩
  · show ((e.st.take own).map Fr.key).Nodup
    rw [List.map_take]; exact h.nd.sublist (List.take_sublist _ _)
  · rcases putAll_mem hp with hp | ⟨f, h1, h2⟩
    · exact h.qs p hp
    · rw [h2.1]; exact (h.st f (List.mem_of_mem_drop h1)).2
  · rcases putAll_mem hp with hp | ⟨f, h1, h2⟩
    · exact h.qb p hp
    · rw [h2.2.1, h2.2.2]; exact h.sb f (List.mem_of_mem_drop h1)
theorem settle_an {e : En} {own : Nat} {k : Ky} (h : Wk U e) (hk : ∀ f, e.st[own]? = some f → f.key = k) : AnB k (settle own e).1 := by
  have h2 := settle_wk (own := own) h
  unfold settle at h2 ⊢
  simp only at h2 ⊢
  split
  · rename_i f hf
    split
    · rename_i q hq
      have h3 := h2.qb _ (aGet_mem hq)
      rw [hk f hf] at h3
      unfold Qy.ans
      split
      · exact .of0 (Nat.zero_le _)
      · exact h3
    · exact .of0 (Nat.zero_le _)
  · exact .of0 (Nat.zero_le _)
theorem push_wk {e : En} {k : Ky} (h : Wk U e) (hk : k ∈ U) (hx : frIdx e.st k = none) : Wk U (push e k) := by
  refine ⟨?_, fun f hf => ?_, h.qs, h.ib, fun f hf => ?_, h.qb⟩
  · show ((e.st ++ [_]).map Fr.key).Nodup
    rw [List.map_append, List.nodup_append]
    refine ⟨h.nd, by simp, fun a ha b hb => ?_⟩
    obtain ⟨f, hf, rfl⟩ := List.mem_map.1 ha
    simp at hb; subst hb
    exact frIdx_none hx f hf
  · rcases List.mem_append.1 hf with hf | hf
    · exact h.st f hf
    · simp at hf; subst hf; exact ⟨hk, TrOk.nil⟩
  · rcases List.mem_append.1 hf with hf | hf
    · exact h.sb f hf
    · simp at hf; subst hf; exact .of0 (Nat.zero_le _)
theorem push_kq (e : En) (k : Ky) : Kq e (push e k) := ⟨Nat.le_refl _, fun i f hf => ⟨f, by
  show (e.st ++ [_])[i]? = some f
  rw [List.getElem?_append_left (List.getElem?_eq_some_iff.1 hf).1]; exact hf, rfl, rfl⟩⟩
def Wob (U : List Ky) (ob : Ky → Nat → En → An × En) : Prop := ∀ k i e, k ∈ U → Wk U e → Wk U (ob k i e).2 ∧ Kq e (ob k i e).2 ∧ AnB k (ob k i e).1
variable {ob : Ky → Nat → En → An × En}
theorem hold_wk (ho : Wob U ob) {own : Nat} : ∀ (T : Tr) {e : En}, (∀ p, p ∈ T → p.1 ∈ U) → Wk U e → Wk U (holdG ob own T e).2 ∧ Kq e (holdG ob own T e).2
  | [], e, _, h => ⟨h, Kq.refl e⟩
  | (k, a) :: T, e, hT, h => by
    obtain ⟨h1, h2, _⟩ := ho k own e (hT _ (.head _)) h
    rw [holdG]
    split
    · exact ⟨h1, h2⟩
    · obtain ⟨h3, h4⟩ := hold_wk ho T (fun p hp => hT p (.tail _ hp)) h1
      exact ⟨h3, h2.trans h4⟩
theorem trOf_is {e : En} {i : Nat} {f : Fr} (h : e.st[i]? = some f) : trOf e i = f.tr := by unfold trOf; rw [h]
theorem TrOk.snoc {t : Tr} {k : Ky} {x : An} (h : TrOk U t) (hk : k ∈ U) (hx : AnB k x) (hn : aGet t k = none) : TrOk U (t ++ [(k, x)]) := by
  refine ⟨?_, fun p hp => ?_, fun p hp => ?_⟩
  · rw [List.map_append, List.nodup_append]
    refine ⟨h.nd, by simp, fun a ha b hb => ?_⟩
    simp at hb; subst hb
    rintro rfl
    exact aGet_none.1 hn ha
  · rcases List.mem_append.1 hp with hp | hp
    · exact h.mem p hp
    · simp at hp; subst hp; exact hk
  · rcases List.mem_append.1 hp with hp | hp
    · exact h.bd p hp
    · simp at hp; subst hp; exact hx
def askG (ob : Ky → Nat → En → An × En) (own : Nat) (k : Ky) (e : En) : An × En := match aGet (trOf e own) k with
  | some x => (x, e)
  | none => ((ob k own e).1, addTr (ob k own e).2 own k (ob k own e).1)
theorem runG_ask (own : Nat) (k : Ky) (f : An → Ru) (e : En) : runG ob own (.ask k f) e = runG ob own (f (askG ob own k e).1) (askG ob own k e).2 := by
  rw [runG]; unfold askG
  cases h : aGet (trOf e own) k <;> rfl
theorem ask_w3 (ho : Wob U ob) {own : Nat} {k : Ky} {e : En} (hk : k ∈ U) (hl : own < e.st.length) (h : Wk U e) : Wk U (askG ob own k e).2 ∧ Kr own e (askG ob own k e).2 ∧ AnB k (askG ob own k e).1 := by
  obtain ⟨f, hf⟩ : ∃ f, e.st[own]? = some f := ⟨_, List.getElem?_eq_getElem hl⟩
  unfold askG
  split
  · rename_i x hx
    rw [trOf_is hf] at hx
    exact ⟨h, Kr.refl own e, (h.st f (List.mem_of_getElem? hf)).2.bd (k, x) (aGet_mem hx)⟩
  · rename_i hn
    obtain ⟨h1, h2, h3⟩ := ho k own e hk h
    obtain ⟨f', a1, a2, a3⟩ := h2.kp own f hf
    rw [trOf_is hf] at hn
    refine ⟨h1.mod (fun _ => rfl) (fun g hg => ?_) (fun g hg => h1.own hg), (h2.kr own).trans (mod_kr _ _ _ fun _ => rfl), h3⟩
    rw [a1] at hg; cases hg
    show TrOk U (f'.tr ++ [_])
    rw [a3]
    exact (h.st f (List.mem_of_getElem? hf)).2.snoc hk h3 hn
theorem ask_wk (ho : Wob U ob) {own : Nat} {k : Ky} {e : En} (hk : k ∈ U) (hl : own < e.st.length) (h : Wk U e) : Wk U (askG ob own k e).2 ∧ Kr own e (askG ob own k e).2 :=
  ⟨(ask_w3 ho hk hl h).1, (ask_w3 ho hk hl h).2.1⟩
theorem Kr.lt {own : Nat} {e e' : En} (h : Kr own e e') {i : Nat} (hi : i < e.st.length) : i < e'.st.length := by
  obtain ⟨f', h1, _⟩ := h.kp i _ (List.getElem?_eq_getElem hi)
  exact (List.getElem?_eq_some_iff.1 h1).1
theorem Kq.lt {e e' : En} (h : Kq e e') {i : Nat} (hi : i < e.st.length) : i < e'.st.length := by
  obtain ⟨f', h1, _⟩ := h.kp i _ (List.getElem?_eq_getElem hi)
  exact (List.getElem?_eq_some_iff.1 h1).1
theorem run_w3 (ho : Wob U ob) {own : Nat} {k0 : Ky} {r : Ru} (hr : RuIn U r) : RuB k0 r → ∀ {e : En}, own < e.st.length → Wk U e → Wk U (runG ob own r e).2 ∧ Kr own e (runG ob own r e).2 ∧ AnB k0 (runG ob own r e).1 := by
  induction hr with
  | ret a => intro hb e _ h; cases hb with | ret hb => exact ⟨h, Kr.refl own e, hb⟩
  | ask hk _ ih =>
    intro hb e hl h
    cases hb with
    | ask hb =>
      rw [runG_ask]
      obtain ⟨h1, h2, h0⟩ := ask_w3 ho hk hl h
      obtain ⟨h3, h4, h5⟩ := ih _ (hb _ h0) (h2.lt hl) h1
      exact ⟨h3, h2.trans h4, h5⟩
theorem run_wk (ho : Wob U ob) {own : Nat} {k0 : Ky} {r : Ru} (hr : RuK U k0 r) {e : En} (hl : own < e.st.length) (h : Wk U e) : Wk U (runG ob own r e).2 ∧ Kr own e (runG ob own r e).2 :=
  ⟨(run_w3 ho hr.i hr.b hl h).1, (run_w3 ho hr.i hr.b hl h).2.1⟩
theorem comp_wk (ho : Wob U ob) {own : Nat} {r : Ru} {k : Ky} (hr : RuK U k r) {e : En} (hl : own < e.st.length) (hk : ∀ f, e.st[own]? = some f → f.key = k) (h : Wk U e) : Wk U (compG ob r k own e) ∧ Kr own e (compG ob r k own e) := by
  unfold compG
  split
  · exact ⟨h.same rfl rfl rfl, Nat.le_refl _, fun i f hf => ⟨f, hf, rfl, fun _ => rfl⟩⟩
  · rename_i hc
    have hf0 : e.fuel ≠ 0 := fun h => hc (.inr h)
    obtain ⟨h1, h2, h9⟩ := run_w3 (e := { e with fuel := e.fuel - 1 }) ho hr.i hr.b hl (h.same rfl rfl rfl)
    have hs := h2.su
    split
    · have h9 : ({ e with fuel := e.fuel - 1 } : En).comp.length + ({ e with fuel := e.fuel - 1 } : En).fuel ≤ e.comp.length + e.fuel := by show e.comp.length + (e.fuel - 1) ≤ _; omega
      exact ⟨h1, Nat.le_trans hs h9, h2.kp⟩
    · have h3 := h1.mod (i := own) (f := fun f => { f with own := (runG ob own r { e with fuel := e.fuel - 1 }).1 }) (fun _ => rfl) (fun g hg => (h1.st g (List.mem_of_getElem? hg)).2) (fun g hg => by
        obtain ⟨f, hf⟩ : ∃ f, e.st[own]? = some f := ⟨_, List.getElem?_eq_getElem hl⟩
        obtain ⟨f', a1, a2, _⟩ := h2.kp own f hf
        rw [hg] at a1; cases a1
        rw [a2, hk f hf]; exact h9)
      have h4 := h2.trans (mod_kr (runG ob own r { e with fuel := e.fuel - 1 }).2 own (fun f => { f with own := (runG ob own r { e with fuel := e.fuel - 1 }).1 }) fun _ => rfl)
      refine ⟨h3.same rfl rfl rfl, ?_, h4.kp⟩
      show ((runG ob own r { e with fuel := e.fuel - 1 }).2.comp ++ [k]).length + (runG ob own r { e with fuel := e.fuel - 1 }).2.fuel ≤ _
      rw [List.length_append]
      have : (runG ob own r { e with fuel := e.fuel - 1 }).2.comp.length + (runG ob own r { e with fuel := e.fuel - 1 }).2.fuel ≤ e.comp.length + (e.fuel - 1) := hs
      simp only [List.length_cons, List.length_nil]; omega
theorem visit_wk (ho : Wob U ob) {r : Ru} {k : Ky} (hr : RuK U k r) {e : En} (hk : k ∈ U) (hx : frIdx e.st k = none) (h : Wk U e) : Wk U (visit ob r k e) ∧ Kr e.st.length (push e k) (visit ob r k e) := by
  have hp := push_wk h hk hx
  have hl : e.st.length < (push e k).st.length := by show _ < (e.st ++ [_]).length; simp
  have hpk : (push e k).st[e.st.length]? = some ⟨k, e.st.length, false, nilA, []⟩ := by show (e.st ++ [_])[e.st.length]? = _; simp
  unfold visit
  split
  · rename_i q hq
    have hqt := h.qs _ (aGet_mem hq)
    obtain ⟨h1, h2⟩ := hold_wk ho (own := e.st.length) q.tr hqt.mem hp
    have hkey : ∀ f, (holdG ob e.st.length q.tr (push e k)).2.st[e.st.length]? = some f → f.key = k := fun f hf => by
      obtain ⟨f', a1, a2, _⟩ := h2.kp _ _ hpk
      rw [hf] at a1; cases a1; exact a2
    split
    · exact ⟨h1.mod (fun _ => rfl) (fun g hg => hqt) (fun g hg => by rw [hkey g hg]; exact h.qb (k, q) (aGet_mem hq)), (h2.kr _).trans (mod_kr _ _ _ fun _ => rfl)⟩
    · obtain ⟨h3, h4⟩ := comp_wk ho (k := k) hr (h2.lt hl) hkey h1
      exact ⟨h3, (h2.kr _).trans h4⟩
  · exact comp_wk ho hr hl (fun f hf => by rw [hpk] at hf; cases hf; rfl) hp
theorem leave_wk {by_ : Option Nat} {own : Nat} {e0 e : En} {k : Ky} (h0 : own = e0.st.length) (h : Wk U e) (hk : Kr own (push e0 k) e) : Wk U (leave by_ own e).2 ∧ Kq e0 (leave by_ own e).2 ∧ AnB k (leave by_ own e).1 := by
  have hq : Kq e0 e := ⟨hk.su, fun i f hf => by
    have hi := (List.getElem?_eq_some_iff.1 hf).1
    obtain ⟨f1, a1, a2, a3⟩ := (push_kq e0 k).kp i f hf
    obtain ⟨f2, b1, b2, b3⟩ := hk.kp i f1 a1
    exact ⟨f2, b1, b2.trans a2, (b3 (by omega)).trans a3⟩⟩
  unfold leave
  split
  · exact ⟨h, hq, .of0 (Nat.zero_le _)⟩
  · split
    · obtain ⟨h1, h2⟩ := bump_wk (by_ := by_) (m := lowOf e own) h
      exact ⟨h1, hq.trans h2, .of0 (Nat.zero_le _)⟩
    · refine ⟨settle_wk h, ⟨hq.su, fun i f hf => ?_⟩, settle_an h fun f hf => ?_⟩
      rotate_left
      · have hpk : (push e0 k).st[own]? = some ⟨k, e0.st.length, false, nilA, []⟩ := by rw [h0]; show (e0.st ++ [_])[e0.st.length]? = _; simp
        obtain ⟨f', a1, a2, _⟩ := hk.kp _ _ hpk
        rw [hf] at a1; cases a1; exact a2
      have hi := (List.getElem?_eq_some_iff.1 hf).1
      obtain ⟨f', a1, a2, a3⟩ := hq.kp i f hf
      refine ⟨f', ?_, a2, a3⟩
      show (e.st.take own)[i]? = some f'
      rw [List.getElem?_take, if_pos (by omega)]; exact a1
theorem obt_w3 (hr : ∀ k, k ∈ U → RuK U k (rule k)) : ∀ d k by_ e, k ∈ U → Wk U e → Wk U (obt rule d k by_ e).2 ∧ Kq e (obt rule d k by_ e).2 ∧ AnB k (obt rule d k by_ e).1
  | 0, k, by_, e, _, h => ⟨h, Kq.refl e, .of0 (Nat.zero_le _)⟩
  | d + 1, k, by_, e, hk, h => by
    rw [obt]
    split
    · exact ⟨h, Kq.refl e, .of0 (Nat.zero_le _)⟩
    · split
      · rename_i s hs; exact ⟨h, Kq.refl e, h.ib (k, s) (aGet_mem hs)⟩
      · split
        · exact ⟨(hit_wk h).1, (hit_wk h).2, .of0 (Nat.zero_le _)⟩
        · rename_i hx
          split
          · rename_i q hq
            refine ⟨(touch_wk h hq).1, (touch_wk h hq).2, ?_⟩
            show AnB k q.ans
            unfold Qy.ans
            split
            · exact .of0 (Nat.zero_le _)
            · exact h.qb (k, q) (okOf_mem hq).1
          · obtain ⟨h1, h2⟩ := visit_wk (ob := fun k b e => obt rule d k (some b) e) (fun k i e => obt_w3 hr d k (some i) e) (hr k hk) hk hx h
            exact leave_wk rfl h1 h2
theorem obt_wk (hr : ∀ k, k ∈ U → RuK U k (rule k)) (d : Nat) (k : Ky) (by_ : Option Nat) (e : En) (hk : k ∈ U) (h : Wk U e) : Wk U (obt rule d k by_ e).2 ∧ Kq e (obt rule d k by_ e).2 :=
  ⟨(obt_w3 hr d k by_ e hk h).1, (obt_w3 hr d k by_ e hk h).2.1⟩
theorem obt_wob (hr : ∀ k, k ∈ U → RuK U k (rule k)) (d : Nat) : Wob U (fun k b e => obt rule d k (some b) e) := fun k i e => obt_w3 hr d k (some i) e
end
end Go.GL

namespace Go.GL
set_option linter.unusedVariables false
theorem set_at {α : Type} {l : List α} {j : Nat} {a r : α} (h : l[j]? = some a) : (l.set j r)[j]? = some r := by
  rw [List.getElem?_set, if_pos rfl, if_pos (List.getElem?_eq_some_iff.1 h).1]
theorem set_off {α : Type} {l : List α} {j k : Nat} {a r : α} (hn : k ≠ j) (h : l[j]? = some a) : (l.set k r)[j]? = some a := by
  rw [List.getElem?_set, if_neg hn]; exact h
theorem fb_at {fs : List FM} {j : Nat} {x : FM} (h : fs[j]? = some x) : (fs.map fB)[j]? = some (Box x.ptr 91 x.cs) := by rw [List.getElem?_map, h]; rfl
theorem qb_at {qs : List (Ky × QM)} {j : Nat} {k : Ky} {x : QM} (h : qs[j]? = some (k, x)) : (qs.map qB)[j]? = some (Box x.ptr 87 x.cs) := by rw [List.getElem?_map, h]; rfl
theorem st_at {fs : List FM} {j : Nat} {x : FM} (h : fs[j]? = some x) : (stC fs)[j]? = some (PtV x.ptr) := by unfold stC; rw [List.getElem?_map, h]; rfl
theorem st_ne {fs : List FM} {j : Nat} {x : FM} (h : fs[j]? = some x) : stC fs ≠ [] := by
  unfold stC
  intro e
  rw [List.map_eq_nil_iff] at e
  rw [e] at h; simp at h
theorem en_at {X : EX} {j : Nat} {x : FM} (h : X.fs[j]? = some x) : X.en.st[j]? = some x.f := by show (X.fs.map FM.f)[j]? = _; rw [List.getElem?_map, h]; rfl
theorem en_len (X : EX) : X.en.st.length = X.fs.length := List.length_map _
section
variable {P : Program} {r : Option Nat} {N : Nat} {ops : Array Oper} {rest : List Oper} {Q : Exit → Act → World → Prop} {E : Env} {ds : List Deferred} {M L : List HP} {F : List Fact}
variable {d : Nat} {ty : TypeId} {pos : String} {aft : Array Edge} {gd : Option (Nat × Bool)}
theorem PV.min3 {x y z : Operand} {k1 : IntKind} {a b c : Int} {aty : Array TypeId} (hx : evalO E x = some (.int k1 a)) (hy : evalO E y = some (.int k1 b)) (hz : evalO E z = some (.int k1 c)) : PV P E M F ⟨some d, .call ⟨.builtin .min, #[x, y, z], aty⟩, ty, pos, aft, gd⟩ (.int k1 (Min.min (Min.min a b) c)) := ⟨rfl,
  (fun ρ hρ w _ => by
    simp [execOp, resolve, hρ _ _ hx, hρ _ _ hy, hρ _ _ hz, invoke, builtin, Builtin.min_, Builtin.min2, ← min_if])⟩
theorem PV.eqlPtrAl {t u n j k b c tb tc : Nat} {yt : TypeId} {x y : Operand} {cb cc : List Value} (i : Nat) (ht : tyPtr P t u = true) (hs : tySize P u n = true) (hn : Nat.ble 1 n = true) (hx : evalO E x = some (PtV b)) (hy : evalO E y = some (PtV c)) (hi : M[i]? = some (Al L)) (hj : L[j]? = some (Box b tb cb)) (hk : L[k]? = some (Box c tc cc)) :
    PV P E M F ⟨some d, .binOp .eql t x y yt, ty, pos, aft, gd⟩ (.bool (decide (j = k))) := ⟨rfl, fun ρ hρ w hw => by
  have h1 := tyPtr_is ht
  unfold tySize at hs
  cases hi2 : P.info? u with
  | none => rw [hi2] at hs; cases hs
  | some q =>
    have hq : q.size = n := by rw [hi2] at hs; simpa using hs
    have hg : (eqGuard .eql t x y (PtV b) (PtV c)).run P w = .ok () w := eqGuard_ptr _ _ _
    by_cases e : j = k
    · subst e
      rw [hj] at hk
      have hbc : b = c := by
        have h3 := al_heap hw hi hj
        by_cases hbc : b = c
        · exact hbc
        · exfalso
          have e1 : (Box b tb cb : HP) = Box c tc cc := by injection hk
          have e2 : (Box b tb cb : HP).p w [b] := ⟨rfl, h3⟩
          rw [e1] at e2
          have := e2.1
          simp at this
          exact hbc this
      subst hbc
      have h2 : (binOp .eql t (PtV b) (PtV b)).run P w = .ok (.bool true) w := run_eql_ptr_same w (⟨b, 0, none⟩ : Addr) h1 hi2
      simp [execOp, hρ _ _ hx, hρ _ _ hy, hg, h2]
    · have hne := al_ne hw hi hj hk e
      have h2 : (binOp .eql t (PtV b) (PtV c)).run P w = .ok (.bool false) w := run_eql_ptr_other w (a := ⟨b, 0, none⟩) (b := ⟨c, 0, none⟩) h1 hi2 (by rw [hq]; have := Nat.le_of_ble_eq_true hn; omega) (by simp [hne]) (al_heap hw hi hj) (al_heap hw hi hk)
      simp [execOp, hρ _ _ hx, hρ _ _ hy, hg, h2, e]⟩
end
theorem St.engClose {w : World} {M : List HP} {F : List Fact} {b : Nat} {bud : Int} {fv : Value} (X : EX) (h : EH) {cs : List Value} {kin kq kat : KV} {co so : List Value} {Lf Lq : List HP} {nc ns : Nat}
    (h1 : cs = [I bud, fv, .map (some h.ib), .map (some h.qb), .slice h.co X.comp.length h.cc, I X.gets, I (X.fuel : Nat), .bool X.out, .slice h.so X.fs.length h.sc, .map (some h.ab)]) (h2 : kin = inC X.inp) (h3 : kq = qsC X.qs) (h4 : kat = atC 0 X.fs) (h5 : nc = X.comp.length) (h6 : co = coC X.comp) (h7 : ns = X.fs.length) (h8 : so = stC X.fs) (h9 : Lf = X.fs.map fB) (h10 : Lq = X.qs.map qB)
    (hw : St w (Box b 65 cs :: MpB h.ib kin :: MpB h.qb kq :: MpB h.ab kat :: OwnSl 9 1 h.co nc h.cc co :: OwnSl 88 1 h.so ns h.sc so :: Al Lf :: Al Lq :: M) F) : St w (EngB b bud fv X :: M) F := by
  subst h1; subst h2; subst h3; subst h4; subst h5; subst h6; subst h7; subst h8; subst h9; subst h10
  exact St.exClose h hw
theorem St.engIClose {w : World} {M : List HP} {F : List Fact} {b : Nat} {bud : Int} {fv : Value} (X : EX) (h : EI) {cs : List Value} {kin kq : KV} {co : List Value} {Lq : List HP} {nc : Nat}
    (h1 : cs = [I bud, fv, .map (some h.ib), .map (some h.qb), .slice h.co X.comp.length h.cc, I X.gets, I (X.fuel : Nat), .bool X.out, .slice h.so h.sn h.sc, .map h.ab]) (h2 : kin = inC X.inp) (h3 : kq = qsC X.qs) (h5 : nc = X.comp.length) (h6 : co = coC X.comp) (h10 : Lq = X.qs.map qB)
    (hw : St w (Box b 65 cs :: MpB h.ib kin :: MpB h.qb kq :: OwnSl 9 1 h.co nc h.cc co :: Al Lq :: M) F) : St w (EngI b bud fv X :: M) F := by
  subst h1; subst h2; subst h3; subst h5; subst h6; subst h10
  exact St.exClose h hw
structure Kp (X Y : EX) : Prop where
  kp : ∀ (i : Nat) x, X.fs[i]? = some x → ∃ y, Y.fs[i]? = some y ∧ y.ptr = x.ptr ∧ y.oa = x.oa ∧ y.ca = x.ca ∧ y.f.tr = x.f.tr ∧ y.f.key = x.f.key
  qk : ∀ (i : Nat) x, X.fs[i]? = some x → aGet Y.qs x.f.key = aGet X.qs x.f.key
theorem Kp.refl (X : EX) : Kp X X := ⟨fun i x h => ⟨x, h, rfl, rfl, rfl, rfl, rfl⟩, fun _ _ _ => rfl⟩
theorem Kp.of {X Y : EX} (h : Y.fs = X.fs) (hq : Y.qs = X.qs) : Kp X Y := ⟨fun i x hx => ⟨x, by rw [h]; exact hx, rfl, rfl, rfl, rfl, rfl⟩, fun _ _ _ => by rw [hq]⟩
theorem Kp.trans {X Y Z : EX} (h : Kp X Y) (h' : Kp Y Z) : Kp X Z := ⟨fun i x hx => by
  obtain ⟨y, a1, a2, a3, a4, a5, a6⟩ := h.kp i x hx
  obtain ⟨z, b1, b2, b3, b4, b5, b6⟩ := h'.kp i y a1
  exact ⟨z, b1, b2.trans a2, b3.trans a3, b4.trans a4, b5.trans a5, b6.trans a6⟩, fun i x hx => by
  obtain ⟨y, a1, a2, a3, a4, a5, a6⟩ := h.kp i x hx
  have := h'.qk i y a1
  rw [a6] at this
  exact this.trans (h.qk i x hx)⟩
theorem Kp.up {X : EX} (b : Nat) (f : Fr → Fr) (hk : ∀ a, (f a).key = a.key) (ht : ∀ a, (f a).tr = a.tr) : Kp X { X with fs := upd X.fs b (FM.up f) } := ⟨fun i x hx => by
  show ∃ y, (upd X.fs b (FM.up f))[i]? = some y ∧ _
  rw [upd_get]
  by_cases e : b = i
  · rw [if_pos e, hx]; exact ⟨FM.up f x, rfl, rfl, rfl, rfl, ht _, hk _⟩
  · rw [if_neg e]; exact ⟨x, hx, rfl, rfl, rfl, rfl, rfl⟩, fun _ _ _ => rfl⟩
theorem FF.keep {X Y : EX} {b : Nat} {w : World} {K : List Nat} (hk : Kp X Y) (h1 : (FF b X.fs).p w K) (h2 : (FF X.fs.length Y.fs).p w K) : (FF b Y.fs).p w K := by
  intro i y hi hy
  by_cases hl : i < X.fs.length
  · obtain ⟨y', a1, a2, a3, a4, a5, a6⟩ := hk.kp i _ (List.getElem?_eq_getElem hl)
    rw [hy] at a1; cases a1
    rw [a3, a5]
    exact h1 i _ hi (List.getElem?_eq_getElem hl)
  · exact h2 i y (by omega) hy
theorem FF.none {fs : List FM} {w : World} {K : List Nat} {n : Nat} (h : fs.length ≤ n) : (FF n fs).p w K := fun i x hi hx => by
  have := (List.getElem?_eq_some_iff.1 hx).1; omega
end Go.GL

namespace Go.GL
set_option linter.unusedVariables false
theorem agg2 {cs : List Value} {off : Nat} {a b : Value} (h0 : cs[off]? = some a) (h1 : cs[off + 1]? = some b) : ∀ k v, [a, b][k]? = some v → cs[off + k]? = some v
  | 0, v, h => by simp at h; subst h; exact h0
  | 1, v, h => by simp at h; subst h; exact h1
  | k + 2, v, h => by simp at h
theorem agg6 {cs : List Value} {off : Nat} {a b c d e f : Value} (h0 : cs[off]? = some a) (h1 : cs[off + 1]? = some b) (h2 : cs[off + 2]? = some c) (h3 : cs[off + 3]? = some d) (h4 : cs[off + 4]? = some e) (h5 : cs[off + 5]? = some f) : ∀ k v, [a, b, c, d, e, f][k]? = some v → cs[off + k]? = some v
  | 0, v, h => by simp at h; subst h; exact h0
  | 1, v, h => by simp at h; subst h; exact h1
  | 2, v, h => by simp at h; subst h; exact h2
  | 3, v, h => by simp at h; subst h; exact h3
  | 4, v, h => by simp at h; subst h; exact h4
  | 5, v, h => by simp at h; subst h; exact h5
  | k + 6, v, h => by simp at h
section
variable {w : World} {M L : List HP} {F : List Fact}
theorem al_over {r r' : HP} {j : Nat} (h : St w (r' :: Al L :: M) F) (hj : L[j]? = some r) : St w (Al (L.set j r') :: M) F := by
  have h1 := St.alOpen h.swap
  have h2 : St w (r :: (L.eraseIdx j ++ (r' :: M))) F := h1.perm ((perm_front hj).append_right _)
  have h3 : St w (r' :: (L.eraseIdx j ++ M)) F := h2.tail.perm List.perm_middle
  exact St.alClose (h3.perm ((perm_set hj).append_right M))
theorem al_take (n : Nat) (h : St w (Al L :: M) F) : St w (Al (L.take n) :: M) F := by
  have h1 := St.alOpen h
  rw [← List.take_append_drop n L, List.append_assoc] at h1
  have h2 : St w (L.drop n ++ (L.take n ++ M)) F := h1.perm (perm_mid _ _ _)
  exact St.alClose h2.dropped
theorem aSet_new {β : Type} : ∀ {l : List (Ky × β)} {k : Ky} {v : β}, aGet l k = none → aSet l k v = l ++ [(k, v)]
  | [], k, v, _ => rfl
  | p :: l, k, v, h => by
    rw [aGet] at h
    split at h
    · cases h
    · rename_i e
      rw [aSet, if_neg e, aSet_new h]; rfl
theorem al_put {qs : List (Ky × QM)} {k : Ky} {v : QM} (h : St w (Box v.ptr 87 v.cs :: Al (qs.map qB) :: M) F) : St w (Al ((aSet qs k v).map qB) :: M) F := by
  cases hq : aGet qs k with
  | none =>
    rw [aSet_new hq, List.map_append]
    exact St.alSnoc (r := qB (k, v)) h
  | some x =>
    obtain ⟨j, h1, h2⟩ := aGet_at hq
    rw [h2 v, List.map_set]
    exact al_over (r' := qB (k, v)) h (qb_at h1)
theorem QF.set {qs : List (Ky × QM)} {k : Ky} {v : QM} {K : List Nat} (h : (QF qs).p w K) (hv : ArrAt w K v.oa (trC v.q.tr)) : (QF (aSet qs k v)).p w K := fun p hp => by
  rcases aSet_mem hp with hp | hp
  · exact h p hp
  · rw [hp]; exact hv
end
theorem kvDel_mid {a b : KV} {k : Ky} {v : Value} (ha : ∀ p, p ∈ a → p.1 ≠ k) : kvDel (a ++ (k, v) :: b) k = a ++ b := by
  induction a with
  | nil => rw [List.nil_append, kvDel, if_pos rfl]; rfl
  | cons p l ih =>
    rw [List.cons_append, kvDel, if_neg (ha p (.head _)), ih fun q hq => ha q (.tail _ hq)]; rfl
theorem at_del {fs : List FM} {own i : Nat} {x : FM} (hn : (fs.map fun x => x.f.key).Nodup) (hx : fs[own + i]? = some x) : kvDel (atC 0 (fs.take own) ++ atC (own + i) (fs.drop (own + i))) x.f.key = atC 0 (fs.take own) ++ atC (own + (i + 1)) (fs.drop (own + (i + 1))) := by
  have hlt := (List.getElem?_eq_some_iff.1 hx).1
  have e1 : fs.drop (own + i) = x :: fs.drop (own + i + 1) := by
    rw [List.drop_eq_getElem_cons hlt]
    congr 1
    exact (List.getElem?_eq_some_iff.1 hx).2
  rw [e1, atC]
  rw [kvDel_mid]
  · rfl
  · intro p hp e
    have h1 : p.1 ∈ (atC 0 (fs.take own)).map Prod.fst := List.mem_map_of_mem (f := Prod.fst) hp
    rw [atC_keys, e] at h1
    obtain ⟨y, hy, hye⟩ := List.mem_map.1 h1
    obtain ⟨j, hj⟩ := List.mem_iff_getElem?.1 hy
    rw [List.getElem?_take] at hj
    split at hj
    · rename_i hjo
      have a1 : (fs.map fun x => x.f.key)[j]? = some y.f.key := by rw [List.getElem?_map, hj]; rfl
      have a2 : (fs.map fun x => x.f.key)[own + i]? = some x.f.key := by rw [List.getElem?_map, hx]; rfl
      rw [hye] at a1
      have := (List.getElem?_inj (List.getElem?_eq_some_iff.1 a1).1 hn).1 (a1.trans a2.symm)
      omega
    · cases hj
theorem cut_own {oa : Option Addr} {g l cap : Nat} (h : oa = some ⟨g, 0, none⟩) (hl : l < cap) : cutA oa l cap 1 = some ⟨g, l, none⟩ := by
  subst h
  unfold cutA
  rw [if_neg (by omega)]
  simp [addr_add]
theorem at_split (fs : List FM) (own : Nat) : atC 0 fs = atC 0 (fs.take own) ++ atC (own + 0) (fs.drop (own + 0)) := by
  by_cases h : own ≤ fs.length
  · have h1 := atC_append 0 (fs.take own) (fs.drop own)
    rw [List.take_append_drop, List.length_take, Nat.min_eq_left h, Nat.zero_add] at h1
    exact h1
  · rw [Nat.add_zero, List.take_of_length_le (by omega), List.drop_of_length_le (by omega)]
    simp [atC]
theorem at_end {fs : List FM} {own i : Nat} (h : fs.length = own + i) : atC 0 (fs.take own) ++ atC (own + i) (fs.drop (own + i)) = atC 0 (fs.take own) := by
  rw [List.drop_of_length_le (by omega)]; simp [atC]
theorem drop_take_snoc {X : EX} {own i : Nat} {x : FM} (hx : X.fs[own + i]? = some x) : (X.en.st.drop own).take (i + 1) = (X.en.st.drop own).take i ++ [x.f] := by
  have h1 : (X.en.st.drop own)[i]? = some x.f := by rw [List.getElem?_drop]; exact en_at hx
  rw [List.take_add_one, h1]; rfl
theorem putAll_snoc (gets : Int) (c : Bool) (g : List Fr) (f : Fr) (qs : List (Ky × Qy)) : putAll gets c (g ++ [f]) qs = aSet (putAll gets c g qs) f.key (toQ gets (c || f.self) f) := by
  unfold putAll; rw [List.foldl_append]; rfl
theorem putAll_has {gets : Int} {c : Bool} : ∀ {g : List Fr} {qs : List (Ky × Qy)} {k : Ky}, (∃ f, f ∈ g ∧ f.key = k) ∨ aGet qs k ≠ none → aGet (putAll gets c g qs) k ≠ none
  | [], qs, k, h => by
    rcases h with ⟨f, hf, _⟩ | h
    · cases hf
    · exact h
  | f :: g, qs, k, h => by
    refine putAll_has (g := g) ?_
    rcases h with ⟨f', hf, hk⟩ | h
    · rcases List.mem_cons.1 hf with rfl | hf
      · right; show aGet (aSet qs f'.key _) k ≠ none; rw [aGet_set, if_pos hk]; simp
      · exact .inl ⟨f', hf, hk⟩
    · right
      show aGet (aSet qs f.key _) k ≠ none
      rw [aGet_set]; split
      · simp
      · exact h
theorem settle_en {X : EX} {own : Nat} {x : FM} {qs : List (Ky × QM)} {v : QM} (hx : X.fs[own]? = some x)
    (hq : qs.map (fun p => (p.1, p.2.q)) = putAll X.gets (decide (1 < (X.en.st.drop own).length)) (X.en.st.drop own) X.en.qs) (hv : aGet qs x.f.key = some v) :
    ({ X with qs := qs, fs := X.fs.take own } : EX).en = (settle own X.en).2 ∧ (settle own X.en).1 = v.q.ans := by
  constructor
  · show (⟨X.inp, qs.map (fun p => (p.1, p.2.q)), X.comp, X.gets, X.fuel, X.out, (X.fs.take own).map FM.f⟩ : En) = _
    rw [hq, List.map_take]; rfl
  · unfold settle
    simp only
    rw [en_at hx]
    simp only
    have h1 := aGet_map (fun p : QM => p.q) qs x.f.key
    rw [hq, hv] at h1
    show (match aGet (putAll X.gets _ _ _) x.f.key with | some q => q.ans | none => nilA) = _
    rw [h1]; rfl
end Go.GL

namespace Go.Proofs.Ythefimaaeilefaa
open Go.GL
set_option linter.unusedVariables false
theorem wa_bv71_1 (x1 : Int) : BuildV Try.prog 71 [(1, .int .i64 x1)] (.agg #[S [], .int .i64 x1]) := fun w => by kernel_rfl
theorem wa_ta71 : tyAgg Try.prog 71 2 = true := by kernel_rfl
theorem wa_tf87_0 : fieldOff Try.prog 87 0 0 = true := by kernel_rfl
theorem wa_tf87_2 : fieldOff Try.prog 87 2 3 = true := by kernel_rfl
theorem wa_ts4 : tyScalar Try.prog 4 = true := by kernel_rfl
theorem wa_tz71 : tySize Try.prog 71 2 = true := by kernel_rfl
theorem mixed : Try.prog.follows .mixedOrders = true := by kernel_rfl
theorem answer_spec {L : List HP} {j : Nat} {x : QM} {M : List HP} {F : List Fact} (hj : L[j]? = some (Box x.ptr 87 x.cs)) : Ctr Try.prog 40 [PtV x.ptr] (Al L :: M) F Unit (fun _ => anV x.q.ans) (fun _ => Al L :: M) (fun _ => F) := by
  refine Ctr.body Try.func40 rfl rfl ?_
  refine TR.seq ?_
  refine TR.region ?_
  refine RL.allocA rfl (Try.zeroValue71) rfl (fun b1 => ?_)
  refine RL.nil ?_
  refine NX.seq ?_
  refine TR.seq ?_
  refine TR.seq ?_
  refine TR.region ?_
  refine RL.move rfl rfl rfl ?_
  refine RL.nilCheck rfl rfl rfl ?_
  refine RL.fieldAddr rfl wa_tf87_2 rfl rfl ?_
  refine RL.loadS rfl rfl (al_one (i := 1) (j := j) rfl hj wa_ts4 rfl) rfl ?_
  refine RL.nil ?_
  refine NX.seq ?_
  refine TR.cond rfl (fun h2 => ?_) (fun h2 => ?_)
  · skip
    have hc : x.q.cyc = true := h2
    refine TR.seq ?_
    refine TR.region ?_
    refine RL.build rfl rfl (wa_bv71_1 _) rfl ?_
    refine RL.storeA 0 rfl rfl rfl rfl wa_tz71 rfl rfl ?_
    refine RL.nil ?_
    refine NX.seq ?_
    refine TR.ret ?_
    refine NX.retThen ?_
    exact NX.retC (j := 0) () rfl rfl rfl wa_ta71 (by show _ = anV x.q.ans; unfold Qy.ans; rw [if_pos hc]; rfl) (fun w hw => (hw.to 2 [1] 0 [] rfl))
  · skip
    have hc : ¬ x.q.cyc = true := by rw [h2]; decide
    refine TR.skip ?_
    refine NX.seq ?_
    refine TR.seq ?_
    refine TR.region ?_
    refine RL.move rfl rfl rfl ?_
    refine RL.nilCheck rfl rfl rfl ?_
    refine RL.fieldAddr rfl wa_tf87_0 rfl rfl ?_
    refine RL.loadS rfl rfl (al_agg (vs := [_, _]) (off := 0) (i := 1) (j := j) rfl hj wa_ta71 (agg2 rfl rfl)) rfl ?_
    refine RL.storeA 0 rfl rfl rfl rfl wa_tz71 rfl rfl ?_
    refine RL.nil ?_
    refine NX.seq ?_
    refine TR.ret ?_
    exact NX.retC (j := 0) () rfl rfl rfl wa_ta71 (by show _ = anV x.q.ans; unfold Qy.ans; rw [if_neg hc]; rfl) (fun w hw => (hw.to 2 [1] 0 [] rfl))
end Go.Proofs.Ythefimaaeilefaa

namespace Go.Proofs.Ythefimaaeilefaa
open Go.GL
set_option linter.unusedVariables false
theorem wb_ta71 : tyAgg Try.prog 71 2 = true := by kernel_rfl
theorem wb_ta87 : tyAgg Try.prog 87 6 = true := by kernel_rfl
theorem wb_tf65_3 : fieldOff Try.prog 65 3 3 = true := by kernel_rfl
theorem wb_tf65_5 : fieldOff Try.prog 65 5 5 = true := by kernel_rfl
theorem wb_tf65_8 : fieldOff Try.prog 65 8 8 = true := by kernel_rfl
theorem wb_tf65_9 : fieldOff Try.prog 65 9 9 = true := by kernel_rfl
theorem wb_tf87_2 : fieldOff Try.prog 87 2 3 = true := by kernel_rfl
theorem wb_tf87_3 : fieldOff Try.prog 87 3 4 = true := by kernel_rfl
theorem wb_tf87_4 : fieldOff Try.prog 87 4 5 = true := by kernel_rfl
theorem wb_tf91_0 : fieldOff Try.prog 91 0 0 = true := by kernel_rfl
theorem wb_tf91_2 : fieldOff Try.prog 91 2 2 = true := by kernel_rfl
theorem wb_tf91_3 : fieldOff Try.prog 91 3 3 = true := by kernel_rfl
theorem wb_tl62 : tySlice Try.prog 62 88 = true := by kernel_rfl
theorem wb_tm61 : tyMap Try.prog 61 9 81 = true := by kernel_rfl
theorem wb_tm63 : tyMap Try.prog 63 9 3 = true := by kernel_rfl
theorem wb_ts3 : tyScalar Try.prog 3 = true := by kernel_rfl
theorem wb_ts4 : tyScalar Try.prog 4 = true := by kernel_rfl
theorem wb_ts61 : tyScalar Try.prog 61 = true := by kernel_rfl
theorem wb_ts62 : tyScalar Try.prog 62 = true := by kernel_rfl
theorem wb_ts63 : tyScalar Try.prog 63 = true := by kernel_rfl
theorem wb_ts88 : tyScalar Try.prog 88 = true := by kernel_rfl
theorem wb_ts9 : tyScalar Try.prog 9 = true := by kernel_rfl
theorem wb_tz71 : tySize Try.prog 71 2 = true := by kernel_rfl
theorem wb_tz87 : tySize Try.prog 87 6 = true := by kernel_rfl
theorem wb_tz88 : tySize Try.prog 88 1 = true := by kernel_rfl
set_option maxHeartbeats 1000000 in
theorem settle_spec {b : Nat} {bud : Int} {fv : Value} {X : EX} {M : List HP} {F : List Fact} {own : Nat} {x0 : FM} {rule : Ky → Ru} {U : List Ky} (hU : ∀ k, k ∈ U → KO k ∧ k.length ≤ 100) (hUl : U.length ≤ 1000) (hW : Wk U X.en) (hx0 : X.fs[own]? = some x0) (hlt : own < X.fs.length) (hnd : (X.fs.map fun x => x.f.key).Nodup) (hQ : QF X.qs ∈ F) (hFF : FF own X.fs ∈ F) : Ctr Try.prog 43 [PtV b, I (own : Nat)] (EngB b bud fv (X) :: M) F {Y : EX // Y.en = (Go.GL.settle own X.en).2 ∧ Y.fs = X.fs.take own ∧ (∀ k', (∀ (i : Nat) x, own ≤ i → X.fs[i]? = some x → x.f.key ≠ k') → aGet Y.qs k' = aGet X.qs k')} (fun _ => anV (Go.GL.settle own X.en).1) (fun Y => EngB b bud fv (Y.1) :: M) (fun Y => QF Y.1.qs :: F) := by
  refine Ctr.body Try.func43 rfl rfl ?_
  refine TR.seq ?_
  refine TR.region ?_
  refine RL.allocA rfl (Try.zeroValue71) rfl (fun b1 => ?_)
  refine RL.nil ?_
  refine NX.seq ?_
  refine TR.seq ?_
  refine TR.pick 2 [1, 0] rfl ?_
  refine TR.open (fun w hw => (St.exOpen (show St w (Ex _ :: _) _ from hw))) (fun ic => ?_)
  refine TR.openP (fun w hw => own_at (i := 5) rfl (st_ne hx0) hw) (fun gs hgs => ?_)
  refine TR.open1 (fun w hw => ⟨(hw.front (i := 5) rfl).ownLen, hw⟩) (fun hol => ?_)
  have hsc := hol.2
  have hcut := cut_own (l := own) (cap := ic.sc) hgs (by omega)
  have hfl := hW.len
  rw [en_len] at hfl
  refine TR.region ?_
  refine RL.move rfl rfl rfl ?_
  refine RL.nilCheck rfl rfl rfl ?_
  refine RL.fieldAddr rfl wb_tf65_8 rfl rfl ?_
  refine RL.load1 0 rfl wb_ts62 rfl rfl rfl rfl ?_
  refine RL.move rfl rfl rfl ?_
  refine RL.sliceLH (l := own) (h := X.fs.length) rfl wb_tl62 wb_tz88 rfl (.inr ⟨_, rfl, rfl⟩) (.inl ⟨rfl, rfl⟩) (by omega) hsc rfl ?_
  refine RL.assign rfl rfl rfl ?_
  refine RL.nil ?_
  refine NX.seq ?_
  refine TR.seq ?_
  refine TR.seq ?_
  refine TR.region ?_
  refine RL.move rfl rfl rfl ?_
  refine RL.lenSlice rfl wb_tl62 rfl rfl ?_
  refine RL.move rfl rfl rfl ?_
  refine RL.nil ?_
  refine NX.seq ?_
  refine TR.block ?_
  rw [at_split X.fs own]
  refine TR.loopP (ι := (Nat × List (Ky × QM))) (fun z => z.1 ≤ X.fs.length - own ∧ z.2.map (fun p => (p.1, p.2.q)) = putAll X.gets (decide (1 < (X.en.st.drop own).length)) ((X.en.st.drop own).take z.1) X.en.qs ∧ (∀ k', (∀ (i : Nat) x, own ≤ i → X.fs[i]? = some x → x.f.key ≠ k') → aGet z.2 k' = aGet X.qs k')) (fun z => [(0, PtV b), (1, I (own : Nat)), (4, PtV b1), (5, .slice (cutA ic.so own ic.sc 1) (X.fs.length - own) (ic.sc - own)), (15, .slice (cutA ic.so own ic.sc 1) (X.fs.length - own) (ic.sc - own)), (16, I ((X.fs.length - own : Nat) : Int)), (17, I (z.1 : Nat))]) (fun z => Box b1 71 [S [], I 0] :: Box b 65 [I bud, fv, .map (some ic.ib), .map (some ic.qb), .slice ic.co X.comp.length ic.cc, I X.gets, I (X.fuel : Nat), .bool X.out, .slice ic.so X.fs.length ic.sc, .map (some ic.ab)] :: MpB ic.ib (inC X.inp) :: MpB ic.qb (qsC z.2) :: MpB ic.ab (atC 0 (X.fs.take own) ++ atC (own + z.1) (X.fs.drop (own + z.1))) :: OwnSl 9 1 ic.co X.comp.length ic.cc (coC X.comp) :: OwnSl 88 1 ic.so X.fs.length ic.sc (stC X.fs) :: Al (X.fs.map fB) :: Al (z.2.map qB) :: M) (fun z => QF z.2 :: F) (fun z => X.fs.length - own - z.1) (0, X.qs) ⟨Nat.zero_le _, rfl, fun _ _ => rfl⟩ ⟨rfl, rfl, rfl, rfl, rfl, rfl, rfl, trivial⟩ (fun w hw => (((hw.to 9 [8, 0, 1, 2, 3, 4, 5, 6, 7] 0 [] rfl)).derive (ψ := QF X.qs) (fun K hf => hf _ hQ))) (fun z hz => ?_)
  refine TR.seq ?_
  refine TR.region ?_
  refine RL.bin rfl rfl rfl BinV.lss rfl ?_
  refine RL.nil ?_
  refine NX.seq ?_
  refine TR.seq ?_
  refine TR.cond rfl (fun h2 => ?_) (fun h2 => ?_)
  · skip
    have hi : z.1 < X.fs.length - own := by have := of_decide_eq_true h2; omega
    obtain ⟨x, hx⟩ : ∃ x, X.fs[own + z.1]? = some x := ⟨_, List.getElem?_eq_getElem (by omega)⟩
    have hko := (hU _ (hW.st x.f (List.mem_of_getElem? (en_at hx))).1).1
    refine TR.skip ?_
    refine NX.seq ?_
    refine TR.seq ?_
    refine TR.block ?_
    refine TR.seq ?_
    refine TR.region ?_
    refine RL.indexAddr rfl wb_tl62 wb_tz88 (congrArg (fun a => some (Value.slice a _ _)) hcut) rfl (by omega) (by omega) rfl ?_
    refine RL.loadS rfl rfl (own_one (i := 6) rfl hgs wb_ts88 (show (stC X.fs)[own + ((z.1 : Nat) : Int).toNat * 1]? = some (PtV x.ptr) from by rw [Nat.mul_one]; exact st_at hx)) rfl ?_
    refine RL.assign rfl rfl rfl ?_
    refine RL.nil ?_
    refine NX.seq ?_
    refine TR.seq ?_
    refine TR.region ?_
    refine RL.move rfl rfl rfl ?_
    refine RL.nilCheck rfl rfl rfl ?_
    refine RL.fieldAddr rfl wb_tf91_3 rfl rfl ?_
    refine RL.loadS rfl rfl (al_agg (vs := [_, _, _, _, _, _]) (off := 3) (i := 7) (j := (own + z.1)) rfl (fb_at hx) wb_ta87 (agg6 rfl rfl rfl rfl rfl rfl)) rfl ?_
    refine RL.allocA rfl (Try.zeroValue87) rfl (fun b3 => ?_)
    refine RL.storeA 0 rfl rfl rfl rfl wb_tz87 rfl rfl ?_
    refine RL.nil ?_
    refine NX.seq ?_
    refine TR.seq ?_
    refine TR.region ?_
    refine RL.move rfl rfl rfl ?_
    refine RL.lenSlice rfl wb_tl62 rfl rfl ?_
    refine RL.bin rfl rfl rfl BinV.gtr rfl ?_
    refine RL.move rfl rfl rfl ?_
    refine RL.part (fun h4 => ?_) (fun h4 => ?_)
    · skip
      have hc := of_decide_eq_true h4
      refine RL.skip rfl rfl rfl ?_
      refine RL.skip rfl rfl rfl ?_
      refine RL.skip rfl rfl rfl ?_
      refine RL.skip rfl rfl rfl ?_
      refine RL.pickT rfl rfl rfl rfl ?_
      refine RL.fieldAddr rfl wb_tf87_2 rfl rfl ?_
      refine RL.store1 0 rfl wb_ts4 rfl rfl rfl rfl rfl ?_
      refine RL.nil ?_
      refine NX.seq ?_
      refine TR.seq ?_
      refine TR.region ?_
      refine RL.move rfl rfl rfl ?_
      refine RL.nilCheck rfl rfl rfl ?_
      refine RL.fieldAddr rfl wb_tf65_5 rfl rfl ?_
      refine RL.load1 2 rfl wb_ts3 rfl rfl rfl rfl ?_
      refine RL.fieldAddr rfl wb_tf87_3 rfl rfl ?_
      refine RL.store1 0 rfl wb_ts4 rfl rfl rfl rfl rfl ?_
      refine RL.fieldAddr rfl wb_tf87_4 rfl rfl ?_
      refine RL.store1 0 rfl wb_ts3 rfl rfl rfl rfl rfl ?_
      refine RL.nil ?_
      refine NX.seq ?_
      refine TR.seq ?_
      refine TR.sub (E' := [(0, _), (1, _), (4, _), (5, _), (7, _), (8, _), (15, _), (16, _), (17, _), (18, _), (19, _), (20, _), (21, _), (22, _), (23, _), (24, _), (25, _), (26, _), (27, _), (28, _), (29, _), (30, _), (31, _), (32, _), (33, _), (34, _), (35, _), (36, _), (37, _), (38, _), (39, _), (40, _)]) ⟨rfl, rfl, rfl, rfl, rfl, rfl, rfl, rfl, rfl, rfl, rfl, rfl, rfl, rfl, rfl, rfl, rfl, rfl, rfl, rfl, rfl, rfl, rfl, rfl, rfl, rfl, rfl, rfl, rfl, rfl, rfl, rfl, trivial⟩ ?_
      refine TR.draw mixed ?_
      apply AR.more [(0, _), (1, _), (2, _), (3, _), (4, _), (5, _), (6, _), (7, _)]
      refine AR.eff [0, 1, 2, 3, 4, 5, 6, 7] 8 [0, 1, 2, 3, 4, 5, 6, 7, 8] ⟨QOne.yes rfl rfl rfl (PV.move rfl), QOne.yes rfl rfl rfl (PV.nilCheck rfl), QOne.yes rfl rfl rfl (PV.fieldAddr wb_tf65_3 rfl), QOne.yes rfl rfl rfl (PV.load1 2 wb_ts61 rfl rfl rfl), QOne.yes rfl rfl rfl (PV.move rfl), QOne.yes rfl rfl rfl (PV.nilCheck rfl), QOne.yes rfl rfl rfl (PV.fieldAddr wb_tf91_0 rfl), QOne.yes rfl rfl rfl (PV.loadS rfl (al_one (i := 8) (j := (own + z.1)) rfl (fb_at hx) wb_ts9 rfl)), trivial⟩ rfl rfl rfl rfl rfl rfl rfl (EV.mapUpdate 4 wb_tm61 rfl rfl rfl hko rfl) (fun _ => ?_)
      refine AR.done [3, 7, 0, 1, 2, 4, 5, 6] rfl ?_
      refine AR.last [] [0, 1, 2, 3, 4, 5, 6, 7, 8] trivial rfl rfl rfl ?_
      refine NX.sub (E' := [(0, _), (1, _), (4, _), (5, _), (7, _), (8, _), (15, _), (16, _), (17, _), (18, _), (19, _), (20, _), (21, _), (22, _), (23, _), (24, _), (25, _), (26, _), (27, _), (28, _), (29, _), (30, _), (31, _), (32, _), (33, _), (34, _), (35, _), (36, _), (37, _), (38, _), (39, _), (40, _), (41, _), (42, _), (43, _), (44, _), (45, _), (46, _), (47, _), (48, _)]) ⟨rfl, rfl, rfl, rfl, rfl, rfl, rfl, rfl, rfl, rfl, rfl, rfl, rfl, rfl, rfl, rfl, rfl, rfl, rfl, rfl, rfl, rfl, rfl, rfl, rfl, rfl, rfl, rfl, rfl, rfl, rfl, rfl, rfl, rfl, rfl, rfl, rfl, rfl, rfl, rfl, trivial⟩ ?_
      refine NX.seq ?_
      refine TR.sub (E' := [(0, _), (1, _), (4, _), (5, _), (7, _), (8, _), (15, _), (16, _), (17, _), (18, _), (19, _), (20, _), (21, _), (22, _), (23, _), (24, _), (25, _), (26, _), (27, _), (28, _), (29, _), (30, _), (31, _), (32, _), (33, _), (34, _), (35, _), (36, _), (37, _), (38, _), (39, _), (40, _), (41, _), (42, _), (43, _), (44, _), (45, _), (46, _), (47, _), (48, _)]) ⟨rfl, rfl, rfl, rfl, rfl, rfl, rfl, rfl, rfl, rfl, rfl, rfl, rfl, rfl, rfl, rfl, rfl, rfl, rfl, rfl, rfl, rfl, rfl, rfl, rfl, rfl, rfl, rfl, rfl, rfl, rfl, rfl, rfl, rfl, rfl, rfl, rfl, rfl, rfl, rfl, trivial⟩ ?_
      refine TR.draw mixed ?_
      apply AR.more [(0, _), (1, _), (2, _), (3, _), (4, _), (5, _), (6, _), (7, _)]
      refine AR.eff [0, 1, 2, 3, 4, 5, 6, 7] 8 [0, 1, 2, 3, 4, 5, 6, 7, 8] ⟨QOne.yes rfl rfl rfl (PV.move rfl), QOne.yes rfl rfl rfl (PV.nilCheck rfl), QOne.yes rfl rfl rfl (PV.fieldAddr wb_tf65_9 rfl), QOne.yes rfl rfl rfl (PV.load1 2 wb_ts63 rfl rfl rfl), QOne.yes rfl rfl rfl (PV.move rfl), QOne.yes rfl rfl rfl (PV.nilCheck rfl), QOne.yes rfl rfl rfl (PV.fieldAddr wb_tf91_0 rfl), QOne.yes rfl rfl rfl (PV.loadS rfl (al_one (i := 8) (j := (own + z.1)) rfl (fb_at hx) wb_ts9 rfl)), trivial⟩ rfl rfl rfl rfl rfl rfl rfl (EV.delete 5 wb_tm63 rfl rfl hko rfl) (fun _ => ?_)
      refine AR.done [3, 7, 6, 2, 1, 5, 4, 0] rfl ?_
      refine AR.last [] [0, 1, 2, 3, 4, 5, 6, 7, 8] trivial rfl rfl rfl ?_
      refine NX.sub (E' := [(0, _), (1, _), (4, _), (5, _), (7, _), (8, _), (15, _), (16, _), (17, _), (18, _), (19, _), (20, _), (21, _), (22, _), (23, _), (24, _), (25, _), (26, _), (27, _), (28, _), (29, _), (30, _), (31, _), (32, _), (33, _), (34, _), (35, _), (36, _), (37, _), (38, _), (39, _), (40, _), (41, _), (42, _), (43, _), (44, _), (45, _), (46, _), (47, _), (48, _), (49, _), (50, _), (51, _), (52, _), (53, _), (54, _), (55, _), (56, _)]) ⟨rfl, rfl, rfl, rfl, rfl, rfl, rfl, rfl, rfl, rfl, rfl, rfl, rfl, rfl, rfl, rfl, rfl, rfl, rfl, rfl, rfl, rfl, rfl, rfl, rfl, rfl, rfl, rfl, rfl, rfl, rfl, rfl, rfl, rfl, rfl, rfl, rfl, rfl, rfl, rfl, rfl, rfl, rfl, rfl, rfl, rfl, rfl, rfl, trivial⟩ ?_
      refine NX.off ?_
      refine NX.seq ?_
      refine TR.region ?_
      refine RL.bin rfl rfl rfl (BinV.add _ rfl (by omega) (by omega)) rfl ?_
      refine RL.move rfl rfl rfl ?_
      refine RL.nil ?_
      have hcc : (decide (1 < (X.en.st.drop own).length)) = true := decide_eq_true (by rw [List.length_drop, en_len]; omega)
      refine NX.roundP (z.1 + 1, aSet z.2 x.f.key (⟨b3, toQ X.gets (true || x.f.self) x.f, x.oa, x.ca⟩ : QM)) ⟨by omega, by
        show (aSet z.2 x.f.key (⟨b3, toQ X.gets (true || x.f.self) x.f, x.oa, x.ca⟩ : QM)).map (fun p => (p.1, p.2.q)) = putAll X.gets (decide (1 < (X.en.st.drop own).length)) ((X.en.st.drop own).take (z.1 + 1)) X.en.qs
        rw [drop_take_snoc hx, putAll_snoc, ← hz.2.1, hcc]
        exact aSet_map (fun p : QM => p.q) z.2 x.f.key (⟨b3, toQ X.gets (true || x.f.self) x.f, x.oa, x.ca⟩ : QM), fun j hj => by
        show aGet (aSet z.2 x.f.key (⟨b3, toQ X.gets (true || x.f.self) x.f, x.oa, x.ca⟩ : QM)) j = _
        rw [aGet_set, if_neg (hj _ x (by omega) hx)]
        exact hz.2.2 j hj⟩ (by show X.fs.length - own - (z.1 + 1) < X.fs.length - own - z.1; omega) ⟨rfl, rfl, rfl, rfl, rfl, rfl, rfl, trivial⟩ (fun w hw => (by
        have h1 : St w (Al ((aSet z.2 x.f.key (⟨b3, toQ X.gets (true || x.f.self) x.f, x.oa, x.ca⟩ : QM)).map qB) :: Box b1 71 [S [], I 0] :: Box b 65 [I bud, fv, .map (some ic.ib), .map (some ic.qb), .slice ic.co X.comp.length ic.cc, I X.gets, I (X.fuel : Nat), .bool X.out, .slice ic.so X.fs.length ic.sc, .map (some ic.ab)] :: MpB ic.ib (inC X.inp) :: MpB ic.qb (kvSet (qsC z.2) x.f.key (PtV b3)) :: MpB ic.ab (kvDel (atC 0 (X.fs.take own) ++ atC (own + z.1) (X.fs.drop (own + z.1))) x.f.key) :: OwnSl 9 1 ic.co X.comp.length ic.cc (coC X.comp) :: OwnSl 88 1 ic.so X.fs.length ic.sc (stC X.fs) :: Al (X.fs.map fB) :: M) (QF z.2 :: F) := al_put (v := (⟨b3, toQ X.gets (true || x.f.self) x.f, x.oa, x.ca⟩ : QM)) (show St w (_ :: _ :: _ :: _ :: _ :: _ :: _ :: _ :: _ :: _ :: M) (QF z.2 :: F) from hw.to 10 [0, 9, 1, 2, 3, 4, 5, 6, 7, 8] 1 [0] rfl)
        rw [show kvSet (qsC z.2) x.f.key (PtV b3) = qsC (aSet z.2 x.f.key (⟨b3, toQ X.gets (true || x.f.self) x.f, x.oa, x.ca⟩ : QM)) from qsC_set z.2 x.f.key (⟨b3, toQ X.gets (true || x.f.self) x.f, x.oa, x.ca⟩ : QM), at_del hnd hx] at h1
        have h2 := h1.derive (ψ := QF (aSet z.2 x.f.key (⟨b3, toQ X.gets (true || x.f.self) x.f, x.oa, x.ca⟩ : QM))) (fun K hf => QF.set (hf (QF z.2) (.head _)) (hf (FF own X.fs) (.tail _ hFF) _ x (by omega) hx))
        exact h2.to 9 [1, 2, 3, 4, 5, 6, 7, 8, 0] 2 [0] rfl))
    · skip
      have hc := of_decide_eq_false h4
      refine RL.move rfl rfl rfl ?_
      refine RL.nilCheck rfl rfl rfl ?_
      refine RL.fieldAddr rfl wb_tf91_2 rfl rfl ?_
      refine RL.loadS rfl rfl (al_one (i := 8) (j := (own + z.1)) rfl (fb_at hx) wb_ts4 rfl) rfl ?_
      refine RL.pickF rfl rfl rfl rfl ?_
      refine RL.fieldAddr rfl wb_tf87_2 rfl rfl ?_
      refine RL.store1 0 rfl wb_ts4 rfl rfl rfl rfl rfl ?_
      refine RL.nil ?_
      refine NX.seq ?_
      refine TR.seq ?_
      refine TR.region ?_
      refine RL.move rfl rfl rfl ?_
      refine RL.nilCheck rfl rfl rfl ?_
      refine RL.fieldAddr rfl wb_tf65_5 rfl rfl ?_
      refine RL.load1 2 rfl wb_ts3 rfl rfl rfl rfl ?_
      refine RL.fieldAddr rfl wb_tf87_3 rfl rfl ?_
      refine RL.store1 0 rfl wb_ts4 rfl rfl rfl rfl rfl ?_
      refine RL.fieldAddr rfl wb_tf87_4 rfl rfl ?_
      refine RL.store1 0 rfl wb_ts3 rfl rfl rfl rfl rfl ?_
      refine RL.nil ?_
      refine NX.seq ?_
      refine TR.seq ?_
      refine TR.sub (E' := [(0, _), (1, _), (4, _), (5, _), (7, _), (8, _), (15, _), (16, _), (17, _), (18, _), (19, _), (20, _), (21, _), (22, _), (23, _), (24, _), (25, _), (26, _), (27, _), (28, _), (29, _), (30, _), (31, _), (32, _), (33, _), (34, _), (35, _), (36, _), (37, _), (38, _), (39, _), (40, _)]) ⟨rfl, rfl, rfl, rfl, rfl, rfl, rfl, rfl, rfl, rfl, rfl, rfl, rfl, rfl, rfl, rfl, rfl, rfl, rfl, rfl, rfl, rfl, rfl, rfl, rfl, rfl, rfl, rfl, rfl, rfl, rfl, rfl, trivial⟩ ?_
      refine TR.draw mixed ?_
      apply AR.more [(0, _), (1, _), (2, _), (3, _), (4, _), (5, _), (6, _), (7, _)]
      refine AR.eff [0, 1, 2, 3, 4, 5, 6, 7] 8 [0, 1, 2, 3, 4, 5, 6, 7, 8] ⟨QOne.yes rfl rfl rfl (PV.move rfl), QOne.yes rfl rfl rfl (PV.nilCheck rfl), QOne.yes rfl rfl rfl (PV.fieldAddr wb_tf65_3 rfl), QOne.yes rfl rfl rfl (PV.load1 2 wb_ts61 rfl rfl rfl), QOne.yes rfl rfl rfl (PV.move rfl), QOne.yes rfl rfl rfl (PV.nilCheck rfl), QOne.yes rfl rfl rfl (PV.fieldAddr wb_tf91_0 rfl), QOne.yes rfl rfl rfl (PV.loadS rfl (al_one (i := 8) (j := (own + z.1)) rfl (fb_at hx) wb_ts9 rfl)), trivial⟩ rfl rfl rfl rfl rfl rfl rfl (EV.mapUpdate 4 wb_tm61 rfl rfl rfl hko rfl) (fun _ => ?_)
      refine AR.done [3, 7, 0, 1, 2, 4, 5, 6] rfl ?_
      refine AR.last [] [0, 1, 2, 3, 4, 5, 6, 7, 8] trivial rfl rfl rfl ?_
      refine NX.sub (E' := [(0, _), (1, _), (4, _), (5, _), (7, _), (8, _), (15, _), (16, _), (17, _), (18, _), (19, _), (20, _), (21, _), (22, _), (23, _), (24, _), (25, _), (26, _), (27, _), (28, _), (29, _), (30, _), (31, _), (32, _), (33, _), (34, _), (35, _), (36, _), (37, _), (38, _), (39, _), (40, _), (41, _), (42, _), (43, _), (44, _), (45, _), (46, _), (47, _), (48, _)]) ⟨rfl, rfl, rfl, rfl, rfl, rfl, rfl, rfl, rfl, rfl, rfl, rfl, rfl, rfl, rfl, rfl, rfl, rfl, rfl, rfl, rfl, rfl, rfl, rfl, rfl, rfl, rfl, rfl, rfl, rfl, rfl, rfl, rfl, rfl, rfl, rfl, rfl, rfl, rfl, rfl, trivial⟩ ?_
      refine NX.seq ?_
      refine TR.sub (E' := [(0, _), (1, _), (4, _), (5, _), (7, _), (8, _), (15, _), (16, _), (17, _), (18, _), (19, _), (20, _), (21, _), (22, _), (23, _), (24, _), (25, _), (26, _), (27, _), (28, _), (29, _), (30, _), (31, _), (32, _), (33, _), (34, _), (35, _), (36, _), (37, _), (38, _), (39, _), (40, _), (41, _), (42, _), (43, _), (44, _), (45, _), (46, _), (47, _), (48, _)]) ⟨rfl, rfl, rfl, rfl, rfl, rfl, rfl, rfl, rfl, rfl, rfl, rfl, rfl, rfl, rfl, rfl, rfl, rfl, rfl, rfl, rfl, rfl, rfl, rfl, rfl, rfl, rfl, rfl, rfl, rfl, rfl, rfl, rfl, rfl, rfl, rfl, rfl, rfl, rfl, rfl, trivial⟩ ?_
      refine TR.draw mixed ?_
      apply AR.more [(0, _), (1, _), (2, _), (3, _), (4, _), (5, _), (6, _), (7, _)]
      refine AR.eff [0, 1, 2, 3, 4, 5, 6, 7] 8 [0, 1, 2, 3, 4, 5, 6, 7, 8] ⟨QOne.yes rfl rfl rfl (PV.move rfl), QOne.yes rfl rfl rfl (PV.nilCheck rfl), QOne.yes rfl rfl rfl (PV.fieldAddr wb_tf65_9 rfl), QOne.yes rfl rfl rfl (PV.load1 2 wb_ts63 rfl rfl rfl), QOne.yes rfl rfl rfl (PV.move rfl), QOne.yes rfl rfl rfl (PV.nilCheck rfl), QOne.yes rfl rfl rfl (PV.fieldAddr wb_tf91_0 rfl), QOne.yes rfl rfl rfl (PV.loadS rfl (al_one (i := 8) (j := (own + z.1)) rfl (fb_at hx) wb_ts9 rfl)), trivial⟩ rfl rfl rfl rfl rfl rfl rfl (EV.delete 5 wb_tm63 rfl rfl hko rfl) (fun _ => ?_)
      refine AR.done [3, 7, 6, 2, 1, 5, 4, 0] rfl ?_
      refine AR.last [] [0, 1, 2, 3, 4, 5, 6, 7, 8] trivial rfl rfl rfl ?_
      refine NX.sub (E' := [(0, _), (1, _), (4, _), (5, _), (7, _), (8, _), (15, _), (16, _), (17, _), (18, _), (19, _), (20, _), (21, _), (22, _), (23, _), (24, _), (25, _), (26, _), (27, _), (28, _), (29, _), (30, _), (31, _), (32, _), (33, _), (34, _), (35, _), (36, _), (37, _), (38, _), (39, _), (40, _), (41, _), (42, _), (43, _), (44, _), (45, _), (46, _), (47, _), (48, _), (49, _), (50, _), (51, _), (52, _), (53, _), (54, _), (55, _), (56, _)]) ⟨rfl, rfl, rfl, rfl, rfl, rfl, rfl, rfl, rfl, rfl, rfl, rfl, rfl, rfl, rfl, rfl, rfl, rfl, rfl, rfl, rfl, rfl, rfl, rfl, rfl, rfl, rfl, rfl, rfl, rfl, rfl, rfl, rfl, rfl, rfl, rfl, rfl, rfl, rfl, rfl, rfl, rfl, rfl, rfl, rfl, rfl, rfl, rfl, trivial⟩ ?_
      refine NX.off ?_
      refine NX.seq ?_
      refine TR.region ?_
      refine RL.bin rfl rfl rfl (BinV.add _ rfl (by omega) (by omega)) rfl ?_
      refine RL.move rfl rfl rfl ?_
      refine RL.nil ?_
      have hcc : (decide (1 < (X.en.st.drop own).length)) = false := decide_eq_false (by rw [List.length_drop, en_len]; omega)
      refine NX.roundP (z.1 + 1, aSet z.2 x.f.key (⟨b3, toQ X.gets (false || x.f.self) x.f, x.oa, x.ca⟩ : QM)) ⟨by omega, by
        show (aSet z.2 x.f.key (⟨b3, toQ X.gets (false || x.f.self) x.f, x.oa, x.ca⟩ : QM)).map (fun p => (p.1, p.2.q)) = putAll X.gets (decide (1 < (X.en.st.drop own).length)) ((X.en.st.drop own).take (z.1 + 1)) X.en.qs
        rw [drop_take_snoc hx, putAll_snoc, ← hz.2.1, hcc]
        exact aSet_map (fun p : QM => p.q) z.2 x.f.key (⟨b3, toQ X.gets (false || x.f.self) x.f, x.oa, x.ca⟩ : QM), fun j hj => by
        show aGet (aSet z.2 x.f.key (⟨b3, toQ X.gets (false || x.f.self) x.f, x.oa, x.ca⟩ : QM)) j = _
        rw [aGet_set, if_neg (hj _ x (by omega) hx)]
        exact hz.2.2 j hj⟩ (by show X.fs.length - own - (z.1 + 1) < X.fs.length - own - z.1; omega) ⟨rfl, rfl, rfl, rfl, rfl, rfl, rfl, trivial⟩ (fun w hw => (by
        have h1 : St w (Al ((aSet z.2 x.f.key (⟨b3, toQ X.gets (false || x.f.self) x.f, x.oa, x.ca⟩ : QM)).map qB) :: Box b1 71 [S [], I 0] :: Box b 65 [I bud, fv, .map (some ic.ib), .map (some ic.qb), .slice ic.co X.comp.length ic.cc, I X.gets, I (X.fuel : Nat), .bool X.out, .slice ic.so X.fs.length ic.sc, .map (some ic.ab)] :: MpB ic.ib (inC X.inp) :: MpB ic.qb (kvSet (qsC z.2) x.f.key (PtV b3)) :: MpB ic.ab (kvDel (atC 0 (X.fs.take own) ++ atC (own + z.1) (X.fs.drop (own + z.1))) x.f.key) :: OwnSl 9 1 ic.co X.comp.length ic.cc (coC X.comp) :: OwnSl 88 1 ic.so X.fs.length ic.sc (stC X.fs) :: Al (X.fs.map fB) :: M) (QF z.2 :: F) := al_put (v := (⟨b3, toQ X.gets (false || x.f.self) x.f, x.oa, x.ca⟩ : QM)) (show St w (_ :: _ :: _ :: _ :: _ :: _ :: _ :: _ :: _ :: _ :: M) (QF z.2 :: F) from hw.to 10 [0, 9, 1, 2, 3, 4, 5, 6, 7, 8] 1 [0] rfl)
        rw [show kvSet (qsC z.2) x.f.key (PtV b3) = qsC (aSet z.2 x.f.key (⟨b3, toQ X.gets (false || x.f.self) x.f, x.oa, x.ca⟩ : QM)) from qsC_set z.2 x.f.key (⟨b3, toQ X.gets (false || x.f.self) x.f, x.oa, x.ca⟩ : QM), at_del hnd hx] at h1
        have h2 := h1.derive (ψ := QF (aSet z.2 x.f.key (⟨b3, toQ X.gets (false || x.f.self) x.f, x.oa, x.ca⟩ : QM))) (fun K hf => QF.set (hf (QF z.2) (.head _)) (hf (FF own X.fs) (.tail _ hFF) _ x (by omega) hx))
        exact h2.to 9 [1, 2, 3, 4, 5, 6, 7, 8, 0] 2 [0] rfl))
  · skip
    have hi : X.fs.length = own + z.1 := by have := of_decide_eq_false h2; omega
    have hko := (hU _ (hW.st x0.f (List.mem_of_getElem? (en_at hx0))).1).1
    obtain ⟨v, hv⟩ : ∃ v, aGet z.2 x0.f.key = some v := by
      have h1 := putAll_has (gets := X.gets) (c := (decide (1 < (X.en.st.drop own).length))) (g := (X.en.st.drop own).take z.1) (qs := X.en.qs) (k := x0.f.key) (.inl ⟨x0.f, by rw [List.take_of_length_le (by rw [List.length_drop, en_len]; omega)]; exact List.mem_of_getElem? (i := 0) (by rw [List.getElem?_drop]; exact en_at hx0), rfl⟩)
      rw [← hz.2.1, aGet_map (fun p : QM => p.q)] at h1
      cases hv : aGet z.2 x0.f.key with
      | none => rw [hv] at h1; exact absurd rfl h1
      | some v => exact ⟨v, rfl⟩
    obtain ⟨jq, hjq, _⟩ := aGet_at hv
    refine TR.exit ?_
    refine NX.exitThen ?_
    refine NX.exitThen ?_
    refine NX.exitHere ?_
    refine NX.seq ?_
    refine TR.seq ?_
    refine TR.region ?_
    refine RL.move rfl rfl rfl ?_
    refine RL.move rfl rfl rfl ?_
    refine RL.nilCheck rfl rfl rfl ?_
    refine RL.fieldAddr rfl wb_tf65_8 rfl rfl ?_
    refine RL.load1 1 rfl wb_ts62 rfl rfl rfl rfl ?_
    refine RL.move rfl rfl rfl ?_
    refine RL.sliceLH (l := 0) (h := own) rfl wb_tl62 wb_tz88 rfl (.inl ⟨rfl, rfl⟩) (.inr ⟨_, rfl, rfl⟩) (by omega) (by omega) rfl ?_
    refine RL.nilCheck rfl rfl rfl ?_
    refine RL.fieldAddr rfl wb_tf65_8 rfl rfl ?_
    refine RL.store1 1 rfl wb_ts62 rfl rfl rfl rfl rfl ?_
    refine RL.nil ?_
    refine NX.seq ?_
    refine TR.seq ?_
    refine TR.sub (E' := [(0, _), (4, _), (5, _)]) ⟨rfl, rfl, rfl, trivial⟩ ?_
    refine TR.draw mixed ?_
    apply AR.more [(0, _), (1, _), (2, _), (3, _), (4, _), (5, _), (6, _), (7, _), (8, _), (9, _), (10, _)]
    refine AR.eff [0, 1, 2, 3, 4, 5, 6, 7, 8, 9, 10] 11 [0, 1, 2, 3, 4, 5, 6, 7, 8, 9, 10, 11, 12] ⟨QOne.yes rfl rfl rfl (PV.move rfl), QOne.yes rfl rfl rfl (PV.nilCheck rfl), QOne.yes rfl rfl rfl (PV.fieldAddr wb_tf65_3 rfl), QOne.yes rfl rfl rfl (PV.load1 1 wb_ts61 rfl rfl rfl), QOne.yes rfl rfl rfl (PV.move rfl), QOne.yes rfl rfl rfl (PV.indexAddr wb_tl62 wb_tz88 (congrArg (fun a => some (Value.slice a _ _)) hcut) rfl (by omega) (by omega)), QOne.yes rfl rfl rfl (PV.loadS rfl (own_one (i := 6) rfl hgs wb_ts88 (show (stC X.fs)[own + (0 : Int).toNat * 1]? = some (PtV x0.ptr) from st_at hx0))), QOne.yes rfl rfl rfl (PV.nilCheck rfl), QOne.yes rfl rfl rfl (PV.fieldAddr wb_tf91_0 rfl), QOne.yes rfl rfl rfl (PV.loadS rfl (al_one (i := 7) (j := own) rfl (fb_at hx0) wb_ts9 rfl)), QOne.yes rfl rfl rfl (PV.cast (by rw [qsC_get, hv]; rfl) (PV.lookup 3 wb_tm61 rfl rfl hko rfl Try.zeroValue81)), trivial⟩ rfl rfl rfl rfl rfl rfl rfl (EV.call rfl Try.call40 (Ctr.pick 9 [8, 0, 1, 2, 3, 4, 5, 6, 7] rfl (answer_spec (x := v) (qb_at hjq)))) (fun _ => ?_)
    refine AR.done [10, 3, 9, 8, 2, 1, 7, 6, 0, 5, 4] rfl ?_
    refine AR.eff [] 12 [0, 1, 2, 3, 4, 5, 6, 7, 8, 9, 10, 11, 12] trivial rfl rfl rfl rfl rfl rfl rfl (EV.storeA 1 rfl rfl rfl wb_tz71 rfl rfl) (fun _ => ?_)
    refine AR.last [] [0, 1, 2, 3, 4, 5, 6, 7, 8, 9, 10, 11, 12] trivial rfl rfl rfl ?_
    refine NX.sub (E' := [(4, _), (71, _)]) ⟨rfl, rfl, trivial⟩ ?_
    refine NX.seq ?_
    refine TR.ret ?_
    have hse := settle_en (X := X) (qs := z.2) (v := v) hx0 (by rw [hz.2.1, List.take_of_length_le (by rw [List.length_drop, en_len]; omega)]) hv
    refine NX.retC (j := 1) (⟨{ X with qs := z.2, fs := X.fs.take own }, hse.1, rfl, hz.2.2⟩ : {Y : EX // Y.en = (Go.GL.settle own X.en).2 ∧ Y.fs = X.fs.take own ∧ (∀ k', (∀ (i : Nat) x, own ≤ i → X.fs[i]? = some x → x.f.key ≠ k') → aGet Y.qs k' = aGet X.qs k')}) rfl rfl rfl wb_ta71 (by rw [hse.2]; rfl) (fun w hw => ?_)
    have h1 := hw.to 9 [7, 8, 2, 3, 4, 5, 6, 0] 1 [0] rfl
    have h2 := own_take own (by omega) (show St w (OwnSl 88 1 ic.so X.fs.length ic.sc (stC X.fs) :: _) _ from h1) (by rw [hgs]; simp)
    have h3 := al_take own (show St w (Al (X.fs.map fB) :: _) _ from h2.swap)
    have h4 := St.engClose ({ X with qs := z.2, fs := X.fs.take own }) (⟨ic.ib, ic.qb, ic.ab, ic.co, ic.cc, ic.so, ic.sc⟩ : EH) (show _ = [I bud, fv, .map (some ic.ib), .map (some ic.qb), .slice ic.co X.comp.length ic.cc, I X.gets, I (X.fuel : Nat), .bool X.out, .slice ic.so (X.fs.take own).length ic.sc, .map (some ic.ab)] from by rw [List.length_take, Nat.min_eq_left (by omega)]; show [I bud, fv, .map (some ic.ib), .map (some ic.qb), .slice ic.co X.comp.length ic.cc, I X.gets, I (X.fuel : Nat), .bool X.out, .slice (cutA ic.so 0 ic.sc 1) (own - 0) (ic.sc - 0), .map (some ic.ab)] = _; rw [(cutA_zero hgs).trans hgs.symm]; rfl) rfl rfl (at_end (by omega)) rfl rfl (by show own = (X.fs.take own).length; rw [List.length_take]; omega) (by show (stC X.fs).take (own * 1) = stC (X.fs.take own); unfold stC; rw [List.map_take, Nat.mul_one]) (by show (X.fs.map fB).take own = (X.fs.take own).map fB; rw [List.map_take]) rfl (show St w (_ :: _ :: _ :: _ :: _ :: _ :: _ :: _ :: M) _ from h3.to 8 [2, 3, 4, 5, 6, 1, 0, 7] 0 [] rfl)
    exact h4
end Go.Proofs.Ythefimaaeilefaa

namespace Go.GL
set_option linter.unusedVariables false
theorem CellsAt.at {w : World} {K : List Nat} {b off o : Nat} {cs vs : List Value} (h : CellsAt w K b off cs) (hs : ∀ j v, vs[j]? = some v → cs[o + j]? = some v) : CellsAt w K b (off + o) vs :=
  ⟨h.1, h.2.1, fun j v hv => by rw [Nat.add_assoc]; exact h.2.2 _ v (hs j v hv)⟩
theorem run_tr {P : Program} {w : World} {K : List Nat} {b off T : Nat} {t : Tr} {i : Nat} {p : Ky × An} (h : CellsAt w K b off (trC t)) (hT : tyAgg P T 3 = true) (hp : t[i]? = some p) : Reads P w T ⟨b, off + ((i : Nat) : Int).toNat * 3, none⟩ (.agg #[S p.1, S p.2.s, I p.2.e]) :=
  run_loadCellsAt (cs := [S p.1, S p.2.s, I p.2.e]) (h.at (o := ((i : Nat) : Int).toNat * 3) (by rw [Int.toNat_natCast]; exact trC_at hp)) hT
theorem Ctr.weakX {P : Program} {f : FuncId} {args : List Value} {M M1 : List HP} {F F1 : List Fact} {ι κ : Type} {val : ι → Value} {M' : ι → List HP} {F' : ι → List Fact} {val1 : κ → Value} {M1' : κ → List HP} {F1' : κ → List Fact}
    (h : Ctr P f args M F ι val M' F') (hi : ∀ w, St w M1 F1 → St w M F) (ho : ∀ i w, St w (M' i) (F' i) → ∃ j, val i = val1 j ∧ St w (M1' j) (F1' j)) : Ctr P f args M1 F1 κ val1 M1' F1' := fun w hw =>
  ⟨(h w (hi w hw)).1, fun cs hr => by
    obtain ⟨e, w', fr, ⟨i, he, hs⟩, rest⟩ := (h w (hi w hw)).2 cs hr
    obtain ⟨j, hv, hs'⟩ := ho i w' hs
    exact ⟨e, w', fr, ⟨j, he.trans (by rw [hv]), hs'⟩, rest⟩⟩
section
variable {P : Program} {E : Env} {M : List HP} {F : List Fact} {d : Nat} {ty : TypeId} {pos : String} {aft : Array Edge} {gd : Option (Nat × Bool)}
theorem PV.makeFunc {fn : Fn} {fs cs : List Operand} {fv cv : List Value} (hf : evalArgs E fs = some fv) (hc : evalArgs E cs = some cv) : PV P E M F ⟨some d, .makeFunc fn fs.toArray cs.toArray, ty, pos, aft, gd⟩ (.func fn fv.toArray cv.toArray) := ⟨rfl, fun ρ hρ w _ => by
  simp [execOp, Instr.makeFunc, args_of hρ hf, args_of hρ hc]⟩
end
theorem eng_f {P : Program} {M : List HP} {F : List Fact} {i b t : Nat} {bud : Int} {fv : Value} {X : EX} (hi : M[i]? = some (EngB b bud fv X)) (hT : tyScalar P t = true) : ∀ w, St w M F → Reads P w t ⟨b, 1, none⟩ fv := fun w hw => by
  obtain ⟨h, h1⟩ := (hw.front hi).exOpen
  exact run_loadVar_scalar hT (by rw [cell_of_box (h1.heap (i := 0) rfl)]; rfl)
theorem eng_key {P : Program} {M : List HP} {F : List Fact} {i j b t : Nat} {bud : Int} {fv : Value} {X : EX} {x : FM} (hi : M[i]? = some (EngB b bud fv X)) (hx : X.fs[j]? = some x) (hT : tyScalar P t = true) : ∀ w, St w M F → Reads P w t ⟨x.ptr, 0, none⟩ (S x.f.key) := fun w hw => by
  obtain ⟨h, h1⟩ := (hw.front hi).exOpen
  exact al_one (i := 6) (j := j) rfl (fb_at hx) hT rfl w h1
theorem eng_out {P : Program} {M : List HP} {F : List Fact} {i b t : Nat} {bud : Int} {fv : Value} {X : EX} (hi : M[i]? = some (EngB b bud fv X)) (hT : tyScalar P t = true) : ∀ w, St w M F → Reads P w t ⟨b, 7, none⟩ (.bool X.out) := fun w hw => by
  obtain ⟨h, h1⟩ := (hw.front hi).exOpen
  exact run_loadVar_scalar hT (by rw [cell_of_box (h1.heap (i := 0) rfl)]; rfl)
def AndF (a b : Fact) : Fact := ⟨fun w K => a.p w K ∧ b.p w K, fun h e => ⟨a.mono h.1 e, b.mono h.2 e⟩⟩
def knC (t : Tr) : KV := t.map fun p => (p.1, anV p.2)
theorem knC_get : ∀ (l : Tr) (k : Ky), kvGet (knC l) k = (aGet l k).map anV
  | [], k => rfl
  | p :: l, k => by
    simp only [knC, List.map_cons, kvGet, aGet]
    by_cases e : p.1 = k
    · rw [if_pos e, if_pos e]; rfl
    · rw [if_neg e, if_neg e]; exact knC_get l k
theorem knC_new {l : Tr} {k : Ky} {x : An} (h : aGet l k = none) : kvSet (knC l) k (anV x) = knC (l ++ [(k, x)]) := by
  rw [kvSet_new, knC, knC, List.map_append]; rfl
  intro p hp e
  obtain ⟨q, hq, rfl⟩ := List.mem_map.1 hp
  exact aGet_none.1 h (by rw [← e]; exact List.mem_map_of_mem (f := Prod.fst) hq)
structure Asker (P : Program) (U : List Ky) (T : Type) where
  cf : FuncId
  cap : List Value
  enter : ∀ args w, (callFunc cf args).run P w = .ok (.enter cf args) w
  ok : T → Prop
  blk : T → HP
  fac : T → Fact
  base : List Fact
  stp : Ky → T → An → T → Prop
  bnd : ∀ k s a s2, k ∈ U → ok s → stp k s a s2 → AnB k a
  call : ∀ (k : Ky) (s : T) (M : List HP) (F : List Fact), k ∈ U → ok s → fac s ∈ F → (∀ φ, φ ∈ base → φ ∈ F) →
    Ctr P cf (S k :: cap) (blk s :: M) F {q : An × T // stp k s q.1 q.2 ∧ ok q.2} (fun q => .tuple #[S q.1.1.s, I q.1.1.e]) (fun q => blk q.1.2 :: M) (fun q => fac q.1.2 :: F)
inductive Runs {T : Type} (stp : Ky → T → An → T → Prop) : Ru → T → An → T → Prop
  | ret {a : An} {s : T} : Runs stp (.ret a) s a s
  | ask {k : Ky} {f : An → Ru} {s s1 s2 : T} {x a : An} : stp k s x s1 → Runs stp (f x) s1 a s2 → Runs stp (.ask k f) s a s2
structure Fnv (P : Program) (U : List Ky) (rule : Ky → Ru) where
  ff : FuncId
  enter : ∀ args w, (callFunc ff args).run P w = .ok (.enter ff args) w
  run : ∀ (T : Type) (A : Asker P U T) (k : Ky) (s : T) (M : List HP) (F : List Fact), k ∈ U → A.ok s → A.fac s ∈ F → (∀ φ, φ ∈ A.base → φ ∈ F) →
    Ctr P ff [S k, .func (.func A.cf) [].toArray A.cap.toArray] (A.blk s :: M) F {q : An × T // Runs A.stp (rule k) s q.1 q.2 ∧ A.ok q.2} (fun q => .tuple #[S q.1.1.s, I q.1.1.e]) (fun q => A.blk q.1.2 :: M) (fun q => A.fac q.1.2 :: F)
def Fnv.val {P : Program} {U : List Ky} {rule : Ky → Ru} (V : Fnv P U rule) : Value := .func (.func V.ff) [].toArray [].toArray
structure KpB (n : Nat) (X Y : EX) : Prop where
  kp : ∀ (i : Nat) x, i < n → X.fs[i]? = some x → ∃ y, Y.fs[i]? = some y ∧ y.ptr = x.ptr ∧ y.oa = x.oa ∧ y.ca = x.ca ∧ y.f.tr = x.f.tr ∧ y.f.key = x.f.key
  qk : ∀ (i : Nat) x, i < n → X.fs[i]? = some x → aGet Y.qs x.f.key = aGet X.qs x.f.key
theorem KpB.refl (n : Nat) (X : EX) : KpB n X X := ⟨fun i x _ h => ⟨x, h, rfl, rfl, rfl, rfl, rfl⟩, fun _ _ _ _ => rfl⟩
theorem KpB.trans {n : Nat} {X Y Z : EX} (h : KpB n X Y) (h' : KpB n Y Z) : KpB n X Z := ⟨fun i x hi hx => by
  obtain ⟨y, a1, a2, a3, a4, a5, a6⟩ := h.kp i x hi hx
  obtain ⟨z, b1, b2, b3, b4, b5, b6⟩ := h'.kp i y hi a1
  exact ⟨z, b1, b2.trans a2, b3.trans a3, b4.trans a4, b5.trans a5, b6.trans a6⟩, fun i x hi hx => by
  obtain ⟨y, a1, a2, a3, a4, a5, a6⟩ := h.kp i x hi hx
  have := h'.qk i y hi a1
  rw [a6] at this
  exact this.trans (h.qk i x hi hx)⟩
theorem Kp.b {X Y : EX} (n : Nat) (h : Kp X Y) : KpB n X Y := ⟨fun i x _ hx => h.kp i x hx, fun i x _ hx => h.qk i x hx⟩
theorem KpB.up {X : EX} (own : Nat) (f : FM → FM) : KpB own X { X with fs := upd X.fs own f } := ⟨fun i x hi hx => ⟨x, by
  show (upd X.fs own f)[i]? = some x
  rw [upd_get, if_neg (by omega)]; exact hx, rfl, rfl, rfl, rfl, rfl⟩, fun _ _ _ _ => rfl⟩
theorem KpB.of {n : Nat} {X Y : EX} (h : Y.fs = X.fs) (hq : Y.qs = X.qs) : KpB n X Y := (Kp.of h hq).b n
theorem KpB.kp0 {X X' Y : EX} {x : FM} (h : KpB X.fs.length X' Y) (he : X'.fs = X.fs ++ [x]) (hq : X'.qs = X.qs) : Kp X Y := ⟨fun i z hz => by
  have hi := (List.getElem?_eq_some_iff.1 hz).1
  exact h.kp i z hi (by rw [he, List.getElem?_append_left hi]; exact hz), fun i z hz => by
  have hi := (List.getElem?_eq_some_iff.1 hz).1
  have := h.qk i z hi (by rw [he, List.getElem?_append_left hi]; exact hz)
  rw [hq] at this; exact this⟩
theorem runs_run {ob : Ky → Nat → En → An × En} {own : Nat} {r : Ru} {X Y : EX} {a : An} (h : Runs (fun k X a Y => askG ob own k X.en = (a, Y.en) ∧ KpB own X Y) r X a Y) : runG ob own r X.en = (a, Y.en) ∧ KpB own X Y := by
  induction h with
  | ret => exact ⟨rfl, KpB.refl _ _⟩
  | ask h1 _ ih => rw [runG_ask, h1.1]; exact ⟨ih.1, h1.2.trans ih.2⟩
def ByV (X : EX) (by_ : Option Nat) (bv : Value) : Prop := (by_ = none ∧ bv = .pointer none ∧ X.fs = []) ∨ ∃ b x, by_ = some b ∧ X.fs[b]? = some x ∧ bv = PtV x.ptr
structure XOk (rule : Ky → Ru) (U : List Ky) (d : Nat) (X : EX) : Prop where
  wk : Wk U X.en
  dep : U.length + 1 ≤ X.fs.length + d
  su : X.comp.length + X.fuel ≤ 1099511627776
theorem XOk.pos {rule : Ky → Ru} {U : List Ky} {d : Nat} {X : EX} (h : XOk rule U d X) : 0 < d := by
  have h1 := h.wk.len
  rw [en_len] at h1
  have := h.dep; omega
theorem XOk.kq {rule : Ky → Ru} {U : List Ky} {d : Nat} {X Y : EX} (h : XOk rule U d X) (hw : Wk U Y.en) (hk : Kq X.en Y.en) : XOk rule U d Y := by
  refine ⟨hw, ?_, Nat.le_trans hk.su h.su⟩
  have h1 := h.dep
  by_cases h0 : X.fs.length = 0
  · omega
  · have := hk.lt (i := X.fs.length - 1) (by rw [en_len]; omega)
    rw [en_len] at this; omega
theorem XOk.kr {rule : Ky → Ru} {U : List Ky} {d i : Nat} {X Y : EX} (h : XOk rule U d X) (hw : Wk U Y.en) (hk : Kr i X.en Y.en) : XOk rule U d Y := by
  refine ⟨hw, ?_, Nat.le_trans hk.su h.su⟩
  have h1 := h.dep
  by_cases h0 : X.fs.length = 0
  · omega
  · have := hk.lt (i := X.fs.length - 1) (by rw [en_len]; omega)
    rw [en_len] at this; omega
def noteF (k : Ky) (a : An) (oa : Option Addr) (ca : Nat) (x : FM) : FM := ⟨x.ptr, { x.f with tr := x.f.tr ++ [(k, a)] }, oa, ca⟩
theorem note_en {X : EX} {own : Nat} {k : Ky} {a : An} {oa : Option Addr} {ca : Nat} : ({ X with fs := upd X.fs own (noteF k a oa ca) } : EX).en = addTr X.en own k a := by
  show (⟨X.inp, _, X.comp, X.gets, X.fuel, X.out, (upd X.fs own (noteF k a oa ca)).map FM.f⟩ : En) = _
  rw [upd_map_com FM.f (noteF k a oa ca) (fun f => { f with tr := f.tr ++ [(k, a)] }) (fun _ => rfl)]; rfl
theorem upd_atC (f : FM → FM) (hk : ∀ a, (f a).f.key = a.f.key) : ∀ (n : Nat) (l : List FM) (j : Nat), atC n (upd l j f) = atC n l
  | n, [], j => by simp [upd]
  | n, a :: l, 0 => by simp only [upd, atC, hk]
  | n, a :: l, j + 1 => by simp only [upd, atC, upd_atC f hk (n + 1) l j]
theorem ask_new {ob : Ky → Nat → En → An × En} {X Y : EX} {own : Nat} {k : Ky} {x : FM} {a : An} {oa : Option Addr} {ca : Nat} (hx : X.fs[own]? = some x) (hn : aGet x.f.tr k = none) (ha : (ob k own X.en).1 = a) (hy : Y.en = (ob k own X.en).2) : askG ob own k X.en = (a, ({ Y with fs := upd Y.fs own (noteF k a oa ca) } : EX).en) := by
  unfold askG
  rw [trOf_is (en_at hx), hn, note_en, ha, hy]
theorem ask_old {ob : Ky → Nat → En → An × En} {X : EX} {own : Nat} {k : Ky} {x : FM} {a : An} (hx : X.fs[own]? = some x) (hn : aGet x.f.tr k = some a) : askG ob own k X.en = (a, X.en) := by
  unfold askG
  rw [trOf_is (en_at hx), hn]
theorem FF.up {fs : List FM} {own : Nat} {f : FM → FM} {w : World} {K : List Nat} (h : (FF (own + 1) fs).p w K) : (FF (own + 1) (upd fs own f)).p w K := fun i x hi hx => by
  rw [upd_get, if_neg (by omega)] at hx
  exact h i x hi hx
end Go.GL

namespace Go.Proofs.Ythefimaaeilefaa
open Go.GL
set_option linter.unusedVariables false
theorem wc_bs85_1_0 (x00 : List UInt8) (x010 : List UInt8) (x011 : Int) : BuildSV Try.prog 85 103 1 [(0, .agg #[S x00, S x010, .int .i64 x011])] [S x00, S x010, .int .i64 x011] := fun w => by kernel_rfl
theorem wc_bv103_0_1 (x0 : List UInt8) (x10 : List UInt8) (x11 : Int) : BuildV Try.prog 103 [(0, S x0), (1, .agg #[S x10, .int .i64 x11])] (.agg #[S x0, S x10, .int .i64 x11]) := fun w => by kernel_rfl
theorem wc_ni85 : noInt Try.prog 85 = true := by kernel_rfl
theorem wc_ta71 : tyAgg Try.prog 71 2 = true := by kernel_rfl
theorem wc_te103 : tyElem Try.prog 103 3 40 = true := by kernel_rfl
theorem wc_tf71_0 : fieldOff Try.prog 71 0 0 = true := by kernel_rfl
theorem wc_tf71_1 : fieldOff Try.prog 71 1 1 = true := by kernel_rfl
theorem wc_tf87_1 : fieldOff Try.prog 87 1 2 = true := by kernel_rfl
theorem wc_tf91_3 : fieldOff Try.prog 91 3 3 = true := by kernel_rfl
theorem wc_tl85 : tySlice Try.prog 85 103 = true := by kernel_rfl
theorem wc_tm106 : tyMap Try.prog 106 9 71 = true := by kernel_rfl
theorem wc_ts106 : tyScalar Try.prog 106 = true := by kernel_rfl
theorem wc_ts24 : tyScalar Try.prog 24 = true := by kernel_rfl
theorem wc_ts25 : tyScalar Try.prog 25 = true := by kernel_rfl
theorem wc_ts85 : tyScalar Try.prog 85 = true := by kernel_rfl
theorem wc_ts88 : tyScalar Try.prog 88 = true := by kernel_rfl
theorem wc_ts9 : tyScalar Try.prog 9 = true := by kernel_rfl
theorem wc_tz71 : tySize Try.prog 71 2 = true := by kernel_rfl
theorem wc_tz85 : tySize Try.prog 85 1 = true := by kernel_rfl
def ObC (b : Nat) (bud : Int) (fv : Value) (rule : Ky → Ru) (U : List Ky) (d : Nat) : Prop := ∀ {X : EX} {k : Ky} {by_ : Option Nat} {bv : Value} {M : List HP} {F : List Fact}, XOk rule U d X → k ∈ U → ByV X by_ bv → QF X.qs ∈ F →
  Ctr Try.prog 31 [PtV b, S k, bv] (EngB b bud fv X :: M) F {Y : EX // Y.en = (obt rule d k by_ X.en).2 ∧ Kp X Y} (fun _ => anV (obt rule d k by_ X.en).1) (fun Y => EngB b bud fv Y.1 :: M) (fun Y => QF Y.1.qs :: FF X.fs.length Y.1.fs :: F)
set_option maxHeartbeats 1000000 in
theorem clos_spec {b : Nat} {bud : Int} {fv : Value} {X : EX} {M : List HP} {F : List Fact} {x : FM} {own kb kc ec fc : Nat} {k : Ky} {rule : Ky → Ru} {U : List Ky} {d : Nat} (hU : ∀ k, k ∈ U → KO k ∧ k.length ≤ 100) (hUl : U.length ≤ 1000) (hr : ∀ k, k ∈ U → RuK U k (rule k)) (hob : ObC b bud fv rule U d) (hX : XOk rule U d X) (hk : k ∈ U) (hx : X.fs[own]? = some x) (hQ : QF X.qs ∈ F) (hFF : FF (own + 1) X.fs ∈ F) (hkc : CellsF kc 0 [.map (some kb)] ∈ F) (hec : CellsF ec 0 [PtV b] ∈ F) (hfc : CellsF fc 0 [PtV x.ptr] ∈ F) : Ctr Try.prog 59 [S k, PtV kc, PtV ec, PtV fc] (EngB b bud fv X :: MpB kb (knC x.f.tr) :: OwnSl 103 3 x.oa x.f.tr.length x.ca (trC x.f.tr) :: M) F {q : An × EX × FM // (askG (fun k b e => obt rule d k (some b) e) own k X.en = (q.1, q.2.1.en) ∧ KpB own X q.2.1) ∧ q.2.1.fs[own]? = some q.2.2 ∧ q.2.2.ptr = x.ptr} (fun q => .tuple #[S q.1.1.s, I q.1.1.e]) (fun q => EngB b bud fv q.1.2.1 :: MpB kb (knC q.1.2.2.f.tr) :: OwnSl 103 3 q.1.2.2.oa q.1.2.2.f.tr.length q.1.2.2.ca (trC q.1.2.2.f.tr) :: M) (fun q => QF q.1.2.1.qs :: FF (own + 1) q.1.2.1.fs :: F) := by
  refine Ctr.body Try.func59 rfl rfl ?_
  refine TR.seq ?_
  refine TR.region ?_
  refine RL.assign rfl rfl rfl ?_
  refine RL.assign rfl rfl rfl ?_
  refine RL.nil ?_
  refine NX.seq ?_
  refine TR.seq ?_
  refine TR.region ?_
  refine RL.loadF rfl rfl (fun w K hF => run_loadCell1 (j := 0) (hF (CellsF kc 0 [.map (some kb)]) hkc) wc_ts106 rfl) rfl ?_
  refine RL.move rfl rfl rfl ?_
  rcases hks : aGet x.f.tr k with _ | a
  · skip
    refine RL.val rfl rfl rfl (PV.cast (by rw [knC_get, hks] <;> rfl) (PV.lookupC 1 wc_tm106 rfl rfl (hU k hk).1 rfl Try.zeroValue71)).2 ?_
    refine RL.move rfl rfl rfl ?_
    refine RL.extract rfl rfl rfl rfl ?_
    refine RL.extract rfl rfl rfl rfl ?_
    refine RL.allocA rfl (Try.zeroValue71) rfl (fun b1 => ?_)
    refine RL.storeA 0 rfl rfl rfl rfl wc_tz71 rfl rfl ?_
    refine RL.assign rfl rfl rfl ?_
    refine RL.nil ?_
    refine NX.seq ?_
    refine TR.seq ?_
    refine TR.seq ?_
    refine TR.region ?_
    refine RL.move rfl rfl rfl ?_
    refine RL.not rfl rfl rfl ?_
    refine RL.nil ?_
    refine NX.seq ?_
    refine TR.condT rfl ?_
    refine TR.seq ?_
    refine TR.region ?_
    refine RL.loadF rfl rfl (fun w K hF => run_loadCell1 (j := 0) (hF (CellsF ec 0 [PtV b]) hec) wc_ts24 rfl) rfl ?_
    refine RL.move rfl rfl rfl ?_
    refine RL.loadF rfl rfl (fun w K hF => run_loadCell1 (j := 0) (hF (CellsF fc 0 [PtV x.ptr]) hfc) wc_ts88 rfl) rfl ?_
    refine RL.call rfl rfl Try.call31 rfl (Ctr.pick 4 [1, 0, 2, 3] rfl (hob hX hk (.inr ⟨own, x, rfl, hx, rfl⟩) hQ)) (fun Y => ?_)
    obtain ⟨Y, hYe, hYk⟩ := Y
    obtain ⟨y, hy, hyp, hyoa, hyca, hytr, hyk⟩ := hYk.kp own x hx
    have hyb : (Y.fs.map fB)[own]? = some (Box x.ptr 91 y.cs) := by rw [← hyp]; exact fb_at hy
    have hks2 : aGet y.f.tr k = none := by rw [hytr]; exact hks
    have htl : y.f.tr.length ≤ U.length := by rw [hytr]; exact (hX.wk.st x.f (List.mem_of_getElem? (en_at hx))).2.len
    dsimp only
    rw [← hyoa, ← hytr, ← hyca]
    refine RL.storeA 1 rfl rfl rfl rfl wc_tz71 rfl rfl ?_
    refine RL.nil ?_
    refine NX.seq ?_
    refine TR.seq ?_
    refine TR.region ?_
    refine RL.loadF rfl rfl (fun w K hF => run_loadCell1 (j := 0) (hF (CellsF kc 0 [.map (some kb)]) (.tail _ (.tail _ hkc))) wc_ts106 rfl) rfl ?_
    refine RL.move rfl rfl rfl ?_
    refine RL.loadA 1 rfl rfl rfl wc_ta71 rfl ?_
    refine RL.ofEV rfl rfl (EV.mapUpdate 2 wc_tm106 rfl rfl rfl (hU k hk).1 rfl) ?_
    refine RL.nil ?_
    refine NX.seq ?_
    refine TR.open (fun w hw => (St.exOpen (show St w (Ex _ :: _) _ from hw))) (fun ic => ?_)
    refine TR.sub (E' := [(0, _), (3, _), (5, _), (6, _), (7, _)]) ⟨rfl, rfl, rfl, rfl, rfl, trivial⟩ ?_
    refine TR.draw mixed ?_
    apply AR.more [(0, _), (1, _), (2, _), (3, _), (4, _), (5, _), (6, _), (7, _), (8, _)]
    refine AR.eff [0, 1, 2, 3, 4, 5, 6, 7, 8] 9 [0, 1, 2, 3, 4, 5, 6, 7, 8, 9, 10, 11, 12, 13, 14] ⟨QOne.yes rfl rfl rfl (PV.loadF rfl (fun w K hF => run_loadCell1 (j := 0) (hF (CellsF fc 0 [PtV x.ptr]) (.tail _ (.tail _ hfc))) wc_ts88 rfl)), QOne.yes rfl rfl rfl (PV.loadF rfl (fun w K hF => run_loadCell1 (j := 0) (hF (CellsF fc 0 [PtV x.ptr]) (.tail _ (.tail _ hfc))) wc_ts88 rfl)), QOne.yes rfl rfl rfl (PV.nilCheck rfl), QOne.yes rfl rfl rfl (PV.fieldAddr wc_tf91_3 rfl), QOne.yes rfl rfl rfl (PV.fieldAddr wc_tf87_1 rfl), QOne.yes rfl rfl rfl (PV.loadS rfl (al_one (i := 6) (j := own) rfl hyb wc_ts85 rfl)), QOne.yes rfl rfl rfl (PV.move rfl), QOne.yes rfl rfl rfl (PV.loadA 8 rfl rfl wc_ta71), QOne.yes rfl rfl rfl (PV.build rfl (wc_bv103_0_1 _ _ _)), trivial⟩ rfl rfl rfl rfl rfl rfl rfl (EV.buildSlice rfl (wc_bs85_1_0 _ _ _)) (fun b2 => ?_)
    refine AR.done [8, 6, 7] rfl ?_
    refine AR.eff [0, 1, 2, 3, 4, 5] 10 [0, 1, 2, 3, 4, 5, 6, 7, 8, 9, 10, 11, 12, 13, 14] ⟨QOne.yes rfl rfl rfl (PV.loadF rfl (fun w K hF => run_loadCell1 (j := 0) (hF (CellsF fc 0 [PtV x.ptr]) (.tail _ (.tail _ hfc))) wc_ts88 rfl)), QOne.yes rfl rfl rfl (PV.loadF rfl (fun w K hF => run_loadCell1 (j := 0) (hF (CellsF fc 0 [PtV x.ptr]) (.tail _ (.tail _ hfc))) wc_ts88 rfl)), QOne.yes rfl rfl rfl (PV.nilCheck rfl), QOne.yes rfl rfl rfl (PV.fieldAddr wc_tf91_3 rfl), QOne.yes rfl rfl rfl (PV.fieldAddr wc_tf87_1 rfl), QOne.yes rfl rfl rfl (PV.loadS rfl (al_one (i := 7) (j := own) rfl hyb wc_ts85 rfl)), trivial⟩ rfl rfl rfl rfl rfl rfl rfl (EV.ofGV (GV.append (j := 11) wc_tl85 wc_ni85 wc_te103 rfl rfl rfl (src_box (i := 0) rfl rfl rfl) (by omega) (by omega))) (fun y1 => ?_)
    refine AR.done [5, 4, 3, 2, 1] rfl ?_
    apply AR.more [(11, _), (12, _), (13, _)]
    refine AR.eff [0, 11, 12, 13] 14 [0, 1, 2, 3, 4, 5, 6, 7, 8, 9, 10, 11, 12, 13, 14] ⟨QOne.yes rfl rfl rfl (PV.loadF rfl (fun w K hF => run_loadCell1 (j := 0) (hF (CellsF fc 0 [PtV x.ptr]) (.tail _ (.tail _ hfc))) wc_ts88 rfl)), QOne.yes rfl rfl rfl (PV.nilCheck rfl), QOne.yes rfl rfl rfl (PV.fieldAddr wc_tf91_3 rfl), QOne.yes rfl rfl rfl (PV.fieldAddr wc_tf87_1 rfl), trivial⟩ rfl rfl rfl rfl rfl rfl rfl (EV.storeAl (vs := [_]) 7 (own) rfl rfl rfl hyb wc_tz85 rfl (Nat.le_of_ble_eq_true rfl) rfl) (fun _ => ?_)
    refine AR.done [13, 0, 12, 11] rfl ?_
    refine AR.last [] [0, 1, 2, 3, 4, 5, 6, 7, 8, 9, 10, 11, 12, 13, 14] trivial rfl rfl rfl ?_
    refine NX.sub (E' := [(5, _), (6, _), (7, _)]) ⟨rfl, rfl, rfl, trivial⟩ ?_
    refine NX.seq ?_
    refine TR.seq ?_
    refine TR.sub (E' := [(6, _), (7, _)]) ⟨rfl, rfl, trivial⟩ ?_
    refine TR.draw mixed ?_
    apply AR.more [(0, _), (1, _), (2, _), (3, _), (4, _), (5, _)]
    refine AR.last [0, 1, 2, 3, 4, 5] [0, 1, 2, 3, 4, 5] ⟨QOne.yes rfl rfl rfl (PV.fieldAddr wc_tf71_0 rfl), QOne.yes rfl rfl rfl (PV.load1 9 wc_ts9 rfl rfl rfl), QOne.yes rfl rfl rfl (PV.fieldAddr wc_tf71_1 rfl), QOne.yes rfl rfl rfl (PV.load1 9 wc_ts25 rfl rfl rfl), QOne.yes rfl rfl rfl (PV.assign rfl), QOne.yes rfl rfl rfl (PV.assign rfl), trivial⟩ rfl rfl rfl ?_
    refine NX.sub (E' := [(5, _), (6, _)]) ⟨rfl, rfl, trivial⟩ ?_
    refine NX.seq ?_
    refine TR.ret ?_
    have hyl : own < Y.fs.length := (List.getElem?_eq_some_iff.1 hy).1
    have hy2 : ({ Y with fs := upd Y.fs own (noteF k (obt rule d k (some own) X.en).1 y1.1 y1.2) } : EX).fs[own]? = some (noteF k (obt rule d k (some own) X.en).1 y1.1 y1.2 y) := by show (upd Y.fs own _)[own]? = _; rw [upd_get, if_pos rfl, hy]; rfl
    refine NX.ret2 (⟨((obt rule d k (some own) X.en).1, ({ Y with fs := upd Y.fs own (noteF k (obt rule d k (some own) X.en).1 y1.1 y1.2) } : EX), (noteF k (obt rule d k (some own) X.en).1 y1.1 y1.2 y)), ⟨ask_new hx hks rfl hYe, (hYk.b own).trans (KpB.up own _)⟩, hy2, hyp⟩ : {q : An × EX × FM // (askG (fun k b e => obt rule d k (some b) e) own k X.en = (q.1, q.2.1.en) ∧ KpB own X q.2.1) ∧ q.2.1.fs[own]? = some q.2.2 ∧ q.2.2.ptr = x.ptr}) rfl rfl rfl rfl (fun w hw => ?_)
    have h1 : St w (EngB b bud fv ({ Y with fs := upd Y.fs own (noteF k (obt rule d k (some own) X.en).1 y1.1 y1.2) } : EX) :: MpB kb (kvSet (knC y.f.tr) k (anV (obt rule d k (some own) X.en).1)) :: OwnSl 103 3 y1.1 (y.f.tr.length + 1) y1.2 (trC y.f.tr ++ [S k, S (obt rule d k (some own) X.en).1.s, I (obt rule d k (some own) X.en).1.e]) :: M) (QF Y.qs :: FF X.fs.length Y.fs :: F) := St.engClose ({ Y with fs := upd Y.fs own (noteF k (obt rule d k (some own) X.en).1 y1.1 y1.2) } : EX) ic (by rw [show ({ Y with fs := upd Y.fs own (noteF k (obt rule d k (some own) X.en).1 y1.1 y1.2) } : EX).fs.length = Y.fs.length from upd_len _ _ _] <;> rfl) rfl rfl (upd_atC (noteF k (obt rule d k (some own) X.en).1 y1.1 y1.2) (fun _ => rfl) 0 Y.fs own).symm rfl rfl (upd_len _ _ _).symm (by exact (up_st (noteF k (obt rule d k (some own) X.en).1 y1.1 y1.2) (fun _ => rfl) Y.fs own).symm) (by show _ = (upd Y.fs own (noteF k (obt rule d k (some own) X.en).1 y1.1 y1.2)).map fB; rw [upd_map_set fB Y.fs own _ hy]; exact congrArg _ (by unfold fB noteF FM.cs; simp only [List.length_append, hyp]; rfl)) rfl ((hw.to 12 [1, 2, 3, 4, 5, 6, 7, 8, 10, 11] 2 [0, 1] rfl))
    rw [knC_new hks2] at h1
    have h2 : trC y.f.tr ++ [S k, S (obt rule d k (some own) X.en).1.s, I (obt rule d k (some own) X.en).1.e] = trC (y.f.tr ++ [(k, (obt rule d k (some own) X.en).1)]) := by rw [trC_append]; rfl
    have h3 : y.f.tr.length + 1 = (y.f.tr ++ [(k, (obt rule d k (some own) X.en).1)]).length := by rw [List.length_append] <;> rfl
    rw [h2, h3] at h1
    have h4 := h1.derive (ψ := FF (own + 1) ({ Y with fs := upd Y.fs own (noteF k (obt rule d k (some own) X.en).1 y1.1 y1.2) } : EX).fs) (fun K hf => FF.up (FF.keep hYk (hf (FF (own + 1) X.fs) (.tail _ (.tail _ hFF))) (hf (FF X.fs.length Y.fs) (.tail _ (.head _)))))
    exact h4.to 0 [] 3 [1, 0] rfl
  · skip
    refine RL.val rfl rfl rfl (PV.cast (by rw [knC_get, hks] <;> rfl) (PV.lookupC 1 wc_tm106 rfl rfl (hU k hk).1 rfl Try.zeroValue71)).2 ?_
    refine RL.move rfl rfl rfl ?_
    refine RL.extract rfl rfl rfl rfl ?_
    refine RL.extract rfl rfl rfl rfl ?_
    refine RL.allocA rfl (Try.zeroValue71) rfl (fun b4 => ?_)
    refine RL.storeA 0 rfl rfl rfl rfl wc_tz71 rfl rfl ?_
    refine RL.assign rfl rfl rfl ?_
    refine RL.nil ?_
    refine NX.seq ?_
    refine TR.seq ?_
    refine TR.seq ?_
    refine TR.region ?_
    refine RL.move rfl rfl rfl ?_
    refine RL.not rfl rfl rfl ?_
    refine RL.nil ?_
    refine NX.seq ?_
    refine TR.condF rfl ?_
    refine TR.skip ?_
    refine NX.seq ?_
    refine TR.seq ?_
    refine TR.sub (E' := [(6, _), (7, _)]) ⟨rfl, rfl, trivial⟩ ?_
    refine TR.draw mixed ?_
    apply AR.more [(0, _), (1, _), (2, _), (3, _), (4, _), (5, _)]
    refine AR.last [0, 1, 2, 3, 4, 5] [0, 1, 2, 3, 4, 5] ⟨QOne.yes rfl rfl rfl (PV.fieldAddr wc_tf71_0 rfl), QOne.yes rfl rfl rfl (PV.load1 0 wc_ts9 rfl rfl rfl), QOne.yes rfl rfl rfl (PV.fieldAddr wc_tf71_1 rfl), QOne.yes rfl rfl rfl (PV.load1 0 wc_ts25 rfl rfl rfl), QOne.yes rfl rfl rfl (PV.assign rfl), QOne.yes rfl rfl rfl (PV.assign rfl), trivial⟩ rfl rfl rfl ?_
    refine NX.sub (E' := [(5, _), (6, _)]) ⟨rfl, rfl, trivial⟩ ?_
    refine NX.seq ?_
    refine TR.ret ?_
    refine NX.ret2 (⟨(a, X, x), ⟨ask_old hx hks, KpB.refl _ _⟩, hx, rfl⟩ : {q : An × EX × FM // (askG (fun k b e => obt rule d k (some b) e) own k X.en = (q.1, q.2.1.en) ∧ KpB own X q.2.1) ∧ q.2.1.fs[own]? = some q.2.2 ∧ q.2.2.ptr = x.ptr}) rfl rfl rfl rfl (fun w hw => ?_)
    have h1 := (show St w (EngB b bud fv X :: MpB kb (knC x.f.tr) :: OwnSl 103 3 x.oa x.f.tr.length x.ca (trC x.f.tr) :: M) F from (hw.to 4 [1, 2, 3] 0 [] rfl))
    exact (h1.derive (ψ := FF (own + 1) X.fs) (fun K hf => hf _ hFF)).derive (ψ := QF X.qs) (fun K hf => hf _ (.tail _ hQ))
end Go.Proofs.Ythefimaaeilefaa

namespace Go.Proofs.Ythefimaaeilefaa
open Go.GL
set_option linter.unusedVariables false
def engBlk (b : Nat) (bud : Int) (fv : Value) (own fp kb : Nat) (X : EX) : HP := Ex (ι := {x : FM // X.fs[own]? = some x ∧ x.ptr = fp}) fun x => [EngB b bud fv X, MpB kb (knC x.1.f.tr), OwnSl 103 3 x.1.oa x.1.f.tr.length x.1.ca (trC x.1.f.tr)]
def engA {b : Nat} {bud : Int} {fv : Value} {rule : Ky → Ru} {U : List Ky} {d : Nat} (hU : ∀ k, k ∈ U → KO k ∧ k.length ≤ 100) (hUl : U.length ≤ 1000) (hr : ∀ k, k ∈ U → RuK U k (rule k)) (hob : ObC b bud fv rule U d) (own fp kb kc ec fc : Nat) : Asker Try.prog U EX where
  cf := 59
  cap := [PtV kc, PtV ec, PtV fc]
  enter := Try.call59
  ok X := XOk rule U d X ∧ ∃ x, X.fs[own]? = some x ∧ x.ptr = fp
  blk := engBlk b bud fv own fp kb
  fac X := AndF (QF X.qs) (FF (own + 1) X.fs)
  base := [CellsF kc 0 [.map (some kb)], CellsF ec 0 [PtV b], CellsF fc 0 [PtV fp]]
  stp k X a Y := askG (fun k b e => obt rule d k (some b) e) own k X.en = (a, Y.en) ∧ KpB own X Y
  bnd := by
    rintro k X a Y hk ⟨hX, x, hx, _⟩ ⟨h1, _⟩
    have h2 := (ask_w3 (obt_wob hr d) (own := own) hk (by rw [en_len]; exact (List.getElem?_eq_some_iff.1 hx).1) hX.wk).2.2
    rw [h1] at h2; exact h2
  call := by
    intro k X M F hk hok hfac hbase
    obtain ⟨hX, x, hx, rfl⟩ := hok
    refine Ctr.weakX (clos_spec (F := QF X.qs :: FF (own + 1) X.fs :: F) (M := M) hU hUl hr hob hX hk hx (.head _) (.tail _ (.head _)) (.tail _ (.tail _ (hbase _ (.head _)))) (.tail _ (.tail _ (hbase _ (.tail _ (.head _))))) (.tail _ (.tail _ (hbase _ (.tail _ (.tail _ (.head _))))))) (fun w hw => ?_) (fun q w hw => ?_)
    · obtain ⟨⟨x', hx', hp'⟩, h1⟩ := St.exOpen (show St w (Ex _ :: M) F from hw)
      rw [hx] at hx'; cases hx'
      exact (h1.derive (ψ := FF (own + 1) X.fs) (fun K hf => (hf _ hfac).2)).derive (ψ := QF X.qs) (fun K hf => (hf _ (.tail _ hfac)).1)
    · obtain ⟨⟨a, Y, y⟩, ⟨h1, h1b⟩, h2, h3⟩ := q
      have hown : own < X.en.st.length := by rw [en_len]; exact (List.getElem?_eq_some_iff.1 hx).1
      have h4 := ask_wk (obt_wob hr d) (own := own) hk hown hX.wk
      rw [h1] at h4
      refine ⟨⟨(a, Y), ⟨h1, h1b⟩, hX.kr h4.1 h4.2, y, h2, h3⟩, rfl, ?_⟩
      have h5 : St w (engBlk b bud fv own x.ptr kb Y :: M) _ := St.exClose (⟨y, h2, h3⟩ : {z : FM // Y.fs[own]? = some z ∧ z.ptr = x.ptr}) hw
      exact (h5.derive (ψ := AndF (QF Y.qs) (FF (own + 1) Y.fs)) (fun K hf => ⟨hf _ (.head _), hf _ (.tail _ (.head _))⟩)).facts (fun φ hφ => by
        rcases List.mem_cons.1 hφ with e | e
        · rw [e]; exact .head _
        · exact .tail _ (.tail _ (.tail _ (.tail _ (.tail _ e)))))
theorem call_spec {b : Nat} {bud : Int} {X : EX} {M : List HP} {F : List Fact} {x : FM} {own kb kc ec fc : Nat} {k : Ky} {rule : Ky → Ru} {U : List Ky} {d : Nat} (hU : ∀ k, k ∈ U → KO k ∧ k.length ≤ 100) (hUl : U.length ≤ 1000) (hr : ∀ k, k ∈ U → RuK U k (rule k)) (V : Fnv Try.prog U rule) (hob : ObC b bud V.val rule U d) (hX : XOk rule U d X) (hk : k ∈ U) (hx : X.fs[own]? = some x) (hQ : QF X.qs ∈ F) (hFF : FF (own + 1) X.fs ∈ F) (hkc : CellsF kc 0 [.map (some kb)] ∈ F) (hec : CellsF ec 0 [PtV b] ∈ F) (hfc : CellsF fc 0 [PtV x.ptr] ∈ F) :
    Ctr Try.prog V.ff [S k, .func (.func 59) [].toArray [PtV kc, PtV ec, PtV fc].toArray] (EngB b bud V.val X :: MpB kb (knC x.f.tr) :: OwnSl 103 3 x.oa x.f.tr.length x.ca (trC x.f.tr) :: M) F {q : An × EX × FM // (runG (fun k b e => obt rule d k (some b) e) own (rule k) X.en = (q.1, q.2.1.en) ∧ KpB own X q.2.1) ∧ XOk rule U d q.2.1 ∧ q.2.1.fs[own]? = some q.2.2 ∧ q.2.2.ptr = x.ptr} (fun q => .tuple #[S q.1.1.s, I q.1.1.e]) (fun q => EngB b bud V.val q.1.2.1 :: MpB kb (knC q.1.2.2.f.tr) :: OwnSl 103 3 q.1.2.2.oa q.1.2.2.f.tr.length q.1.2.2.ca (trC q.1.2.2.f.tr) :: M) (fun q => QF q.1.2.1.qs :: FF (own + 1) q.1.2.1.fs :: F) := by
  refine Ctr.weakX (V.run EX (engA hU hUl hr hob own x.ptr kb kc ec fc) k X M (AndF (QF X.qs) (FF (own + 1) X.fs) :: F) hk ⟨hX, x, hx, rfl⟩ (.head _) (fun φ hφ => ?_)) (fun w hw => ?_) (fun q w hw => ?_)
  · have hφ : φ ∈ [CellsF kc 0 [.map (some kb)], CellsF ec 0 [PtV b], CellsF fc 0 [PtV x.ptr]] := hφ
    rcases List.mem_cons.1 hφ with e | hφ
    · rw [e]; exact .tail _ hkc
    rcases List.mem_cons.1 hφ with e | hφ
    · rw [e]; exact .tail _ hec
    rw [List.mem_singleton.1 hφ]; exact .tail _ hfc
  · have h5 : St w (engBlk b bud V.val own x.ptr kb X :: M) F := St.exClose (⟨x, hx, rfl⟩ : {z : FM // X.fs[own]? = some z ∧ z.ptr = x.ptr}) hw
    exact h5.derive (fun K hf => ⟨hf _ hQ, hf _ hFF⟩)
  · obtain ⟨⟨a, Y⟩, h1, h2⟩ := q
    have h1 : Runs (fun k X a Y => askG (fun k b e => obt rule d k (some b) e) own k X.en = (a, Y.en) ∧ KpB own X Y) (rule k) X a Y := h1
    have h2 : XOk rule U d Y ∧ ∃ y, Y.fs[own]? = some y ∧ y.ptr = x.ptr := h2
    obtain ⟨⟨y, hy, hyp⟩, h3⟩ := St.exOpen (show St w (Ex _ :: M) _ from hw)
    refine ⟨⟨(a, Y, y), runs_run h1, h2.1, hy, hyp⟩, rfl, ?_⟩
    exact ((h3.derive (ψ := FF (own + 1) Y.fs) (fun K hf => (hf (AndF (QF Y.qs) (FF (own + 1) Y.fs)) (.head _)).2)).derive (ψ := QF Y.qs) (fun K hf => (hf (AndF (QF Y.qs) (FF (own + 1) Y.fs)) (.tail _ (.head _))).1)).facts (fun φ hφ => by
      rcases List.mem_cons.1 hφ with e | hφ
      · rw [e]; exact .head _
      rcases List.mem_cons.1 hφ with e | e
      · rw [e]; exact .tail _ (.head _)
      · exact .tail _ (.tail _ (.tail _ (.tail _ e))))
end Go.Proofs.Ythefimaaeilefaa
